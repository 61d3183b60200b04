/- What the plain counterparts answer. Conditions: none. -/
import Derived.Test.YtlcjeomefjmhgaaGreatDoorPu1
import Derived.Test.YtlcjeomefjmhgaaGreatDoorMir
set_option linter.unusedSimpArgs false
set_option linter.unusedVariables false
set_option linter.unnecessarySimpa false
namespace Go.M
open Go.AV
open Classical in
noncomputable def xR (n:Norm):List Span:=if VD0 n then n.Classes else []
theorem yED:CV []:=⟨fun k h=>(by cases h),fun k h=>(by cases h),fun k h=>(by cases h)⟩
theorem z24 (n:Norm):CV (xR n):=by unfold xR;split;rename_i h;exact h.cv;exact yED
theorem zQ4 {n:Norm} (h:NSm n):(xR n).length≤40:=by unfold xR;split;exact h.cl;simp
def zV1 (l:List Span) (t:Int):Int:=l.foldl (fun t s=>max t s.Value) t
def zMN (c:Collation) (l:List Span):Colltable_table:={zQZ c with classes:=l,top:=zV1 l 0}
theorem yEE {l:List Span} (O:l.length≤2000):∀(d k:Nat) (t:Int),l.length-k=d→k≤l.length→zC (fun (x:Int×Int)=>jH l x.1 x.2) ((k:Int),t)=some (zV1 (l.drop k) t):=by
 intro d
 induction d with
 | zero=>
  intro k t z G;rw[List.drop_of_length_le (by omega)];refine zF ?_;simp only[jH,kB (show l.length≤k by omega),cond_false];rfl
 | succ d H=>
  intro k t z G;have h:k<l.length:=by omega
  rw[List.drop_eq_getElem_cons h];rw[zJ (x':=(((k+1:Nat):Int),max t l[k].Value)) (by simp only[jH,yI h,cond_true,zP h,zA,zK (k:=k) (by omega)])];exact H (k+1) _ (by omega) (by omega)
theorem yIQ {c:Collation} {n:Norm} (O:NSm n) (z:zC5 n):vP (zQZ c) n=some (zMN c (xR n)):=by
 obtain⟨e,Y,H⟩:=yD5 O z;unfold vP;rw[Y,zA];have T:(cond (decide (e=0)) (some n.Classes) (some (zQZ c).classes):Option (List Span))=some (xR n):=by
  unfold xR;by_cases h:e=0;rw[if_pos (H.1 h)];simp[h];rw[if_neg (fun Z=>h (H.2 Z))];simp[h,zQZ]
 rw[T,zA];have G:=yEE (l:=xR n) (by have:=zQ4 O;omega) (xR n).length 0 0 (by omega) (by omega)
 rw[List.drop_zero] at G;have k:zC (fun (x:Int×Int)=>jH (xR n) x.1 x.2) (0,(zQZ c).top)=some (zV1 (xR n) 0):=G;rw[k];rfl
theorem zMO {c:Collation} (h:Sm c) {l:List Span} {codes:List Int}:jJ (zMN c l) codes=some (zCV (yG c).Entries codes):=yH8 h (codes:=codes)
theorem zM8 {c:Collation} {l:List Span} (h:CV l) (hl:l.length≤2000) (x:Int):wO (zMN c l) x=some (clE l x):=by
 obtain⟨j,Z,hr,G,z⟩:=zZM (n:=l.length) hl (body:=fun (q:Int×Int)=>zBX (fun x0=>xX x0 (zMN c l) x) q.1 q.2) (fun k=>decide (x≤(nth l k).Hi))
  (fun k _=>by simp only[zBX,kB (Nat.le_refl _),cond_false])
  (fun lo hi h1 h2=>by
   have hm:(lo+hi)/2<l.length:=by omega
   have T:z7 (zMN c l).classes (((lo+hi)/2:Nat):Int)=some (nth l ((lo+hi)/2)):=z1 hm;simp only[zBX,yI h1,cond_true,zOC (show lo+hi≤4611686018427387903 by omega),xX,T,zA,zK (k:=(lo+hi)/2) (by omega)];by_cases hc:x≤(nth l ((lo+hi)/2)).Hi<;>simp[hc])
  (fun i j Y Z hi=>by
   have:=h.hi Y Z;simp only[decide_eq_true_eq] at hi ⊢;omega)
 simp only[decide_eq_false_iff_not,decide_eq_true_eq] at G z;unfold wO zI6;have e0:(zMN c l).classes=l:=rfl;rw[e0,hr,yKK h Z (fun k hk=>by have:=G k hk;omega) z]
 simp only[zA,zH];by_cases H:j<l.length;simp only[yI H,j6,z1 H,zA,Bool.true_and,H,true_and];by_cases O:(nth l j).Lo≤x<;>simp[O];simp only[kB (show l.length≤j by omega),w8,zA,Bool.false_and,cond_false,H,false_and,if_false]
theorem z5R:∀(l:List Span) (t:Int),t≤zV1 l t∧∀s∈l,s.Value≤zV1 l t
 | [],t=>⟨Int.le_refl _,fun s h=>by cases h⟩
 | x::l,t=>by
  have k:=z5R l (max t x.Value);refine⟨by show t≤zV1 l (max t x.Value);omega,fun s hs=>?_⟩
  show s.Value≤zV1 l (max t x.Value);rcases List.mem_cons.1 hs with rfl | hs
  omega;exact k.2 s hs
theorem yOT {l:List Span} (x:Int):clE l x≤zV1 l 0:=by
 unfold clE;cases h:l.find? (zSC x) with
 | none=>exact(z5R l 0).1
 | some s=>exact(z5R l 0).2 s (List.mem_of_find?_eq_some h)
theorem yOU {l:List Span} (h:CV l) (x:Int):0≤clE l x:=by
 unfold clE;cases G:l.find? (zSC x) with
 | none=>exact Int.le_refl _
 | some s=>
  have:=List.mem_of_find?_eq_some G;obtain⟨k,z,rfl⟩:=List.getElem_of_mem this;have:=h.sp k z;rw[zCC z] at this;unfold spOk at this;show 0≤(l[k]).Value;omega
def zJH (p:Nat→Bool):Nat→Nat
 | 0=>0
 | k+1=>if p (k+1) then k+1 else zJH p k
theorem zPT (p:Nat→Bool):∀k,zJH p k≤k
 | 0=>Nat.le_refl _
 | k+1=>by unfold zJH;split;omega;have:=zPT p k;omega
theorem zXM {p : Nat → Bool} {m : Nat} : ∀ {k : Nat}, m ≤ k → (∀ j, m<j → j ≤ k → p j = false) → zJH p k = zJH p m
  | 0, h, _ => by have : m = 0 := by omega
                  rw[this]
  | k+1, h, hp => by
    by_cases e : m = k+1
    · rw[e]
    · unfold zJH
      rw[hp (k+1) (by omega) (Nat.le_refl _)];simp only[Bool.false_eq_true, if_false];rw[zXM (m := m) (by omega) fun j h1 h2 => hp j h1 (by omega)];cases m<;>rfl
def pfx (es:List Entry) (text:List Int) (k:Nat):Bool:=(zCV es (text.take k)).2
def uK (es:List Entry) (text:List Int):Nat:=zJH (pfx es text) text.length
def zD1 (fd:List Int→Bool) (cl:Int→Int):List Int→List Int→List Int→Int→List Int×List Int
 | [],p,s,_=>(p,s)
 | x::r,p,s,h=>if cl x=0 then (p,s++x::r) else if fd (p++ [x])&&decide (h<cl x) then zD1 fd cl r (p++ [x]) s h else zD1 fd cl r p (s++ [x]) (max h (cl x))
theorem zXN {fd:List Int→Bool} {cl:Int→Int}:∀(r p s:List Int) (h:Int),(∀x,cl x≤h)→zD1 fd cl r p s h=(p,s++r)
 | [],p,s,h,_=>by simp[zD1]
 | x::r,p,s,h,k=>by
  have z:=k x;unfold zD1;split;rfl;have e:decide (h<cl x)=false:=by simp;omega
  rw[e,Bool.and_false,if_neg (by simp),zXN r p (s++ [x]) (max h (cl x)) (fun y=>by have:=k y;omega)]
  simp
theorem zPU {fd:List Int→Bool} {cl:Int→Int}:∀(r p s:List Int) (h:Int),p.length≤(zD1 fd cl r p s h).1.length∧(zD1 fd cl r p s h).1.length+(zD1 fd cl r p s h).2.length=p.length+s.length+r.length∧((zD1 fd cl r p s h).1.length=p.length→zD1 fd cl r p s h=(p,s++r))
 | [],p,s,h=>by simp[zD1]
 | x::r,p,s,h=>by
  unfold zD1;split;refine⟨Nat.le_refl _,by simp;omega,fun _=>rfl⟩
  split;have k:=zPU (fd:=fd) (cl:=cl) r (p++ [x]) s h;simp only[List.length_append,List.length_cons,List.length_nil] at k ⊢;exact⟨by omega,by omega,fun e=>by omega⟩;have k:=zPU (fd:=fd) (cl:=cl) r p (s++ [x]) (max h (cl x));simp only[List.length_append,List.length_cons,List.length_nil] at k ⊢;refine⟨k.1,by omega,fun e=>?_⟩;rw[k.2.2 e];simp
section
variable {c:Collation} (hs:Sm c) {l:List Span} (hcv:CV l) (hl:l.length≤2000)
include hs
theorem mL0 {text:List Int} (H:text.length≤2000):∀k,k≤text.length→zC (fun (x:Int)=>kY text (zMN c l) x) (k:Int)=some ((zJH (pfx (yG c).Entries text) k:Nat):Int)
 | 0,_=>by
  refine zF ?_;have:decide ((0:Int)<((0:Nat):Int))=false:=rfl;simp only[kY,this,cond_false];rfl
 | k+1,G=>by
  have z:decide ((0:Int)<((k+1:Nat):Int))=true:=by simp<;>omega
  have O:=mL0 H k (by omega);unfold zJH;cases h:pfx (yG c).Entries text (k+1) with
  | true=>
   rw[if_pos rfl];refine zF ?_;unfold pfx at h;simp only[kY,z,cond_true,zHA G,zA,zMO hs,h]
  | false=>
   rw[if_neg (by simp),←O];refine zJ ?_;unfold pfx at h;simp only[kY,z,cond_true,zHA G,zA,zMO hs,h,cond_false,zDA (k:=k) (by omega)]
omit hs in
theorem yEF {text:List Int} {k:Nat} (O:k≤text.length) (h:zPO (yG c).Entries 0<(k:Int)):pfx (yG c).Entries text k=false:=by
 have z:=zZJ (yG c).Entries 0;unfold pfx zCV;have:(yG c).Entries.find? (fun x=>decide (x.Codes=text.take k))=none:=by
  rw[List.find?_eq_none];intro x H;simp only[decide_eq_true_eq];intro e;have G:=z.2 x H;rw[e] at G;have:(text.take k).length=k:=by simp;omega
  omega
 rw[this]
theorem yMJ {text:List Int} (G:text.length≤2000):zC (fun (x:Int)=>kY text (zMN c l) x) (min (zMN c l).longest (text.length:Int))=some ((uK (yG c).Entries text:Nat):Int):=by have H:=zZJ (yG c).Entries 0;have e:(zMN c l).longest=zPO (yG c).Entries 0:=rfl;rw[e];obtain⟨m,z⟩:∃m:Nat,min (zPO (yG c).Entries 0) (text.length:Int)=(m:Int):=⟨(min (zPO (yG c).Entries 0) (text.length:Int)).toNat,by omega⟩;rw[z,mL0 hs G m (by omega)];unfold uK;rw[zXM (p:=pfx (yG c).Entries text) (m:=m) (k:=text.length) (by omega) fun j O h=>yEF h (by omega)]
omit hs in
theorem yMK {p s r:List Int} {x:Int}:uQ (cpM (p++s++x::r) ((p.length+1:Nat):Int) ((p.length+s.length+1:Nat):Int) (p.length:Int) ((p.length+s.length:Nat):Int)) (p.length:Int) x=some ((p++ [x])++s++r):=by
 have G:((p++s++x::r).drop p.length).take (p.length+s.length-p.length)=s:=by
  rw[List.append_assoc,List.drop_left];have:p.length+s.length-p.length=s.length:=by omega
  rw[this,List.take_left]
 have H:min (p.length+s.length-p.length) (p.length+s.length+1-(p.length+1))=s.length:=by omega
 unfold cpM;simp only[Int.toNat_natCast];rw[G,H,List.take_of_length_le (Nat.le_refl _)];cases s with
 | nil=>
  have z:(p++ []++x::r)=p++x::r:=by simp
  rw[z];have h:(p++x::r).take (p.length+1)=p++ [x]:=by
   rw[List.take_append,List.take_of_length_le (by omega)];simp
  have k:(p++x::r).drop (p.length+1+([]:List Int).length)=r:=by
   rw[List.drop_append,List.drop_of_length_le (by simp)];simp
  rw[h,k];have:p++ [x]++ []++r=p++x::r:=by simp
  rw[this,uP rfl]
 | cons y s=>
  have z:(p++(y::s)++x::r)=p++y::(s++x::r):=by simp
  rw[z];have h:(p++y::(s++x::r)).take (p.length+1)=p++ [y]:=by
   rw[List.take_append,List.take_of_length_le (by omega)];simp
  have k:(p++y::(s++x::r)).drop (p.length+1+(y::s).length)=r:=by
   have:p++y::(s++x::r)=(p++y::(s++ [x]))++r:=by simp
   rw[this,List.drop_left' (by simp;omega)]
  rw[h,k];have:p++ [y]++(y::s)++r=p++y::((y::s)++r):=by simp
  rw[this,uP rfl];simp
include hcv hl
theorem mL1:∀(r p s:List Int) (h:Int),p.length+s.length+r.length≤2000→
  zC (fun (x:Int×Int×Int×(List Int))=>yW (zMN c l) x.1 x.2.1 x.2.2.1 x.2.2.2) ((p.length:Int),h,((p.length+s.length:Nat):Int),p++s++r)=
   some ((((zD1 (fun q=>(zCV (yG c).Entries q).2) (clE l) r p s h).1.length:Nat):Int),(zD1 (fun q=>(zCV (yG c).Entries q).2) (clE l) r p s h).1++(zD1 (fun q=>(zCV (yG c).Entries q).2) (clE l) r p s h).2)
 | [],p,s,h,_=>by
  refine zF ?_;have:decide (((p.length+s.length:Nat):Int)<((p++s++ []).length:Int))=false:=by simp
  simp only[yW,zH,this,Bool.false_and,cond_false];simp[zD1]
 | x::r,p,s,h,hn=>by
  simp only[List.length_cons] at hn;have Z:decide (((p.length+s.length:Nat):Int)<((p++s++x::r).length:Int))=true:=by simp<;>omega
  have hi:z7 (p++s++x::r) ((p.length+s.length:Nat):Int)=some x:=wH (by simp);have G:(zMN c l).top=zV1 l 0:=rfl;by_cases H:h<zV1 l 0
  ·have z:decide (h<(zMN c l).top)=true:=by rw[G];simpa using H
   by_cases O:clE l x=0
   ·refine zF ?_
    simp only[yW,zH,Z,z,Bool.and_self,cond_true,hi,zA,zM8 hcv hl,O,decide_true,Sum.elim_inl];unfold zD1;rw[if_pos O];simp
   ·unfold zD1
    rw[if_neg O];by_cases hk:clE l x≤h
    ·have e:decide (h<clE l x)=false:=by simp;omega
     rw[e,Bool.and_false,if_neg (by simp)];rw[zJ (x':=((p.length:Int),h,((p.length+(s++ [x]).length:Nat):Int),p++(s++ [x])++r)) (by
      have e2:p++(s++ [x])++r=p++s++x::r:=by simp
      have T:p.length+(s++ [x]).length=p.length+s.length+1:=by simp;omega
      rw[e2,T];simp only[yW,zH,Z,z,Bool.and_self,cond_true,hi,zA,zM8 hcv hl,O,hk,decide_true,decide_false,cond_false,Sum.elim_inr,zK (k:=p.length+s.length) (by omega)])]
     have:=mL1 r p (s++ [x]) h (by simp;omega)
     rw[show max h (clE l x)=h by omega];exact this
    ·have e:decide (h<clE l x)=true:=by simp;omega
     rw[e,Bool.and_true];have s1:slc (p++s++x::r) 0 (p.length:Int)=some p:=by
      rw[zHA (by simp)];simp
     have a1:app p [x]=some (p++ [x]):=k7 (by simp;omega)
     cases hf:(zCV (yG c).Entries (p++ [x])).2 with
     | false=>
      rw[if_neg (by simp)];rw[zJ (x':=((p.length:Int),clE l x,((p.length+(s++ [x]).length:Nat):Int),p++(s++ [x])++r)) (by
       have e2:p++(s++ [x])++r=p++s++x::r:=by simp
       have T:p.length+(s++ [x]).length=p.length+s.length+1:=by simp;omega
       rw[e2,T];simp only[yW,zH,Z,z,Bool.and_self,cond_true,hi,zA,zM8 hcv hl,O,hk,decide_false,cond_false,s1,a1,zMO hs,hf,Bool.not_false,Sum.elim_inr,zK (k:=p.length+s.length) (by omega)])]
      have:=mL1 r p (s++ [x]) (clE l x) (by simp;omega)
      rw[show max h (clE l x)=clE l x by omega];exact this
     | true=>
      rw[if_pos rfl];have aj:∃q,slc (p++s++x::r) ((p.length+1:Nat):Int) ((p.length+s.length+1:Nat):Int)=some q:=⟨_,zZD (by omega) (by simp;omega)⟩
      have ak:∃q,slc (p++s++x::r) (p.length:Int) ((p.length+s.length:Nat):Int)=some q:=⟨_,zZD (by omega) (by simp)⟩;obtain⟨q1,ag⟩:=aj;obtain⟨q2,ah⟩:=ak;have Y:=yMK (p:=p) (s:=s) (r:=r) (x:=x);obtain⟨_,_,ad⟩:=zMX Y;have ab:∃q,z7 (cpM (p++s++x::r) ((p.length+1:Nat):Int) ((p.length+s.length+1:Nat):Int) (p.length:Int) ((p.length+s.length:Nat):Int)) (p.length:Int)=some q:=⟨_,zP (by simpa using ad)⟩;obtain⟨q3,ai⟩:=ab;rw[zJ (x':=(((p++ [x]).length:Int),h,(((p++ [x]).length+s.length:Nat):Int),(p++ [x])++s++r)) (by
       have T:(p++ [x]).length+s.length=p.length+s.length+1:=by simp;omega
       have e4:(p++ [x]).length=p.length+1:=by simp
       rw[T,e4];simp only[yW,zH,Z,z,Bool.and_self,cond_true,hi,zA,zM8 hcv hl,O,hk,decide_false,cond_false,s1,a1,zMO hs,hf,Bool.not_true,zK (k:=p.length+s.length) (by omega),zK (k:=p.length) (by omega),ag,ah,ai,Y,Sum.elim_inr])]
      exact mL1 r (p++ [x]) s h (by simp;omega)
  ·have z:decide (h<(zMN c l).top)=false:=by rw[G];simpa using H
   have hm:=zXN (fd:=fun q=>(zCV (yG c).Entries q).2) (cl:=clE l) (x::r) p s h (fun y=>by have:=yOT (l:=l) y;omega)
   rw[hm];refine zF ?_;simp only[yW,zH,Z,z,Bool.and_false,cond_false,List.append_assoc]
noncomputable def stE (c:Collation) (l:List Span) (text:List Int):Int×List Int×List Element:=if uK (yG c).Entries text=0 then (1,text.drop 1,zPQ (yG c) (nth text 0)) else
 ((((zD1 (fun q=>(zCV (yG c).Entries q).2) (clE l) (text.drop (uK (yG c).Entries text)) (text.take (uK (yG c).Entries text)) [] 0).1.length:Nat):Int),(zD1 (fun q=>(zCV (yG c).Entries q).2) (clE l) (text.drop (uK (yG c).Entries text)) (text.take (uK (yG c).Entries text)) [] 0).2,(zCV (yG c).Entries (zD1 (fun q=>(zCV (yG c).Entries q).2) (clE l) (text.drop (uK (yG c).Entries text)) (text.take (uK (yG c).Entries text)) [] 0).1).1)
theorem yEG {text:List Int} (ht:text.length≤2000) (h0:text≠[]):∃z,wP (zMN c l) text=some ((stE c l text).1,(stE c l text).2.2,decide (uK (yG c).Entries text≠0),z)∧slc z (stE c l text).1 (z.length:Int)=some (stE c l text).2.1:=by
 unfold wP;rw[yMJ hs ht,zA];have G:0<text.length:=List.length_pos_iff.2 h0;by_cases H:uK (yG c).Entries text=0;have O:decide (((uK (yG c).Entries text:Nat):Int)=0)=true:=by simp[H]
 have i0:z7 text (0:Int)=some (nth text 0):=z1 (k:=0) G;have h:stE c l text=(1,text.drop 1,zPQ (yG c) (nth text 0)):=by unfold stE;rw[if_pos H]
 have Y:jV (zMN c l) (nth text 0)=some (zPQ (yG c) (nth text 0)):=z2O c (nth text 0);rw[O,cond_true,i0,zA,Y,zA,h];refine⟨text,?_,?_⟩;simp[H];exact zPM (l:=text) (a:=1) (by omega);have O:decide (((uK (yG c).Entries text:Nat):Int)=0)=false:=by simp;omega
 rw[O,cond_false];have ac:uK (yG c).Entries text≤text.length:=zPT _ _;have T:=mL1 hs hcv hl (text.drop (uK (yG c).Entries text)) (text.take (uK (yG c).Entries text)) [] 0 (by simp;omega)
 have Z:(text.take (uK (yG c).Entries text)).length=uK (yG c).Entries text:=by simp;omega
 have e3:text.take (uK (yG c).Entries text)++ []++text.drop (uK (yG c).Entries text)=text:=by simp
 rw[e3,Z] at T;simp only[List.length_nil,Nat.add_zero] at T;rw[T,zA];have h:stE c l text=((((zD1 (fun q=>(zCV (yG c).Entries q).2) (clE l) (text.drop (uK (yG c).Entries text)) (text.take (uK (yG c).Entries text)) [] 0).1.length:Nat):Int),(zD1 (fun q=>(zCV (yG c).Entries q).2) (clE l) (text.drop (uK (yG c).Entries text)) (text.take (uK (yG c).Entries text)) [] 0).2,(zCV (yG c).Entries (zD1 (fun q=>(zCV (yG c).Entries q).2) (clE l) (text.drop (uK (yG c).Entries text)) (text.take (uK (yG c).Entries text)) [] 0).1).1):=by unfold stE;rw[if_neg H]
 rw[h];generalize zD1 (fun q=>(zCV (yG c).Entries q).2) (clE l) (text.drop (uK (yG c).Entries text)) (text.take (uK (yG c).Entries text)) [] 0=q;have s1:slc (q.1++q.2) 0 ((q.1.length:Nat):Int)=some q.1:=by rw[zHA (by simp)];simp
 simp only[s1,zA,zMO hs];refine⟨q.1++q.2,?_,?_⟩;simp[H];rw[zPM (by simp)];simp
end
end Go.M
namespace Go.M
open Go.AV
def n0:Norm:={Classes:=[{Lo:=769,Hi:=769,Value:=230},{Lo:=803,Hi:=803,Value:=220}],Decomp:=[],Excluded:={Ranges:=[]}}
def c0:Collation:={Entries:=[{Codes:=[97],Elements:=[{Primary:=7,Secondary:=1,Tertiary:=1,Variable:=false}]},{Codes:=[97,769],Elements:=[{Primary:=8,Secondary:=1,Tertiary:=1,Variable:=false}]}],Groups:=[],Base:=100,Second:=1,Third:=1}
end Go.M
namespace Go.M
open Go.AV
theorem yEH {n:Norm} (h:DS n.Decomp) (T:n.Decomp.length≤2000) (c:Int) (b:Bool):vO n c b=some (if syl c=true then (hdE c,true) else ((fnB n.Decomp b c).getD [],(fnB n.Decomp b c).isSome)):=by
 unfold vO;rw[zM4,zA];by_cases k:syl c=true;have e:decide (4≤hkE c)=true:=by simpa using (zHU c).1 k
 simp only[e,cond_true,z65 k,zA,k,if_true];have e:decide (4≤hkE c)=false:=by simp only[decide_eq_false_iff_not];exact fun O=>k ((zHU c).2 O)
 simp only[Bool.not_eq_true] at k;simp only[e,cond_false,k,Bool.false_eq_true,if_false];obtain⟨i,hb,Z⟩:=z67 h T c;rw[hb];simp only[zA,zH];unfold fnB;cases H:n.Decomp.find? (isF c) with
 | none=>simp[w8]
 | some m=>
  obtain⟨z,G⟩:=Z m H;simp only[Option.isSome_some,Bool.not_true,Bool.not_false,j6,z1 z,G,zA,Bool.false_or];cases b<;>cases Y:(m.Tag== [])<;>simp[Y]
section
variable {n:Norm} {b:Bool} (hd:DS n.Decomp) (hl:n.Decomp.length≤2000) (hD:∀c,DD n.Decomp n.Decomp.length c) (hw:∀c,(fu n.Decomp b c).length≤64)
def XOk (l:List Mapping) (b:Bool) (m:List (Int×List Int)):Prop:= ∀k v,mget m k=some v→v=fu l b k
def z7I (l:List Mapping) (f:Nat) (c:Int):Prop:=(∃k,DD l k c∧k+2≤f)∨(l.find? (isF c)=none∧syl c=false∧1≤f)
include hw in
theorem yML {f:Nat} (ih:∀c m,XOk n.Decomp b m→z7I n.Decomp f c→∃z,kA f c m n b=some (fu n.Decomp b c,z)∧XOk n.Decomp b z) (L:List Int) (hL:L.length≤2000) (hn:∀e∈L,z7I n.Decomp f e):
  ∀(d i:Nat) (h:List Int) (m:List (Int×List Int)),L.length-i=d→i≤L.length→h.length≤64*i→XOk n.Decomp b m→
   ∃z,zC (fun (x:Int×(List Int)×(List (Int×(List Int))))=>k6 (L,true) (kA f) n b x.1 x.2.1 x.2.2) ((i:Int),h,m)=some (h++(L.drop i).flatMap (fu n.Decomp b),z)∧XOk n.Decomp b z:=by
 intro d
 induction d with
 | zero=>
  intro i h m T Y Z G;refine⟨m,?_,G⟩;refine zF ?_;rw[List.drop_of_length_le (show L.length≤i by omega)];simp only[k6,kB (show L.length≤i by omega),cond_false,List.flatMap_nil,List.append_nil]
 | succ d H=>
  intro i h m T Y Z G;have hi:i<L.length:=by omega
  obtain⟨O,hr,r1⟩:=ih L[i] m G (hn _ (List.getElem_mem hi));have ag:=hw L[i];have ha:app h (fu n.Decomp b L[i])=some (h++fu n.Decomp b L[i]):=k7 (by omega);rw[zJ (x':=(((i+1:Nat):Int),h++fu n.Decomp b L[i],O)) (by
   simp only[k6,yI hi,cond_true,zP hi,zA,hr,ha,zK (k:=i) (by omega)])]
  obtain⟨m2,hq,q1⟩:=H (i+1) (h++fu n.Decomp b L[i]) O (by omega) (by omega) (by rw[List.length_append];omega) r1
  refine⟨m2,?_,q1⟩;rw[hq,List.drop_eq_getElem_cons hi,List.flatMap_cons,List.append_assoc]
include hd hl hD hw in
theorem yOV:∀(f:Nat) (c:Int) (m:List (Int×List Int)),XOk n.Decomp b m→z7I n.Decomp f c→∃T,kA f c m n b=some (fu n.Decomp b c,T)∧XOk n.Decomp b T:=by
 intro f
 induction f with
 | zero=>intro c m _ hn;exfalso;rcases hn with ⟨k,_,h⟩ | ⟨_,_,h⟩<;>omega
 | succ f ih=>
  intro c m hm hn;show ∃T,wD (kA f) c m n b=some _∧_;unfold wD;cases hh:zCO m c with
  | true=>
   obtain⟨v,hv⟩:=Option.isSome_iff_exists.1 hh;have hg:zAN m c []=v:=by unfold zAN;rw[hv];rfl
   rw[cond_true,hg,hm c v hv];exact⟨m,rfl,hm⟩
  | false=>
   rw[cond_false,yEH hd hl,zA];have Y:∀(L:List Int),L.length≤2000→(∀e∈L,z7I n.Decomp f e)→L.flatMap (fu n.Decomp b)=fu n.Decomp b c→∃T,(cond (!((L,true):List Int×Bool).2) (some ([c],m)) ((zC (fun (x:Int×(List Int)×(List (Int×(List Int))))=>k6 (L,true) (kA f) n b x.1 x.2.1 x.2.2) (0,[],m)).bind fun (y1:(List Int)×(List (Int×(List Int))))=>some (y1.1,zAQ y1.2 c y1.1)))=some (fu n.Decomp b c,T)∧XOk n.Decomp b T:=by
    intro L hL ak aj;obtain⟨m1,hq,q1⟩:=yML hw ih L hL ak L.length 0 [] m (by omega) (by omega) (by simp) hm;rw[List.drop_zero,List.nil_append,aj] at hq;have al:zC (fun (x:Int×(List Int)×(List (Int×(List Int))))=>k6 (L,true) (kA f) n b x.1 x.2.1 x.2.2) (0,[],m)=some (fu n.Decomp b c,m1):=hq;simp only[Bool.not_true,cond_false];rw[al];refine⟨zAQ m1 c (fu n.Decomp b c),rfl,fun k v H=>?_⟩;rw[x9] at H;split at H;rename_i hx;cases H;rw[hx];exact q1 k v H
   cases hs:syl c with
   | true=>
    simp only[if_true];have O:=z2Z hd hs;have Z:∀e∈hdE c,n.Decomp.find? (isF e)=none∧syl e=false:=by
     intro e G;obtain⟨p1,p2⟩:=zUJ hs G;refine⟨?_,p1⟩;cases ai:n.Decomp.find? (isF e) with
     | none=>rfl
     | some m=>obtain⟨q1,rfl⟩:=zGQ ai;exact absurd (hd.hk m q1) p2
    refine Y (hdE c) (by have:=zOB c;omega) (fun e G=>?_) ?_
    obtain⟨p1,p2⟩:=Z e G;refine .inr ⟨p1,p2,?_⟩;rcases hn with ⟨k,_,h⟩ | ⟨_,h,_⟩;omega;rw[hs] at h;cases h;have z:fu n.Decomp b c=hdE c:=by rw[zRP hD,zIR O]
    rw[z];have:∀L:List Int,(∀e∈L,n.Decomp.find? (isF e)=none∧syl e=false)→L.flatMap (fu n.Decomp b)=L:=by
     intro L
     induction L with
     | nil=>intro _;rfl
     | cons x L an=>
      intro h;obtain⟨p1,p2⟩:=h x (by simp);have hx:fu n.Decomp b x= [x]:=by rw[zRP hD,zIR p1];show hdE x= [x];unfold hdE;rw[if_neg (by simp[p2])]
      rw[List.flatMap_cons,hx,an fun e G=>h e (by simp[G])];rfl
    exact this _ Z
   | false=>
    simp only[Bool.false_eq_true,if_false];cases hf:fnB n.Decomp b c with
    | none=>
     simp only[Option.getD_none,Option.isSome_none,Bool.not_false,cond_true];refine⟨m,?_,hm⟩;rw[zRP hD,hf];have:hdE c= [c]:=by unfold hdE;rw[if_neg (by simp[hs])]
     simp only[this]
    | some to=>
     simp only[Option.getD_some,Option.isSome_some];obtain⟨mm,z,rfl,_⟩:=zKD hf;obtain⟨h2,_⟩:=zGQ z;refine Y mm.To (hd.len mm h2) (fun e G=>?_) (by rw[zRP hD c,hf]);rcases hn with ⟨k,H,h⟩ | ⟨h,_,_⟩
     cases k with
     | zero=>have:n.Decomp.find? (isF c)=none:=H;rw[this] at z;cases z
     | succ k=>exact .inl ⟨k,H mm z e G,by omega⟩
     rw[h] at z;cases z
end
noncomputable def usN (n:Norm):Norm:=open Classical in if VD0 n then n else {Classes:=[],Decomp:=[],Excluded:={Ranges:=[]}}
structure GN (n:Norm):Prop where
 ds:DS n.Decomp
 cv:CV n.Classes
 H:∀m∈n.Decomp,WW n.Decomp m.From
 w:∀m∈n.Decomp,wt n.Decomp true m.From≤64
 cl:n.Classes.length≤40
 de:n.Decomp.length≤40
 ok:∀x∈n.Classes,okSpan x
theorem zZT {n:Norm} (H:NSm n) (G:zC5 n):GN (usN n):=by
 unfold usN;split;rename_i h;obtain⟨O,T⟩:=(yEA h.ds (by have:=H.de;omega)).1 h.ms
 exact⟨h.ds,h.cv,O,T,H.cl,H.de,G.1.2⟩;exact⟨⟨fun k Y=>(by cases Y),fun m z=>(by cases z),fun m z=>(by cases z)⟩,yED,fun m z=>(by cases z),fun m z=>(by cases z),by simp,by simp,fun x Z=>by cases Z⟩
theorem GN.dd {n:Norm} (h:GN n):∀c,DD n.Decomp n.Decomp.length c:=zUM h.ds h.H
theorem GN.len {n:Norm} (h:GN n) (b:Bool) (c:Int):(fu n.Decomp b c).length≤64:=yMF h.ds (yMG h.ds h.H h.w) b c
theorem GN.ex {n:Norm} (h:GN n) {b:Bool} (c:Int) (m:List (Int×List Int)) (z:XOk n.Decomp b m):∃k,kA 100 c m n b=some (fu n.Decomp b c,k)∧XOk n.Decomp b k:=
 yOV h.ds (by have:=h.de;omega) h.dd (h.len b) 100 c m z (.inl ⟨_,h.dd c,by have:=h.de;omega⟩)
theorem yIR {n:Norm} (O:NSm n) (z:zC5 n):u6 n=some (usN n):=by obtain⟨e,H,G⟩:=yD5 O z;unfold u6 usN;rw[H,zA];by_cases k:e=0;rw[if_pos (G.1 k)];simp[k];rw[if_neg (fun h=>k (G.2 h))];simp[k]
theorem z25 {f:Int→List Int} {k:Nat} (h:∀e,(f e).length≤k):∀L:List Int,(L.flatMap f).length≤k*L.length
 | []=>by simp
 | x::L=>by have:=z25 h L;have:=h x;rw[List.flatMap_cons,List.length_append,List.length_cons,Nat.mul_succ];omega
theorem yAM {n:Norm} (h:GN n) {b:Bool} {text:List Int} (ht:text.length≤2000):∀(d i:Nat) (z:List Int) (m:List (Int×List Int)),text.length-i=d→i≤text.length→z.length≤64*i→XOk n.Decomp b m→
  zC (fun (x:Int×(List Int)×(List (Int×(List Int))))=>wE text n b x.1 x.2.1 x.2.2) ((i:Int),z,m)=some (z++(text.drop i).flatMap (fu n.Decomp b)):=by
 intro d
 induction d with
 | zero=>
  intro i z m O T Y G;refine zF ?_;rw[List.drop_of_length_le (show text.length≤i by omega)];simp only[wE,kB (show text.length≤i by omega),cond_false,List.flatMap_nil,List.append_nil]
 | succ d ih=>
  intro i z m O T Y G;have hi:i<text.length:=by omega
  obtain⟨H,hr,r1⟩:=h.ex (b:=b) text[i] m G;have ab:=h.len b text[i];have Z:app z (fu n.Decomp b text[i])=some (z++fu n.Decomp b text[i]):=k7 (by omega);rw[zJ (x':=(((i+1:Nat):Int),z++fu n.Decomp b text[i],H)) (by
   simp only[wE,yI hi,cond_true,zP hi,zA,hr,Z,zK (k:=i) (by omega)])]
  rw[ih (i+1) (z++fu n.Decomp b text[i]) H (by omega) (by omega) (by rw[List.length_append];omega) r1,List.drop_eq_getElem_cons hi,List.flatMap_cons,List.append_assoc]
noncomputable def zLH (n:Norm) (b:Bool) (text:List Int):List Int:=text.flatMap (fu (usN n).Decomp b)
theorem yIS {n:Norm} (O:NSm n) (H:zC5 n) {text:List Int} (T:text.length≤2000) (b:Bool):zBW n text b=zBH (usN n).Classes (zLH n b text):=by have h:=zZT O H;unfold zBW zCI;have Y:u6 {Classes:=n.Classes,Decomp:=n.Decomp,Excluded:={Ranges:=n.Excluded.Ranges}}=some (usN n):=yIR O H;have z:=yAM h (b:=b) T text.length 0 [] [] (by omega) (by omega) (by simp) (fun k v h=>by cases h);rw[List.drop_zero,List.nil_append] at z;have G:zC (fun (x:Int×(List Int)×(List (Int×(List Int))))=>wE text (usN n) b x.1 x.2.1 x.2.2) (0,[],[])=some (zLH n b text):=z;rw[Y,zA,zA,G,zA];cases zBH (usN n).Classes (zLH n b text)<;>rfl
end Go.M
namespace Go.M
open Go.AV
section
variable (key:Int→Int)
def ltK (a b:Int):Bool:=decide (key a<key b)
def ltC (a b:Int):Bool:=decide (0<key a)&&decide (key a<key b)
def srt (l:List Int):List Int:=uW (ltK key) l []
def csE (l:List Int):List Int:=uW (ltC key) l []
def rsE:List Int→List Int→List Int
 | [],run=>srt key run
 | x::t,run=>if key x=0 then srt key run++x::rsE t [] else rsE t (run++ [x])
end
section
variable {key:Int→Int}
theorem yEI (l:List Int) (x:Int):srt key (l++ [x])=vW (ltK key) (srt key l).reverse x []:=by unfold srt uW;rw[List.foldl_append];rfl
theorem z7J (l:List Int):Flt key l (srt key l):=by have:=zM7 (key:=key) l [];exact this
theorem z7K (l:List Int):(srt key l).length=l.length:=(z7J l).len.symm
theorem z7L {x:Int} (k:0<key x):∀(r q s:List Int),(∀y,q.head? =some y→key y=0)→vW (ltC key) (r++q) x s=q.reverse++vW (ltK key) r x s
 | [],q,s,h=>by
  cases q with
  | nil=>rfl
  | cons y q=>
   have:ltC key x y=false:=by unfold ltC;rw[h y rfl];simp;omega
   show vW (ltC key) (y::q) x s=_;simp only[vW,this,Bool.false_eq_true,if_false]
 | y::r,q,s,h=>by
  have e:ltC key x y=ltK key x y:=by unfold ltC ltK;simp[k]
  show vW (ltC key) (y::(r++q)) x s=q.reverse++vW (ltK key) (y::r) x s;simp only[vW,e];cases ltK key x y with
  | true=>simp only[if_true];exact z7L k r q (y::s) h
  | false=>simp
theorem yEJ (h:∀x,0≤key x):∀(t run p:List Int),(∀y,p.reverse.head? =some y→key y=0)→uW (ltC key) t (p++srt key run)=p++rsE key t run
 | [],run,p,_=>rfl
 | x::t,run,p,z=>by
  show uW (ltC key) t (vW (ltC key) (p++srt key run).reverse x [])=p++rsE key (x::t) run;by_cases k:key x=0
  ·have e:∀r:List Int,vW (ltC key) r x []=r.reverse++ [x]:=by
    intro r;cases r with
    | nil=>rfl
    | cons y r=>
     have:ltC key x y=false:=by unfold ltC;rw[k];simp
     simp[vW,this]
   have H:=yEJ h t [] (p++srt key run++ [x]) (fun y G=>by simp at G;rw[←G];exact k)
   have O:srt key []= []:=rfl;rw[O,List.append_nil] at H;rw[e,List.reverse_reverse,H];simp[rsE,k]
  ·have T:0<key x:=by have:=h x;omega
   rw[List.reverse_append,z7L T _ _ _ z,List.reverse_reverse,←yEI,yEJ h t (run++ [x]) p z];simp[rsE,k]
theorem yMO (h:∀x,0≤key x) (t:List Int):csE key t=rsE key t []:=by have:=yEJ h t [] [] (fun y k=>by cases k);exact this
theorem yEK (t:List Int):(csE key t).Perm t:=by have:=zKZ (ltC key) t [];rw[List.nil_append] at this;exact this
theorem yIT (t:List Int):(csE key t).length=t.length:=(yEK t).length_eq
theorem z26 {f:List Int→Option (List Int)} {P run T r:List Int} (h:0<run.length) (H:f run=some r):zK6 f (P++run++T) (P.length:Int) ((P.length+run.length:Nat):Int)=some (P++r++T):=by
 unfold zK6;have a1:((P.length:Int)).toNat=P.length:=by simp
 have a2:(((P.length+run.length:Nat):Int)).toNat=P.length+run.length:=by omega
 rw[a1,a2,if_pos ⟨by omega,by omega,by rw[List.length_append,List.length_append];omega⟩]
 have G:((P++run++T).drop P.length).take (P.length+run.length-P.length)=run:=by
  rw[List.append_assoc,List.drop_left,show P.length+run.length-P.length=run.length by omega,List.take_left]
 have k:(P++run++T).take P.length=P:=by rw[List.append_assoc,List.take_left]
 have z:(P++run++T).drop (P.length+run.length)=T:=by rw[←List.length_append,List.drop_left]
 rw[G,k,z,H];rfl
theorem z7M {f:List Int→Option (List Int)} {st:Int→Bool} (k:∀x,st x=decide (key x=0)) (O:∀l,l.length≤2000→f l=some (srt key l)):∀(t run P:List Int) (s:Int),P.length+run.length+t.length≤2000→(run= []∧s= -1∨run≠[]∧s=(P.length:Int))→
  zAD f Range.Lo Range.Hi (P++run++t) (jZ st t ((P.length+run.length:Nat):Int) s)=some (P++rsE key t run)
 | [],run,P,s,hl,Y=>by
  rcases Y with ⟨rfl,rfl⟩ | ⟨G,rfl⟩
  ·simp only[jZ,show ¬(0:Int)≤ -1 by decide,if_false]
   show some (P++ []++ [])=some (P++ []);simp
  ·have H:(0:Int)≤(P.length:Int):=by omega
   simp only[jZ,H,if_true];have h:0<run.length:=List.length_pos_iff.2 G;show (some (P++run++ [])).bind (fun l=>zK6 f l (P.length:Int) ((P.length+run.length:Nat):Int))=_;rw[zA,z26 h (O run (by simp at hl;omega))]
   simp[rsE]
 | x::t,run,P,s,hl,Y=>by
  have ac:P.length+run.length+t.length+1≤2000:=by simp only[List.length_cons] at hl;omega
  by_cases H:key x=0
  ·have z:st x=true:=by rw[k];simp[H]
   rcases Y with ⟨rfl,rfl⟩ | ⟨G,rfl⟩
   ·have e:jZ st (x::t) ((P.length+([]:List Int).length:Nat):Int) (-1)=jZ st t (((P++ [x]).length+([]:List Int).length:Nat):Int) (-1):=by
     simp only[jZ,z];simp
    have T:=z7M k O t [] (P++ [x]) (-1) (by simp only[List.length_append,List.length_singleton,List.length_nil];simp at ac;omega) (.inl ⟨rfl,rfl⟩)
    rw[e,show P++ []++x::t=P++ [x]++ []++t by simp,T];have e2:srt key []= []:=rfl;simp[rsE,H,e2]
   ·have aa:(0:Int)≤(P.length:Int):=by omega
    have h:0<run.length:=List.length_pos_iff.2 G;have e:jZ st (x::t) ((P.length+run.length:Nat):Int) (P.length:Int)= {Lo:=(P.length:Int),Hi:=((P.length+run.length:Nat):Int)}::jZ st t (((P++srt key run++ [x]).length+([]:List Int).length:Nat):Int) (-1):=by
     have Z:(((P++srt key run++ [x]).length+([]:List Int).length:Nat):Int)=((P.length+run.length:Nat):Int)+1:=by simp[z7K];omega
     rw[Z];simp only[jZ,z,Bool.not_true,Bool.false_and,Bool.false_eq_true,if_false,Bool.true_and,aa,decide_true,if_true]
    have T:=z7M k O t [] (P++srt key run++ [x]) (-1) (by simp[z7K];omega) (.inl ⟨rfl,rfl⟩)
    have e4:zK6 f (P++run++x::t) (P.length:Int) ((P.length+run.length:Nat):Int)=some (P++srt key run++ [x]++ []++t):=by
     rw[z26 h (O run (by omega))];simp
    have e5:zAD f Range.Lo Range.Hi (P++run++x::t) ({Lo:=(P.length:Int),Hi:=((P.length+run.length:Nat):Int)}::jZ st t (((P++srt key run++ [x]).length+([]:List Int).length:Nat):Int) (-1))=zAD f Range.Lo Range.Hi (P++srt key run++ [x]++ []++t) (jZ st t (((P++srt key run++ [x]).length+([]:List Int).length:Nat):Int) (-1)):=by
     unfold zAD;rw[List.foldl_cons,zA,e4]
    rw[e,e5,T];simp[rsE,H]
  ·have z:st x=false:=by rw[k];simp[H]
   have e:jZ st (x::t) ((P.length+run.length:Nat):Int) s=jZ st t ((P.length+(run++ [x]).length:Nat):Int) (P.length:Int):=by
    have Z:((P.length+(run++ [x]).length:Nat):Int)=((P.length+run.length:Nat):Int)+1:=by simp;omega
    rw[Z];rcases Y with ⟨rfl,rfl⟩ | ⟨G,rfl⟩
    ·simp[jZ,z]
    ·have:¬((P.length:Int)<0):=by omega
     simp only[jZ,z,Bool.not_false,Bool.true_and,this,decide_false,Bool.false_eq_true,if_false,Bool.false_and]
   have T:=z7M k O t (run++ [x]) P (P.length:Int) (by simp;omega) (.inr ⟨by simp,rfl⟩)
   rw[e,show P++run++x::t=P++(run++ [x])++t by simp,T];simp[rsE,H]
end
theorem yEL {l:List Span} (h:CV l) (k:l.length≤2000) (x y:Int):wK x y l=some (sg (clE l x) (clE l y)):=by unfold wK;simp only[zIQ h k,zA,cmpI];unfold sg;rfl
theorem yMP {l:List Span} (h:CV l) (z:l.length≤2000) (H:∀x∈l,okSpan x) {text:List Int} (O:text.length≤2000):zBH l text=some (csE (clE l) text):=by
 have G:∀x,0≤clE l x:=yOU h;unfold zBH zA6;have k:∀x,(kT l x==some 0)=decide (clE l x=0):=fun x=>by rw[zIQ h z];by_cases Y:clE l x=0<;>simp[Y]
 rw[zXJ z H h,zA,yL4 O,zA,z2W h z O k rfl,zA];have:=z7M (key:=clE l) (f:=fun p=>kM p (fun x0 x1=>wK x0 x1 l)) (st:=fun c=>kT l c==some 0) k (fun p T=>by
  obtain⟨r,Z,r2,r3⟩:=yAL (key:=clE l) (f:=fun x0 x1=>wK x0 x1 l) (fun x y=>yEL h z x y) p T;rw[Z];have:=z21 (key:=clE l) r2 (zQ3 (key:=clE l) p) (r3.symm.trans (z7J p));rw[this];rfl) text [] [] (-1) (by simpa using O) (.inl ⟨rfl,rfl⟩)
 rw[yMO G];exact this
noncomputable def zHX (n:Norm) (b:Bool) (text:List Int):List Int:=csE (clE (usN n).Classes) (zLH n b text)
theorem zPV (n:Norm) (b:Bool) (text:List Int):(zHX n b text).length=(zLH n b text).length:=yIT _
theorem zXP {n:Norm} (k:NSm n) (h:zC5 n) (b:Bool) (text:List Int):(zLH n b text).length≤64*text.length:=z25 ((zZT k h).len b) text
theorem yEM {n:Norm} (z:NSm n) (k:zC5 n) {text:List Int} {b:Bool} (H:text.length≤2000) (G:(zLH n b text).length≤2000):zBW n text b=some (zHX n b text):=by
 have h:=zZT z k;rw[yIS z k H,yMP h.cv (by have:=h.cl;omega) h.ok G]
 rfl
end Go.M
namespace Go.M
open Go.AV
noncomputable def wkE (c:Collation) (l:List Span):Nat→List Int→List Element×Bool
 | 0,_=>([],true)
 | k+1,text=>if text= [] then ([],true) else ((stE c l text).2.2++(wkE c l k (stE c l text).2.1).1,decide (uK (yG c).Entries text≠0)&&(wkE c l k (stE c l text).2.1).2)
theorem yEN {c:Collation} {l:List Span} {text:List Int} (H:text≠[]):1≤(stE c l text).1∧(stE c l text).1+((stE c l text).2.1.length:Int)=(text.length:Int):=by have G:0<text.length:=List.length_pos_iff.2 H;unfold stE;split;refine⟨by simp,?_⟩;show (1:Int)+((text.drop 1).length:Int)=_;rw[List.length_drop];omega;rename_i T;have k:uK (yG c).Entries text≤text.length:=zPT _ _;have h:=zPU (fd:=fun q=>(zCV (yG c).Entries q).2) (cl:=clE l) (text.drop (uK (yG c).Entries text)) (text.take (uK (yG c).Entries text)) [] 0;generalize zD1 (fun q=>(zCV (yG c).Entries q).2) (clE l) (text.drop (uK (yG c).Entries text)) (text.take (uK (yG c).Entries text)) [] 0=q at*;obtain⟨O,z,_⟩:=h;rw[List.length_take,Nat.min_eq_left k] at O z;rw[List.length_drop] at z;simp only[List.length_nil] at z;constructor;show (1:Int)≤(q.1.length:Int);omega;show (q.1.length:Int)+(q.2.length:Int)=_;omega
theorem z27 {c:Collation} {l:List Span} {text:List Int} (h:text≠[]):(stE c l text).2.1.length<text.length:=by have:=yEN (c:=c) (l:=l) h;omega
theorem yEO {c:Collation} (h:Sm c) {l:List Span} (text:List Int):(stE c l text).2.2.length≤2000:=by unfold stE;split;exact yIB _ _;exact yIA (z5L h) _
theorem z7N {c:Collation} {l:List Span}:∀(k j:Nat) (text:List Int),text.length≤k→text.length≤j→wkE c l k text=wkE c l j text
 | 0,j,text,h,_=>by
  have:text= []:=List.eq_nil_of_length_eq_zero (by omega);subst this;cases j with
  | zero=>rfl
  | succ j=>simp[wkE]
 | k+1,j,text,h,O=>by
  by_cases z:text= [];subst z;cases j<;>simp[wkE];have G:0<text.length:=List.length_pos_iff.2 z;cases j with
  | zero=>omega
  | succ j=>
   have H:=z27 (c:=c) (l:=l) z;simp only[wkE,z,if_false];rw[z7N k j _ (by omega) (by omega)]
noncomputable def wk (c:Collation) (l:List Span) (text:List Int):List Element×Bool:=wkE c l text.length text
theorem zQ5 (c:Collation) (l:List Span):wk c l []=([],true):=rfl
theorem zZU {c:Collation} {l:List Span} {text:List Int} (h:text≠[]):wk c l text=((stE c l text).2.2++(wk c l (stE c l text).2.1).1,decide (uK (yG c).Entries text≠0)&&(wk c l (stE c l text).2.1).2):=by
 have G:=z27 (c:=c) (l:=l) h;unfold wk;obtain⟨k,z⟩:∃k,text.length=k+1:=⟨text.length-1,by have:=List.length_pos_iff.2 h;omega⟩
 rw[z];simp only[wkE,h,if_false];rw[z7N k (stE c l text).2.1.length _ (by omega) (by omega)]
theorem yMQ {c:Collation} (H:Sm c) {l:List Span}:∀(k:Nat) (text:List Int),text.length≤k→(wk c l text).1.length≤2000*text.length:=by
 intro k
 induction k with
 | zero=>
  intro text h;have:text= []:=List.eq_nil_of_length_eq_zero (by omega);subst this;rw[zQ5];simp
 | succ k O=>
  intro text h;by_cases z:text= [];subst z;rw[zQ5];simp;have G:=z27 (c:=c) (l:=l) z;have T:=O _ (show (stE c l text).2.1.length≤k by omega);have Y:=yEO H (l:=l) text;rw[zZU z];show ((stE c l text).2.2++(wk c l (stE c l text).2.1).1).length≤_;rw[List.length_append];omega
section
variable {c:Collation} (hs:Sm c) {l:List Span} (hcv:CV l) (hl:l.length≤2000)
include hs hcv hl
theorem yIU:∀(k:Nat) (text:List Int) (z:List Element),text.length≤k→text.length≤2000→z.length+2000*text.length≤100000000→zC (fun (x:(List Element)×(List Int))=>jX (zMN c l) x.1 x.2) (z,text)=some (z++(wk c l text).1):=by
 intro k
 induction k with
 | zero=>
  intro text z h _ _;have:text= []:=List.eq_nil_of_length_eq_zero (by omega);subst this;refine zF ?_;simp[jX,zQ5]
 | succ k ih=>
  intro text z h Z ha;by_cases G:text= [];subst G;refine zF ?_;simp[jX,zQ5];have H:0<text.length:=List.length_pos_iff.2 G;have Y:=z27 (c:=c) (l:=l) G;have h2:=yEO hs (l:=l) text;obtain⟨ad,m1,m2⟩:=yEG hs hcv hl Z G;have O:decide ((0:Int)<(text.length:Int))=true:=by simp;omega
  have T:app z (stE c l text).2.2=some (z++(stE c l text).2.2):=k7 (by omega);rw[zJ (x':=(z++(stE c l text).2.2,(stE c l text).2.1)) (by simp only[jX,O,cond_true,m1,zA,T,m2])];rw[ih _ _ (by omega) (by omega) (by rw[List.length_append];omega),zZU G,List.append_assoc]
end
theorem z28 (n:Norm):xR n=(usN n).Classes:=by unfold xR usN;split<;>rfl
section
variable {n:Norm} {c:Collation} (hn:NSm n) (hok:zC5 n) (hs:Sm c) (hg:∀g∈c.Groups,g.Name.length≤MX) {text:List Int} (ht:text.length≤2000) (hf:(zLH n false text).length≤2000)
include hn hok hs hg ht hf
theorem z29:wY n c text=some (wk c (xR n) (zHX n false text)).1:=by
 unfold wY;have k:(xR n).length≤2000:=by have:=zQ4 hn;omega
 have h:(zHX n false text).length≤2000:=by rw[zPV];exact hf
 rw[yH7 hs hg,zA,yIQ hn hok,zA,yEM hn hok ht hf,zA,yIU hs (z24 n) k _ _ [] (Nat.le_refl _) h (by simp;omega)]
 rfl
end
theorem yMR {n:Norm} {c:Collation} (h:Sm c) {text:List Int} (k:(zHX n false text).length≤2000):(wk c (xR n) (zHX n false text)).1.length≤1000000000:=by have:=yMQ h (l:=xR n) _ (zHX n false text) (Nat.le_refl _);omega
end Go.M
namespace Go.M
open Go.AV
end Go.M
namespace Go.M
open Go.AV
end Go.M
namespace Go.M
open Go.AV
theorem yOW (z:List Span) (G:Nat) (hv:G<z.length) (H:List Range) (Z:H= [{Lo:=4352,Hi:=4370},{Lo:=4449,Hi:=4469},{Lo:=4520,Hi:=4546},{Lo:=44032,Hi:=55203}]):
  (zC (fun (x:Int)=>vQ H z (G:Int) x) 0=some (.inl ())∧hgOk (nth z G))∨(zC (fun (x:Int)=>vQ H z (G:Int) x) 0=some (.inr 11)∧¬hgOk (nth z G)):=by
 have h:=k9 (body:=fun (x:Int)=>vQ H z (G:Int) x) H.length (fun k=> ¬((nth z G).Lo≤(nth H k).Hi∧(nth H k).Lo≤(nth z G).Hi)) (fun y=>y=11) (fun k T=>by
  have hl:H.length=4:=by rw[Z];rfl
  simp only[vQ,yI T,cond_true,z1 hv,z1 T,zA,zH,zK (k:=k) (by omega)];by_cases O:(nth z G).Lo≤(nth H k).Hi
  ·simp only[O,decide_true,j6,zA,Bool.true_and,true_and]
   exact zAR (by simp) rfl
  ·simp only[O,decide_false,w8,zA,Bool.false_and,cond_false,false_and]
   exact .inl ⟨by simp,trivial⟩) (fun k T=>by simp only[vQ,kB T,cond_false])
 have e:(∀j,j<H.length→¬((nth z G).Lo≤(nth H j).Hi∧(nth H j).Lo≤(nth z G).Hi))↔hgOk (nth z G):=by
  subst Z;unfold hgOk;constructor
  ·intro h;exact⟨h 0 (by decide),h 1 (by decide),h 2 (by decide),h 3 (by decide)⟩
  ·rintro⟨h0,O,h2,h3⟩ j hj
   have Y:j<4:=hj
   match j,Y with
   | 0,_=>exact h0
   | 1,_=>exact O
   | 2,_=>exact h2
   | 3,_=>exact h3
 rw[e] at h;rcases h with h | ⟨y,rfl,h⟩
 ·exact .inl h
 ·exact .inr h
theorem yEP {l:List Span} (hl:l.length≤2000):Ver (zEX l) (CV l):=by
 have Y:=k9 (body:=fun (x:Int)=>zBY l x) l.length (fun k=>spOk (nth l k)) (fun y=>y≠0) (fun k z=>by
  simp only[zBY,yI z,cond_true,z1 z,zA,zH,zE0,zK (k:=k) (by omega),spOk,vld];generalize nth l k=q;by_cases H:0≤q.Lo<;>by_cases O:q.Lo≤1114111<;>by_cases h3:0≤q.Hi<;>by_cases h4:q.Hi≤1114111<;>by_cases h5:q.Hi<q.Lo<;>by_cases h6:q.Value<1<;>by_cases h7:254<q.Value<;>simp[H,O,h3,h4,h5,h6,h7,j6,w8,zA]<;>omega) (fun k z=>by simp only[zBY,kB z,cond_false])
 unfold zEX Ver;rcases Y with ⟨Y,T⟩ | ⟨y,Z,Y,T⟩
 rw[Y];simp only[zA,Sum.elim_inl];have H:=zM3 (body:=fun (x:Int)=>zBZ l x) l.length (fun k=>adOk (nth l k) (nth l (k+1))) (fun y=>y≠0) (fun k z=>by
  have G:k<l.length:=by omega
  have w:=(T k G).2.1;have w0:=(T k G).1;have w1:=(T k G).2.2.1;simp only[zBZ,yI z,cond_true,z1 z,zA,zH,zK (k:=k+1) (by omega),zDA (k:=k) (by omega),z1 G];by_cases a1:(nth l (k+1)).Lo≤(nth l k).Hi;simp only[a1,decide_true,Bool.not_true,w8,zA,Bool.false_and,Bool.true_or,cond_true];exact .inr ⟨by unfold adOk;omega,4,by decide,rfl⟩
  simp only[a1,decide_false,Bool.not_false,j6,zA,Bool.true_and,Bool.false_or];rw[kQ (n:=(nth l k).Hi+1) (by omega) (by omega)];by_cases a2:(nth l (k+1)).Lo=(nth l k).Hi+1;simp only[a2,decide_true,j6,zA,Bool.true_and];exact zAR (by unfold adOk;simp only[decide_eq_true_eq];omega) (by decide)
  simp only[a2,decide_false,w8,zA,Bool.false_and,cond_false];exact .inl ⟨by unfold adOk;omega,trivial⟩) (fun k z=>by simp only[zBZ,kB z,cond_false])
 rcases H with ⟨H,p1⟩ | ⟨y,Z,H,p1⟩;rw[H];simp only[zA,Sum.elim_inl,zHS];have O:=k9 (body:=fun (x:Int)=>zB0 l [{Lo:=4352,Hi:=4370},{Lo:=4449,Hi:=4469},{Lo:=4520,Hi:=4546},{Lo:=44032,Hi:=55203}] x) l.length (fun k=>hgOk (nth l k)) (fun y=>y≠0) (fun k z=>by
  simp only[zB0,yI z,cond_true,zK (k:=k) (by omega)];rcases yOW l k z _ rfl with ⟨h,p⟩ | ⟨h,p⟩
  rw[h];exact .inl ⟨p,rfl⟩;rw[h];exact .inr ⟨p,11,by decide,rfl⟩) (fun k z=>by simp only[zB0,kB z,cond_false])
 rcases O with ⟨O,p2⟩ | ⟨y,Z,O,p2⟩;rw[O];exact⟨0,rfl,by simp only[true_iff];exact⟨T,p1,p2⟩⟩
 rw[O];exact⟨y,rfl,by simp only[Z,false_iff];exact fun h=>p2 h.hg⟩
 rw[H];exact⟨y,rfl,by simp only[Z,false_iff];exact fun h=>p1 h.ad⟩
 rw[Y];exact⟨y,rfl,by simp only[Z,false_iff];exact fun h=>T h.sp⟩
theorem zIS {l:List Span} (Z:l.length≤2000) (h:CV l) (c:Int):zA8 l c=some (clE l c):=by
 obtain⟨e,T,hp⟩:=yEP Z;unfold zA8;rw[T,zA,hp.2 h];simp only[decide_true,Bool.not_true,cond_false];have hb:∀k,k<l.length→wF l c (k:Int)=if zSC c (nth l k) then some (.done (.inr (nth l k).Value)) else some (.next ((k+1:Nat):Int)):=fun k z=>by
  simp only[wF,yI z,cond_true,z1 z,zA,zH,zK (k:=k) (by omega),zSC];by_cases G:(nth l k).Lo≤c
  · by_cases O:c≤(nth l k).Hi<;>simp[G,O,j6]
  · simp[G,w8]
 have key:∀(d k:Nat),l.length-k=d→k≤l.length→(∀j,j<k→zSC c (nth l j)=false)→(zC (fun (x:Int)=>wF l c x) (k:Int)).bind (fun y=>y.elim (fun _=>some 0) fun y=>some y)=some (clE l c):=by
  intro d
  induction d with
  | zero=>
   intro k G O H;have:k=l.length:=by omega
   subst this;rw[zF (y:= .inl ()) (by simp only[wF,kB (Nat.le_refl _),cond_false])];unfold clE;rw[zZN H];rfl
  | succ d ih=>
   intro k G O H;have z:k<l.length:=by omega
   cases hi:zSC c (nth l k) with
   | true=>
    rw[zF (y:= .inr (nth l k).Value) (by show wF l c (k:Int)=_;rw[hb k z,hi];rfl)]
    unfold clE;rw[zPR z H hi];rfl
   | false=>
    rw[zJ (x':=((k+1:Nat):Int)) (by show wF l c (k:Int)=_;rw[hb k z,hi];rfl)]
    refine ih (k+1) (by omega) (by omega) fun j Y=>?_;by_cases e:j=k
    · subst e;exact hi
    · exact H j (by omega)
 exact key l.length 0 (by omega) (by omega) (fun j Y=>by omega)
theorem zOE {l:List Span} (k:l.length≤2000) (h:CV l) (c:Int):zEF l c=some (decide (clE l c=0)):=by unfold zEF;rw[zIS k h];rfl
end Go.M
namespace Go.M
open Go.AV
theorem yMS {a b c:Mapping} (k:mlt a b) (h:mlt b c):mlt a c:=by
 unfold mlt at*;rcases k with k | ⟨k,G⟩
 rcases h with h | ⟨h,z⟩;exact .inl (by omega);exact .inl (by omega);rcases h with h | ⟨h,z⟩;exact .inl (by omega);exact .inr ⟨by omega,List.lt_trans G z⟩
theorem yIV {a b:Mapping} (h:mlt a b):¬(a.From=b.From∧a.Tag=b.Tag):=by
 rintro⟨z,k⟩
 unfold mlt at h;rcases h with h | ⟨_,h⟩
 omega;rw[k] at h;exact List.lt_irrefl _ h
theorem z7O {l:List Mapping} (h:∀k,k+1<l.length→mlt (nth l k) (nth l (k+1))):∀(d i:Nat),i+d+1<l.length→mlt (nth l i) (nth l (i+d+1))
 | 0,i,hi=>h i hi
 | d+1,i,hi=>by
  have z:=z7O h d i (by omega);have G:=h (i+d+1) (by omega);have:i+(d+1)+1=i+d+1+1:=by omega
  rw[this];exact yMS z G
theorem yOX (x y:Str):(x==y)=decide (x=y):=by rw[Bool.eq_iff_iff];simp
section
variable {l:List Mapping} (hl:l.length≤2000) (hto:∀m∈l,m.To.length≤2000) (htg:∀m∈l,m.Tag.length≤MX)
include hl hto htg
omit hl hto htg in
theorem yEQ {m:Mapping} (G:m.To.length≤2000):∃b,zGX m=some b∧(b=true↔codesOk m):=by
 unfold zGX;have h:=k9 (body:=fun (x:Int)=>zB1 m x) m.To.length (fun j=>vld (nth m.To j)=true) (fun y=>y=false) (fun j z=>by
  simp only[zB1,yI z,cond_true,z1 z,zA,zE0,zK (k:=j) (by omega)];exact zAR (by simp) rfl) (fun j z=>by simp only[zB1,kB z,cond_false])
 rw[zDB (p:=fun c=>vld c=true)] at h;rcases h with ⟨h,p⟩ | ⟨y,rfl,h,p⟩
 rw[h];simp only[zA,Sum.elim_inl,zE0];exact⟨_,rfl,⟨fun a=>⟨a,p⟩,fun a=>a.1⟩⟩;rw[h];exact⟨false,rfl,by simp only[Bool.false_eq_true,false_iff];exact fun a=>p a.2⟩
omit hto htg in
theorem yER:∃b,zGY l=some b∧(b=true→¬∀k,k+1<l.length→mlt (nth l k) (nth l (k+1)))∧(b=false→True):=by
 unfold zGY;have z:∀i,i<l.length→(zC (fun (x:Int)=>vR (i:Int) l x) 0=some (.inl ())∧∀j,j<i→¬((nth l i).From=(nth l j).From∧(nth l i).Tag=(nth l j).Tag))∨(∃y,y=true∧zC (fun (x:Int)=>vR (i:Int) l x) 0=some (.inr y)∧¬∀j,j<i→¬((nth l i).From=(nth l j).From∧(nth l i).Tag=(nth l j).Tag)):=by
  intro i hi;refine k9 (body:=fun (x:Int)=>vR (i:Int) l x) i _ (fun y=>y=true) (fun j G=>?_) (fun j G=>by simp only[vR,kB G,cond_false]);have H:j<l.length:=by omega
  simp only[vR,yI G,cond_true,z1 hi,z1 H,zA,zH,zK (k:=j) (by omega),yOX];by_cases a:(nth l i).From=(nth l j).From;simp only[a,decide_true,j6,zA,Bool.true_and,true_and];exact zAR (by simp) rfl;simp only[a,decide_false,w8,zA,Bool.false_and,cond_false,false_and];exact .inl ⟨by simp,trivial⟩
 have h:=k9 (body:=fun (x:Int)=>zB2 l x) l.length (fun i=> ∀j,j<i→¬((nth l i).From=(nth l j).From∧(nth l i).Tag=(nth l j).Tag)) (fun y=>y=true) (fun k O=>by
  simp only[zB2,yI O,cond_true,zK (k:=k) (by omega)];rcases z k O with ⟨h,p⟩ | ⟨y,Y,h,p⟩
  rw[h];exact .inl ⟨p,rfl⟩;rw[h];exact .inr ⟨p,y,Y,rfl⟩) (fun j G=>by simp only[zB2,kB G,cond_false])
 rcases h with ⟨h,p⟩ | ⟨y,rfl,h,p⟩;rw[h];exact⟨false,rfl,fun h=>(by cases h),fun _=>trivial⟩;rw[h];refine⟨true,rfl,fun _ T=>p fun i hi j G=>?_,fun _=>trivial⟩;have:=z7O T (i-j-1) j (by omega);rw[show j+(i-j-1)+1=i by omega] at this;have:=yIV this;exact fun ⟨a,b⟩=>this ⟨a.symm,b.symm⟩
theorem yMT:∃e,zDL l=some e∧(e=0→(∀m∈l,codesOk m)∧(∀m∈l,m.To.length≤64)∧∀m∈l,tagOk m)∧(e≠0→¬MV l):=by
 unfold zDL;have G:=k9 (body:=fun (x:Int)=>uD l x) l.length (fun k=>codesOk (nth l k)) (fun y=>y≠0) (fun k z=>by
  obtain⟨b,hb,Y⟩:=yEQ (hto _ (wL z));simp only[uD,yI z,cond_true,z1 z,zA,hb,zK (k:=k) (by omega)];exact zAR (by rw[←Y];simp) (by decide)) (fun k z=>by simp only[uD,kB z,cond_false])
 rw[zDB (p:=codesOk)] at G;rcases G with ⟨G,Z⟩ | ⟨y,T,G,Z⟩
 case inr=>rw[G];exact⟨y,rfl,fun h=>absurd h T,fun _ h=>Z h.co⟩
 rw[G];simp only[zA,Sum.elim_inl];have H:=k9 (body:=fun (x:Int)=>uE l x) l.length (fun k=>(nth l k).To.length≤64) (fun y=>y≠0) (fun k z=>by
  simp only[uE,yI z,cond_true,z1 z,zA,zK (k:=k) (by omega)];exact zAR (by simp only[decide_eq_true_eq];omega) (by decide)) (fun k z=>by simp only[uE,kB z,cond_false])
 rw[zDB (p:=fun (m:Mapping)=>m.To.length≤64)] at H;rcases H with ⟨H,p1⟩ | ⟨y,T,H,p1⟩
 case inr=>rw[H];exact⟨y,rfl,fun h=>absurd h T,fun _ h=>p1 h.sz⟩
 rw[H];simp only[zA,Sum.elim_inl];have O:=k9 (body:=fun (x:Int)=>uF l x) l.length (fun k=>tagOk (nth l k)) (fun y=>y≠0) (fun k z=>by
  simp only[uF,yI z,cond_true,z1 z,zA,zH,zK (k:=k) (by omega),tagOk,yOX];by_cases ht:(nth l k).Tag= []
  ·
   simp only[ht,decide_true,Bool.not_true,w8,zA,Bool.false_and,cond_false];exact .inl ⟨.inl trivial,trivial⟩
  ·
   simp only[ht,decide_false,Bool.not_false,j6,zA,z61 (htg _ (wL z)),Bool.true_and,false_or];exact zAR (by simp) (by decide)) (fun k z=>by simp only[uF,kB z,cond_false])
 rw[zDB (p:=tagOk)] at O;rcases O with ⟨O,p2⟩ | ⟨y,T,O,p2⟩
 case inr=>rw[O];exact⟨y,rfl,fun h=>absurd h T,fun _ h=>p2 h.tg⟩
 rw[O];simp only[zA,Sum.elim_inl];obtain⟨b,hb,Y,_⟩:=yER hl;rw[hb,zA];cases b with
 | true=>exact⟨5,rfl,fun h=>absurd h (by decide),fun _ h=>Y rfl h.lt⟩
 | false=>exact⟨0,rfl,fun _=>⟨Z,p1,p2⟩,fun h=>absurd rfl h⟩
theorem yMU:Ver (zGZ l) (MV l):=by
 obtain⟨e,he,Y,Z⟩:=yMT hl hto htg;unfold zGZ;rw[he,zA];by_cases G:e=0
 case neg=>
  have:(!decide (e=0))=true:=by simp[G]
  rw[this,cond_true];exact⟨e,rfl,by simp only[G,false_iff];exact Z G⟩
 obtain⟨p0,p1,p2⟩:=Y G;rw[G];simp only[decide_true,Bool.not_true,cond_false];have z:=zM3 (body:=fun (x:Int)=>zB3 l x) l.length (fun k=>mlt (nth l k) (nth l (k+1))) (fun y=>y≠0) (fun k H=>by
  have O:k<l.length:=by omega
  simp only[zB3,yI H,cond_true,z1 H,zA,zK (k:=k+1) (by omega),zDA (k:=k) (by omega),z1 O,zHT,zH,yDU];exact zAR (by unfold mlt;simp only[Bool.not_eq_true',Bool.or_eq_false_iff,Bool.and_eq_false_iff,decide_eq_false_iff_not,not_or,Classical.not_and_iff_not_or_not]) (by decide)) (fun k H=>by simp only[zB3,kB H,cond_false])
 rcases z with ⟨z,T⟩ | ⟨y,hy,z,T⟩
 · rw[z];exact⟨0,rfl,by simp only[true_iff];exact⟨p0,p1,p2,T⟩⟩
 · rw[z];exact⟨y,rfl,by simp only[hy,false_iff];exact fun h=>T h.lt⟩
end
end Go.M
namespace Go.M
open Go.AV
section
variable {β:Type} [Inhabited β] (upd:List β→Nat→β)
def zPW:Nat→Nat→List β→List β
 | 0,_,h=>h
 | d+1,i,h=>zPW d (i+1) (h.set i (upd h i))
def zIT (n:Nat):Nat→List β→List β
 | 0,h=>h
 | k+1,h=>zIT n k (zPW upd n 0 h)
end
section
variable {β:Type} [Inhabited β] {upd:List β→Nat→β} {n:Nat} {Inv:List β→Prop}
theorem zSM {k:List β} {i j:Nat} {x: β} (hi:i<k.length):nth (k.set i x) j=if j=i then x else nth k j:=by unfold nth;rw[List.getD_eq_getElem?_getD,List.getD_eq_getElem?_getD,List.getElem?_set];by_cases h:i=j;subst h;simp[hi];rw[if_neg h,if_neg (fun e=>h e.symm)]
theorem yIW {h:List β} {i:Nat} (hi:i<h.length):h.set i (nth h i)=h:=by rw[zCC hi];simp
omit [Inhabited β] in
theorem zSN:∀(d i:Nat) (h:List β),(zPW upd d i h).length=h.length
 | 0,_,_=>rfl
 | d+1,i,h=>by rw[zPW,zSN d];simp
omit [Inhabited β] in
theorem zSO (hi:∀i k,i<n→k.length=n→Inv k→Inv (k.set i (upd k i))):∀(d i:Nat) (k:List β),i+d=n→k.length=n→Inv k→Inv (zPW upd d i k)
 | 0,_,_,_,_,h=>h
 | d+1,i,k,G,z,h=>by
  rw[zPW];exact zSO hi d (i+1) _ (by omega) (by simp[z]) (hi i k (by omega) z h)
omit [Inhabited β] in
theorem zZV (hi:∀i z,i<n→z.length=n→Inv z→Inv (z.set i (upd z i))):∀(k:Nat) (z:List β),z.length=n→Inv z→Inv (zIT upd n k z)∧(zIT upd n k z).length=n
 | 0,_,G,h=>⟨h,G⟩
 | k+1,z,G,h=>by
  rw[zIT];exact zZV hi k _ (by rw[zSN,G]) (zSO hi n 0 z (by omega) G h)
theorem yES {R R':Nat→Prop} {t:Nat→β} (Z:∀j,R j→R' j) (hi:∀i k,i<n→k.length=n→Inv k→Inv (k.set i (upd k i)))
  (hs:∀k i,i<n→k.length=n→Inv k→(∀j,j<n→R j→nth k j=t j)→R' i→upd k i=t i):
  ∀(d i:Nat) (k:List β),i+d=n→k.length=n→Inv k→(∀j,j<n→R j→nth k j=t j)→(∀j,j<i→R' j→nth k j=t j)→∀j,j<n→R' j→nth (zPW upd d i k) j=t j
 | 0,i,k,hd,O,h,T,Y,j,H,z=>Y j (by omega) z
 | d+1,i,k,hd,O,h,T,Y,j,H,z=>by
  have G:i<n:=by omega
  have hu:R' i→upd k i=t i:=hs k i G O h T;rw[zPW];refine yES Z hi hs d (i+1) _ (by omega) (by simp[O]) (hi i k G O h) (fun j H z=>?_) (fun j H z=>?_) j H z
  ·rw[zSM (by omega)]
   split
   ·rename_i e;subst e;exact hu (Z _ z)
   ·exact T j H z
  ·rw[zSM (by omega)]
   split
   ·rename_i e;subst e;exact hu z
   ·exact Y j (by omega) z
theorem zZW {R:Nat→Nat→Prop} {t:Nat→β} (T:∀r j,R r j→R (r+1) j) (hi:∀i z,i<n→z.length=n→Inv z→Inv (z.set i (upd z i)))
  (Y:∀r z i,i<n→z.length=n→Inv z→(∀j,j<n→R r j→nth z j=t j)→R (r+1) i→upd z i=t i):
  ∀(k r:Nat) (z:List β),z.length=n→Inv z→(∀j,j<n→R r j→nth z j=t j)→∀j,j<n→R (r+k) j→nth (zIT upd n k z) j=t j
 | 0,_,_,_,_,h,j,G,O=>h j G O
 | k+1,r,z,H,h,Z,j,G,O=>by
  rw[zIT];have:=yES (R:=R r) (R':=R (r+1)) (T r) hi (Y r) n 0 z (by omega) H h Z (fun j G=>by omega);refine zZW T hi Y k (r+1) _ (by rw[zSN,H]) (zSO hi n 0 z (by omega) H h) this j G ?_;rw[show r+1+k=r+(k+1) by omega];exact O
omit [Inhabited β] in
theorem zPX {X Y:Type} (mk:Nat→List β→X) {body:X→Option (Stp X Y)} (z:List β→Y)
  (hb:∀i k,i<n→k.length=n→Inv k→body (mk i k)=some (.next (mk (i+1) (k.set i (upd k i)))))
  (hi:∀i k,i<n→k.length=n→Inv k→Inv (k.set i (upd k i)))
  (H:∀k,body (mk n k)=some (.done (z k))):∀(d i:Nat) (k:List β),i+d=n→k.length=n→Inv k→zC body (mk i k)=some (z (zPW upd d i k))
 | 0,i,k,O,G,h=>by
  have:i=n:=by omega
  subst this;exact zF (H k)
 | d+1,i,k,O,G,h=>by
  rw[zJ (hb i k (by omega) G h),zPW];exact zPX mk z hb hi H d (i+1) _ (by omega) (by simp[G]) (hi i k (by omega) G h)
omit [Inhabited β] in
theorem zPY {X Y:Type} (mk:Nat→List β→X) {body:X→Option (Stp X Y)} (G:List β→Y) {N:Nat}
  (hb:∀r z,r<N→z.length=n→Inv z→body (mk r z)=some (.next (mk (r+1) (zPW upd n 0 z))))
  (hi:∀i z,i<n→z.length=n→Inv z→Inv (z.set i (upd z i)))
  (O:∀z,body (mk N z)=some (.done (G z))):∀(k r:Nat) (z:List β),r+k=N→z.length=n→Inv z→zC body (mk r z)=some (G (zIT upd n k z))
 | 0,r,z,T,H,h=>by
  have:r=N:=by omega
  subst this;exact zF (O z)
 | k+1,r,z,T,H,h=>by
  rw[zJ (hb r z (by omega) H h),zIT];exact zPY mk G hb hi O k (r+1) _ (by omega) (by rw[zSN,H]) (zSO hi n 0 z (by omega) H h)
end
theorem z3A {A Y:Type} {p:Nat→A→Option Y}:∀{l:List A} {k:Nat} {y:Y},chk p l k=some y→∃j,∃h:j<l.length,p (k+j) l[j]=some y
 | [],_,_,h=>by cases h
 | x::l,k,y,h=>by
  unfold chk at h;cases G:p k x with
  | some z=>
   rw[G] at h;exact⟨0,by simp,by simpa[G] using h⟩
  | none=>
   rw[G] at h;obtain⟨j,H,e⟩:=z3A h;exact⟨j+1,by simpa using H,by rw[show k+(j+1)=k+1+j by omega];simpa using e⟩
theorem zXQ {A Y:Type} {p:Nat→A→Option Y}:∀{l:List A} {k j:Nat} (h:j<l.length),p (k+j) l[j]≠none→∃i,∃hi:i<l.length,i≤j∧chk p l k=p (k+i) l[i]
 | [],_,_,h,_=>by cases h
 | x::l,k,j,h,G=>by
  unfold chk;cases H:p k x with
  | some z=>exact⟨0,by simp,Nat.zero_le _,by simp[H]⟩
  | none=>
   cases j with
   | zero=>exact absurd (by simpa using H) G
   | succ j=>
    obtain⟨i,hi,O,e⟩:=zXQ (p:=p) (l:=l) (k:=k+1) (j:=j) (by simpa using h) (by rw[show k+1+j=k+(j+1) by omega];simpa using G)
    exact⟨i+1,by simpa using hi,by omega,by rw[show k+(i+1)=k+1+i by omega];simpa using e⟩
def pM (c:Int) (b:Bool) (k:Nat) (m:Mapping):Option Nat:=if m.From=c∧(b ||(m.Tag== []))=true then some k else none
def fi (l:List Mapping) (c:Int) (b:Bool):Option Nat:=chk (pM c b) l 0
theorem zJJ {l:List Mapping} {c:Int} {b:Bool} {i:Nat} (h:fi l c b=some i):i<l.length∧(nth l i).From=c∧(b ||((nth l i).Tag== []))=true:=by
 obtain⟨j,k,e⟩:=z3A h;unfold pM at e;split at e;rename_i z;injection e with e;have:i=j:=by omega
 subst this;rw[zCC k];exact⟨k,z⟩;cases e
theorem z7P {l:List Mapping} {c:Int} {b:Bool} (h:fi l c b=none):∀m∈l,¬(m.From=c∧(b ||(m.Tag== []))=true):=by intro m z G;obtain⟨j,k,rfl⟩:=List.getElem_of_mem z;have:=zKA h j k;unfold pM at this;rw[if_pos G] at this;cases this
theorem zXR {l:List Mapping} (T:DS l) (c:Int) (b:Bool):(∃i,fi l c b=some i∧i<l.length∧(nth l i).From=c∧fnB l b c=some (nth l i).To)∨(fi l c b=none∧fnB l b c=none):=by
 cases G:fi l c b with
 | some i=>
  obtain⟨h,z,k⟩:=zJJ G;refine .inl ⟨i,rfl,h,z,?_⟩;have:=zDZ T (wL h);rw[z] at this;unfold fnB;rw[this];simp only[k,if_true]
 | none=>
  refine .inr ⟨rfl,?_⟩;cases Y:fnB l b c with
  | none=>rfl
  | some Z=>
   obtain⟨m,h,_,k⟩:=zKD Y;obtain⟨H,O⟩:=zGQ h;exact absurd ⟨O,k⟩ (z7P G m H)
def fiI (l:List Mapping) (c:Int) (b:Bool):Int:=match fi l c b with
 | some i=>(i:Int)
 | none=> -1
end Go.M
namespace Go.M
open Go.AV
section
variable {l:List Mapping} (hd:DS l)
def zOF (l:List Mapping) (h:List Bool) (i:Nat):Bool:=(nth l i).To.all fun e=>match fi l e true with
 | some m=>nth h m
 | none=>true
def yAN (l:List Mapping) (h:List Bool):Prop:= ∀j,j<l.length→nth h j=true→WW l (nth l j).From
include hd
theorem yIY {z:List Bool} (h:yAN l z) {i:Nat} (hi:i<l.length) (Z:zOF l z i=true):WW l (nth l i).From:=by
 refine z2Y fun e H=>?_;rw[z2X hd (wL hi)] at H;have:=List.all_eq_true.1 Z e H;rcases zXR hd e true with ⟨m,G,k,T,_⟩ | ⟨G,k⟩
 rw[G] at this;have:=h m k this;rw[T] at this;exact this;cases O:syl e with
 | true=>exact yMA hd O
 | false=>
  refine zZP ?_;unfold dep;rw[if_neg (by simp[O])];rw[zUN] at k;cases Y:l.find? (isF e) with
  | none=>rfl
  | some m=>rw[Y] at k;cases k
theorem zXS (i:Nat) (k:List Bool) (hi:i<l.length) (H:k.length=l.length) (h:yAN l k):yAN l (k.set i (zOF l k i)):=by intro j G z;rw[zSM (by omega)] at z;split at z;rename_i e;subst e;exact yIY hd h hi z;exact h j G z
theorem yIZ (r:Nat) (h:List Bool) (i:Nat) (hi:i<l.length) (_hl:h.length=l.length) (H:∀j,j<l.length→DD l r (nth l j).From→nth h j=true) (T:DD l (r+1) (nth l i).From):zOF l h i=true:=by
 refine List.all_eq_true.2 fun e O=>?_;have:=T (nth l i) (zDZ hd (wL hi)) e O;rcases zXR hd e true with ⟨m,k,z,G,_⟩ | ⟨k,_⟩
 rw[k];exact H m z (by rw[G];exact this)
 rw[k]
theorem yET:(∀j,j<l.length→nth (zIT (zOF l) l.length l.length (List.replicate l.length false)) j=true)↔∀m∈l,WW l m.From:=by
 have T:yAN l (List.replicate l.length false):=by
  intro j z Z;rw[zCC (by simpa using z)] at Z;simp at Z
 constructor;intro h;have hv:=(zZV (upd:=zOF l) (n:=l.length) (Inv:=yAN l) (zXS hd) l.length _ (by simp) T).1;rw[←zDB (p:=fun m:Mapping=>WW l m.From)];exact fun k Y=>hv k Y (h k Y);intro H j z;have hp:=yD6 hd H;refine zZW (upd:=zOF l) (n:=l.length) (Inv:=yAN l) (R:=fun r j=>j<l.length∧DD l r (nth l j).From) (t:=fun _=>true) (fun r j h=>⟨h.1,zK3 h.2⟩) (zXS hd) (fun r O i hi hl _ h1 G=>yIZ hd r O i hi hl (fun j z G=>h1 j z ⟨z,G⟩) G.2) l.length 0 _ (by simp) T (fun j z G=>?_) j z ⟨z,by rw[Nat.zero_add];exact hp _ (wL z)⟩
 have:l.find? (isF (nth l j).From)=none:=G.2;rw[zDZ hd (wL z)] at this;cases this
end
section
variable {l:List Mapping} (hd:DS l) (hD:∀c,DD l l.length c) {b:Bool}
def lenOf (l:List Mapping) (b:Bool) (h:List Int) (e:Int):Int:=match fi l e b with
 | some m=>nth h m
 | none=>((hdE e).length:Int)
def updL (l:List Mapping) (b:Bool) (h:List Int) (i:Nat):Int:=if (b ||((nth l i).Tag== []))=true then min (max (((nth l i).To.map (lenOf l b h)).sum) 1) 65 else 1
def zZX (h:List Int):Prop:= ∀x∈h,0≤x∧x≤65
theorem yI0 (h:List Int) (i:Nat):0≤updL l b h i∧updL l b h i≤65:=by unfold updL;split<;>omega
theorem zQ6 (i:Nat) (k:List Int) (_hi:i<l.length) (_hl:k.length=l.length) (h:zZX k):zZX (k.set i (updL l b k i)):=by
 intro x z;rcases List.mem_or_eq_of_mem_set z with z | rfl
 exact h x z;exact yI0 k i
include hd hD
theorem yI1 {i:Nat} (hi:i<l.length):wt l b (nth l i).From=if (b ||((nth l i).Tag== []))=true then min (max (((nth l i).To.map (wt l b)).sum) 1) 65 else 1:=by
 rw[zXL hD];unfold fnB;rw[zDZ hd (wL hi)];by_cases h:(b ||((nth l i).Tag== []))=true;simp only[h,if_true];have z:=zUL hd (wL hi);have k:hdE (nth l i).From= [(nth l i).From]:=by unfold hdE;rw[if_neg (by simp[z])]
 rw[if_neg h];simp only[k];rw[if_neg h];rfl
omit hD in
theorem yEU {k:List Int} {e:Int} (H:fnB l b e=none→wt l b e=((hdE e).length:Int)) (h:∀m,m<l.length→(nth l m).From=e→nth k m=wt l b e):lenOf l b k e=wt l b e:=by
 unfold lenOf;rcases zXR hd e b with ⟨m,z,G,O,_⟩ | ⟨z,G⟩
 rw[z];exact h m G O;rw[z,H G]
theorem yI2 (r:Nat) (h:List Int) (i:Nat) (hi:i<l.length) (G:∀j,j<l.length→DD l r (nth l j).From→nth h j=wt l b (nth l j).From) (Y:DD l (r+1) (nth l i).From):updL l b h i=wt l b (nth l i).From:=by
 rw[yI1 hd hD hi];unfold updL;split
 ·have:(nth l i).To.map (lenOf l b h)=(nth l i).To.map (wt l b):=List.map_congr_left fun e H=>by
   have k:=Y (nth l i) (zDZ hd (wL hi)) e H;exact yEU hd (fun T=>by rw[zXL hD,T]) fun m O z=>by rw[←z];exact G m O (by rw[z];exact k)
  rw[this]
 ·rfl
theorem z7Q (j:Nat) (k:j<l.length):nth (zIT (updL l b) l.length l.length (List.replicate l.length 0)) j=wt l b (nth l j).From:=by
 have H:zZX (List.replicate l.length 0):=fun x T=>by rw[(List.mem_replicate.1 T).2];omega
 refine zZW (upd:=updL l b) (n:=l.length) (Inv:=zZX) (R:=fun r j=>j<l.length∧DD l r (nth l j).From) (t:=fun j=>wt l b (nth l j).From) (fun r j h=>⟨h.1,zK3 h.2⟩) zQ6 (fun r G i hi Y _ O z=>yI2 hd hD r G i hi (fun j k z=>O j k ⟨k,z⟩) z.2) l.length 0 _ (by simp) H (fun j k z=>?_) j k ⟨k,by rw[Nat.zero_add];exact hD _⟩
 have:l.find? (isF (nth l j).From)=none:=z.2;rw[zDZ hd (wL k)] at this;cases this
end
section
variable {l:List Mapping} (hd:DS l) (hD:∀c,DD l l.length c) {b:Bool}
def zHC (l:List Mapping) (b:Bool) (h:List (List Int)) (e:Int):List Int:=match fi l e b with
 | some m=>nth h m
 | none=>hdE e
def zUP (l:List Mapping) (b:Bool) (h:List (List Int)) (i:Nat):List Int:=if (b ||((nth l i).Tag== []))=true then (nth l i).To.flatMap (zHC l b h) else nth h i
def zV2 (l:List Mapping) (b:Bool) (h:List (List Int)):Prop:= ∀j,j<l.length→(nth h j).length≤(fu l b (nth l j).From).length
include hd hD
theorem z7R {i:Nat} (hi:i<l.length) (h:(b ||((nth l i).Tag== []))=true):fu l b (nth l i).From=(nth l i).To.flatMap (fu l b):=by rw[zRP hD];unfold fnB;rw[zDZ hd (wL hi)];simp only[h,if_true]
theorem z7S {k:List (List Int)} (h:zV2 l b k) (e:Int):(zHC l b k e).length≤(fu l b e).length:=by
 unfold zHC;rcases zXR hd e b with ⟨m,z,G,H,_⟩ | ⟨z,G⟩
 rw[z];have:=h m G;rw[H] at this;exact this;rw[z,zRP hD,G];exact Nat.le_refl _
omit hd hD in
theorem z3B {f g:Int→List Int} (h:∀e,(f e).length≤(g e).length):∀L:List Int,(L.flatMap f).length≤(L.flatMap g).length
 | []=>Nat.le_refl _
 | x::L=>by have:=z3B h L;have:=h x;simp only[List.flatMap_cons,List.length_append];omega
theorem yEV {k:List (List Int)} (h:zV2 l b k) {i:Nat} (hi:i<l.length):(zUP l b k i).length≤(fu l b (nth l i).From).length:=by unfold zUP;split;rename_i z;rw[z7R hd hD hi z];exact z3B (z7S hd hD h) _;exact h i hi
theorem zQ7 (i:Nat) (k:List (List Int)) (hi:i<l.length) (G:k.length=l.length) (h:zV2 l b k):zV2 l b (k.set i (zUP l b k i)):=by intro j z;rw[zSM (by omega)];split;rename_i e;subst e;exact yEV hd hD h hi;exact h j z
omit hD in
theorem yI3 (hD:∀c,DD l l.length c) (r:Nat) (h:List (List Int)) (i:Nat) (hi:i<l.length) (Y:∀j,j<l.length→(b ||((nth l j).Tag== []))=true→DD l r (nth l j).From→nth h j=fu l b (nth l j).From) (O:(b ||((nth l i).Tag== []))=true) (hr:DD l (r+1) (nth l i).From):zUP l b h i=fu l b (nth l i).From:=by
 rw[z7R hd hD hi O];unfold zUP;rw[if_pos O];refine zOD fun e Z=>?_;have G:=hr (nth l i) (zDZ hd (wL hi)) e Z;unfold zHC;cases H:fi l e b with
 | some m=>
  obtain⟨k,z,T⟩:=zJJ H;show nth h m=_;rw[Y m k T (by rw[z];exact G),z]
 | none=>
  rcases zXR hd e b with ⟨m,k,_⟩ | ⟨_,z⟩;rw[H] at k;cases k;show hdE e=_;rw[zRP hD,z]
def z3C (l:List Mapping) (b:Bool):List (List Int):=zIT (zUP l b) l.length l.length (List.replicate l.length [])
omit hd hD in
theorem yKS:zV2 l b (List.replicate l.length []):=by intro j h;rw[zCC (by simpa using h)];simp
theorem yMV (j:Nat) (k:j<l.length) (G:(b ||((nth l j).Tag== []))=true):nth (z3C l b) j=fu l b (nth l j).From:=by
 refine zZW (upd:=zUP l b) (n:=l.length) (Inv:=zV2 l b) (R:=fun r j=>j<l.length∧(b ||((nth l j).Tag== []))=true∧DD l r (nth l j).From) (t:=fun j=>fu l b (nth l j).From) (fun r j h=>⟨h.1,h.2.1,zK3 h.2.2⟩) (zQ7 hd hD) (fun r H i hi T _ O z=>yI3 hd hD r H i hi (fun j k G z=>O j k ⟨k,G,z⟩) z.2.1 z.2.2) l.length 0 _ (by simp) yKS (fun j k z=>?_) j k ⟨k,G,by rw[Nat.zero_add];exact hD _⟩
 have:l.find? (isF (nth l j).From)=none:=z.2.2;rw[zDZ hd (wL k)] at this;cases this
theorem yI4 (e:Int):zHC l b (z3C l b) e=fu l b e:=by
 unfold zHC;cases z:fi l e b with
 | some m=>
  obtain⟨h,k,G⟩:=zJJ z;show nth (z3C l b) m=_;rw[yMV hd hD m h G,k]
 | none=>
  rcases zXR hd e b with ⟨m,h,_⟩ | ⟨_,k⟩;rw[z] at h;cases h;show hdE e=_;rw[zRP hD,k]
end
end Go.M
namespace Go.M
open Go.AV
def plF (n:Int):Bool→List Int→Bool×List Int
 | true,l=>(true,l)
 | false,[]=>(false,[])
 | false,x::l=>if n≤x then (true,if n<x then n::x::l else x::l) else ((plF n false l).1,x::(plF n false l).2)
def plE (n:Int):List Int→List Int
 | []=>[n]
 | x::l=>if n≤x then (if n<x then n::x::l else x::l) else x::plE n l
theorem yKT (n:Int):∀l:List Int,(if (plF n false l).1=true then (plF n false l).2 else (plF n false l).2++ [n])=plE n l
 | []=>rfl
 | x::l=>by
  have:=yKT n l;unfold plF plE;by_cases h:n≤x;simp[h];simp only[h,if_false];rw[←this];split<;>simp
theorem z5S {l:List Int} {n:Int} (hl:l.length≤2000):∀(d k:Nat) (b:Bool) (h:List Int),l.length-k=d→k≤l.length→h.length≤2*k→
  zC (fun (x:Bool×Int×(List Int))=>jI l n x.1 x.2.1 x.2.2) (b,(k:Int),h)=some ((plF n b (l.drop k)).1,h++(plF n b (l.drop k)).2):=by
 intro d
 induction d with
 | zero=>
  intro k b h h1 h2 h3;rw[List.drop_of_length_le (show l.length≤k by omega)];refine zF ?_;simp only[jI,kB (show l.length≤k by omega),cond_false];cases b<;>simp[plF]
 | succ d ih=>
  intro k b h h1 h2 h3;have G:k<l.length:=by omega
  have O:∀{o:List Int} (x:Int),o.length≤2*k+1→app o [x]=some (o++ [x]):=fun {o} x ho=>k7 (by simp;omega)
  rw[List.drop_eq_getElem_cons G];have Z:∀(H:Bool) (T:List Int),T.length≤2*(k+1)→jI l n b (k:Int) h=some (.next (H,((k+1:Nat):Int),T))→(plF n H (l.drop (k+1))).1=(plF n b (l[k]::l.drop (k+1))).1→T++(plF n H (l.drop (k+1))).2=h++(plF n b (l[k]::l.drop (k+1))).2→
    zC (fun (x:Bool×Int×(List Int))=>jI l n x.1 x.2.1 x.2.2) (b,(k:Int),h)=some ((plF n b (l[k]::l.drop (k+1))).1,h++(plF n b (l[k]::l.drop (k+1))).2):=by
   intro H T ho hb e1 e2;rw[zJ (body:=fun (x:Bool×Int×(List Int))=>jI l n x.1 x.2.1 x.2.2) (x:=(b,(k:Int),h)) hb,ih (k+1) H T (by omega) (by omega) ho,e1,e2]
  cases b with
  | true=>
   refine Z true (h++ [l[k]]) (by simp;omega) ?_ ?_ ?_
   ·simp only[jI,yI G,cond_true,zH,Bool.not_true,w8,zA,Bool.false_and,cond_false,zP G,O _ (show h.length≤2*k+1 by omega),zK (k:=k) (by omega)]
   ·simp[plF]
   ·simp[plF]
  | false=>
   by_cases z:n≤l[k]
   ·by_cases Y:n<l[k]
    ·refine Z true (h++ [n]++ [l[k]]) (by simp;omega) ?_ ?_ ?_
     ·simp only[jI,yI G,cond_true,zH,Bool.not_false,j6,zA,Bool.true_and,zP G,z,Y,decide_true,O _ (show h.length≤2*k+1 by omega),O _ (show (h++ [n]).length≤2*k+1 by simp;omega),zK (k:=k) (by omega)]
     ·simp[plF,z]
     ·simp[plF,z,Y]
    ·refine Z true (h++ [l[k]]) (by simp;omega) ?_ ?_ ?_
     ·simp only[jI,yI G,cond_true,zH,Bool.not_false,j6,zA,Bool.true_and,zP G,z,Y,decide_true,decide_false,cond_false,O _ (show h.length≤2*k+1 by omega),zK (k:=k) (by omega)]
     ·simp[plF,z]
     ·simp[plF,z,Y]
   ·refine Z false (h++ [l[k]]) (by simp;omega) ?_ ?_ ?_
    ·simp only[jI,yI G,cond_true,zH,Bool.not_false,j6,zA,Bool.true_and,zP G,z,decide_false,cond_false,O _ (show h.length≤2*k+1 by omega),zK (k:=k) (by omega)]
    ·simp[plF,z]
    ·simp[plF,z]
theorem z7T (n:Int):∀l:List Int,(plF n false l).2.length≤l.length+1
 | []=>by simp[plF]
 | x::l=>by
  have:=z7T n l;unfold plF;by_cases h:n≤x;by_cases k:n<x<;>simp[h,k];simp only[h,if_false,List.length_cons];omega
theorem zPZ {l:List Int} (G:l.length≤2000) (n:Int):zDM l n=some (plE n l):=by
 unfold zDM;have h:=z5S (n:=n) G l.length 0 false [] (by omega) (by omega) (by simp);have k:=z7T n l;rw[List.drop_zero,List.nil_append] at h;have z:zC (fun (x:Bool×Int×(List Int))=>jI l n x.1 x.2.1 x.2.2) (false,0,[])=some ((plF n false l).1,(plF n false l).2):=h;rw[z,zA,←yKT];cases (plF n false l).1 with
 | true=>rfl
 | false=>simp only[Bool.not_false,cond_true,k7 (show (plF n false l).2.length+ [n].length≤4294967296 by simp;omega),zA];rfl
def Gd (l:List Int):Prop:=l.Pairwise (· < ·)∧∀x∈l,0≤x∧x≤1114111
theorem zZY (n:Int):∀{l:List Int} {x:Int},x∈plE n l→x=n∨x∈l
 | [],x,h=>by simp[plE] at h;exact .inl h
 | y::l,x,h=>by
  unfold plE at h;split at h;split at h;rcases List.mem_cons.1 h with h | h
  exact .inl h;exact .inr h;exact .inr h;rcases List.mem_cons.1 h with h | h
  exact .inr (by simp[h]);rcases zZY n h with h | h
  exact .inl h;exact .inr (by simp[h])
theorem z7U (n:Int):∀{l:List Int},l.Pairwise (· < ·)→(plE n l).Pairwise (· < ·)
 | [],_=>by simp[plE]
 | y::l,h=>by
  obtain⟨G,O⟩:=List.pairwise_cons.1 h;unfold plE;split;split;rename_i H;refine List.pairwise_cons.2 ⟨fun z k=>?_,h⟩;rcases List.mem_cons.1 k with rfl | k;exact H;have:=G z k;omega;exact h;rename_i H;refine List.pairwise_cons.2 ⟨fun z k=>?_,z7U n O⟩;rcases zZY n k with rfl | k;omega;exact G z k
theorem zQ8 {n:Int} (k:0≤n∧n≤1114111) {l:List Int} (h:Gd l):Gd (plE n l):=by
 refine⟨z7U n h.1,fun x hx=>?_⟩;rcases zZY n hx with rfl | hx
 exact k;exact h.2 x hx
theorem zM9 (n:Int):∀l:List Int,(plE n l).length≤l.length+1
 | []=>by simp[plE]
 | x::l=>by
  have:=zM9 n l;unfold plE;split;split<;>simp;simp only[List.length_cons];omega
theorem zZZ {n:Int}:∀{l:List Int},(∀x∈l,x<n)→plE n l=l++ [n]
 | [],_=>rfl
 | y::l,h=>by
  have z:=h y (by simp);unfold plE;rw[if_neg (by omega),zZZ fun x k=>h x (by simp[k])];rfl
def cuS (c:List Int) (r:Range):List Int:=if 0≤r.Hi∧r.Hi<1114111 then plE (r.Hi+1) (if vld r.Lo=true then plE r.Lo c else c) else (if vld r.Lo=true then plE r.Lo c else c)
theorem z7V (c:List Int) (r:Range):(cuS c r).length≤c.length+2:=by
 have k:=zM9 r.Lo c;unfold cuS;split
 ·
  have h:=zM9 (r.Hi+1) (if vld r.Lo=true then plE r.Lo c else c);split at h<;>split<;>simp_all<;>omega
 · split<;>omega
theorem yMW {c:List Int} {r:Range} (h:Gd c):Gd (cuS c r):=by
 have z:Gd (if vld r.Lo=true then plE r.Lo c else c):=by
  split;rename_i k;unfold vld at k;simp only[Bool.and_eq_true,decide_eq_true_eq] at k;exact zQ8 k h;exact h
 unfold cuS;split;exact zQ8 (by omega) z;exact z
def cuE (l:List Range) (c:List Int):List Int:=l.foldl cuS c
theorem zZ0:∀(l:List Range) {c:List Int},Gd c→Gd (cuE l c)
 | [],_,h=>h
 | r::l,_,h=>zZ0 l (yMW h)
theorem zZ1:∀(l:List Range) (c:List Int),(cuE l c).length≤c.length+2*l.length
 | [],c=>by simp[cuE]
 | r::l,c=>by
  have h:=zZ1 l (cuS c r);have k:=z7V c r;show (cuE l (cuS c r)).length≤_;simp only[List.length_cons];omega
theorem yAP {s:Set} (hl:s.Ranges.length≤12):∀(d k:Nat) (c:List Int),s.Ranges.length-k=d→k≤s.Ranges.length→c.length≤100+2*k→
  zC (fun (x:(List Int)×Int)=>vB s x.1 x.2) (c,(k:Int))=some (cuE (s.Ranges.drop k) c):=by
 intro d
 induction d with
 | zero=>
  intro k c O T Y;rw[List.drop_of_length_le (show s.Ranges.length≤k by omega)];refine zF ?_;simp only[vB,kB (show s.Ranges.length≤k by omega),cond_false];rfl
 | succ d Z=>
  intro k c O T Y;have G:k<s.Ranges.length:=by omega
  have hs:=z7V c s.Ranges[k];have hb:vB s c (k:Int)=some (.next (cuS c s.Ranges[k],((k+1:Nat):Int))):=by
   have hp:=zM9 s.Ranges[k].Lo c;simp only[vB,yI G,cond_true,zP G,zA,zE0,zH,zK (k:=k) (by omega),zPZ (show c.length≤2000 by omega)];unfold cuS;by_cases H:vld s.Ranges[k].Lo=true
   ·simp only[H,cond_true,zA,if_true]
    by_cases h:0≤s.Ranges[k].Hi
    ·by_cases z:s.Ranges[k].Hi<1114111
     ·simp only[h,z,decide_true,Bool.and_self,cond_true,and_self,if_true]
      rw[kQ (n:=s.Ranges[k].Hi+1) (by omega) (by omega),zPZ (by omega)];rfl
     ·simp[h,z]
    ·simp[h]
   ·simp only[H,Bool.false_eq_true,if_false,cond_false,zA]
    by_cases h:0≤s.Ranges[k].Hi
    ·by_cases z:s.Ranges[k].Hi<1114111
     ·simp only[h,z,decide_true,Bool.and_self,cond_true,and_self,if_true]
      rw[kQ (n:=s.Ranges[k].Hi+1) (by omega) (by omega),zPZ (by omega)];rfl
     ·simp[h,z]
    ·simp[h]
  rw[zJ (body:=fun (x:(List Int)×Int)=>vB s x.1 x.2) (x:=(c,(k:Int))) hb,Z (k+1) _ (by omega) (by omega) (by omega),List.drop_eq_getElem_cons G];rfl
theorem z7W {s:Set} (z:s.Ranges.length≤12) {c:List Int} (G:c.length≤100):zFX c s=some (plE 0 (cuE s.Ranges c)):=by unfold zFX;have h:=yAP z s.Ranges.length 0 c (by omega) (by omega) (by omega);rw[List.drop_zero] at h;have k:zC (fun (x:(List Int)×Int)=>vB s x.1 x.2) (c,0)=some (cuE s.Ranges c):=h;have:=zZ1 s.Ranges c;rw[k,zA,zPZ (by omega)];rfl
def zGE (l:List Range) (c:Int):Bool:=l.any fun r=>vld c&&decide (r.Lo≤c)&&decide (c≤r.Hi)
theorem yEW {s:Set} (O:s.Ranges.length≤2000) (c:Int):zFY s c=some (zGE s.Ranges c):=by
 unfold zFY;have h:=k9 (body:=fun (x:Int)=>zDV s c x) s.Ranges.length (fun k=> ¬(vld c&&decide ((nth s.Ranges k).Lo≤c)&&decide (c≤(nth s.Ranges k).Hi))=true) (fun y=>y=true) (fun k z=>by
  simp only[zDV,yI z,cond_true,zE0,zA,zH,z1 z,zK (k:=k) (by omega)];cases T:vld c with
  | false=>simp only[w8,zA,Bool.false_and,cond_false];exact .inl ⟨by simp,trivial⟩
  | true=>
   simp only[j6,zA,Bool.true_and];by_cases H:(nth s.Ranges k).Lo≤c;simp only[H,decide_true,j6,zA,Bool.true_and];exact zAR (by simp) rfl;simp only[H,decide_false,w8,zA,Bool.false_and,cond_false];exact .inl ⟨by simp,trivial⟩) (fun k z=>by simp only[zDV,kB z,cond_false])
 rw[zDB (p:=fun r:Range=> ¬(vld c&&decide (r.Lo≤c)&&decide (c≤r.Hi))=true)] at h;rcases h with ⟨h,p⟩ | ⟨y,rfl,h,p⟩
 rw[h];have:zGE s.Ranges c=false:=by unfold zGE;rw[List.any_eq_false];exact p
 rw[this];rfl;rw[h];have:zGE s.Ranges c=true:=by
  cases G:zGE s.Ranges c with
  | true=>rfl
  | false=>exfalso;apply p;unfold zGE at G;rw[List.any_eq_false] at G;exact G
 rw[this];rfl
def nxt:List Int→Int
 | []=>1114111
 | d::_=>d-1
def coF (has:Int→Bool):List Int→Bool→List Range→List Range
 | [],_,o=>o
 | c::cs,k,o=>if has c=true then (if k=true then coF has cs true (match o with
   | q::h=>{q with Hi:=nxt cs}::h
   | []=>[]) else coF has cs true ({Lo:=c,Hi:=nxt cs}::o)) else coF has cs false o
theorem yI5 {C:List Int} {s:Set} (hl:s.Ranges.length≤12) (hC:C.length≤200) (hg:Gd C):∀(d k:Nat) (z:Bool) (o:List Range),C.length-k=d→k≤C.length→o.length≤k→(z=true→o≠[])→
  zC (fun (x:Bool×Int×(List Range))=>k8 C s {Ranges:=[]} 1 x.1 x.2.1 x.2.2) (z,(k:Int),o.reverse)=some (coF (zGE s.Ranges) (C.drop k) z o).reverse:=by
 intro d
 induction d with
 | zero=>
  intro k z o h1 h2 h3 h4;rw[List.drop_of_length_le (show C.length≤k by omega)];refine zF ?_;simp only[k8,kB (show C.length≤k by omega),cond_false];rfl
 | succ d ih=>
  intro k z o h1 h2 h3 h4;have hk:k<C.length:=by omega
  have he:zFY {Ranges:=[]} C[k]=some false:=by rw[yEW (by simp)];rfl
  have ad:(cond (decide (((k+1:Nat):Int)<(C.length:Int))) ((z7 C ((k+1:Nat):Int)).bind fun ah=>some (wi (ah-1))) (some 1114111):Option Int)=some (nxt (C.drop (k+1))):=by
   by_cases O:k+1<C.length
   ·have:=hg.2 _ (List.getElem_mem O)
    rw[yI O,cond_true,zP O,zA,kQ (by omega) (by omega),List.drop_eq_getElem_cons O];rfl
   ·rw[kB (by omega),cond_false,List.drop_of_length_le (by omega)]
    rfl
  rw[List.drop_eq_getElem_cons hk];have nx:∀(G:Bool) (Z:List Range),Z.length≤k+1→(G=true→Z≠[])→k8 C s {Ranges:=[]} 1 z (k:Int) o.reverse=some (.next (G,((k+1:Nat):Int),Z.reverse))→coF (zGE s.Ranges) (C.drop (k+1)) G Z=coF (zGE s.Ranges) (C[k]::C.drop (k+1)) z o→
    zC (fun (x:Bool×Int×(List Range))=>k8 C s {Ranges:=[]} 1 x.1 x.2.1 x.2.2) (z,(k:Int),o.reverse)=some (coF (zGE s.Ranges) (C[k]::C.drop (k+1)) z o).reverse:=by
   intro G Z ho ac hb e;rw[zJ (body:=fun (x:Bool×Int×(List Range))=>k8 C s {Ranges:=[]} 1 x.1 x.2.1 x.2.2) (x:=(z,(k:Int),o.reverse)) hb,ih (k+1) G Z (by omega) (by omega) ho ac,e]
  have T:k8 C s {Ranges:=[]} 1 z (k:Int) o.reverse=((cond (zGE s.Ranges C[k]&&z) ((z7 o.reverse (wi ((o.reverse.length:Int)-1))).bind fun ai=>(uQ o.reverse (wi ((o.reverse.length:Int)-1)) ({ai with Hi:=nxt (C.drop (k+1))})).bind fun H=>some H) (some o.reverse)).bind fun (y3:List Range)=>
    (cond (zGE s.Ranges C[k]&& !z) ((app y3 [({Lo:=C[k],Hi:=nxt (C.drop (k+1))}:Range)]).bind fun r=>some r) (some y3)).bind fun (y5:List Range)=>some (Stp.next (zGE s.Ranges C[k],((k+1:Nat):Int),y5))):=by
   unfold k8;simp only[zK (k:=k) (show k+1≤9223372036854775807 by omega),yI hk,cond_true,ad,zA,zP hk,yEW (show s.Ranges.length≤2000 by omega),he,zI7,decide_true,zH,Bool.or_false]
  cases Y:zGE s.Ranges C[k] with
  | false=>
   refine nx false o (by omega) (fun h=>by cases h) ?_ ?_
   ·rw[T,Y];rfl
   ·simp[coF,Y]
  | true=>
   cases z with
   | false=>
    refine nx true ({Lo:=C[k],Hi:=nxt (C.drop (k+1))}::o) (by simp;omega) (fun _=>by simp) ?_ ?_
    ·rw[T,Y]
     simp only[Bool.and_false,cond_false,zA,Bool.not_false,Bool.and_self,cond_true,k7 (show o.reverse.length+ [({Lo:=C[k],Hi:=nxt (C.drop (k+1))}:Range)].length≤4294967296 by simp;omega)]
     simp
    ·simp[coF,Y]
   | true=>
    cases o with
    | nil=>exact absurd rfl (h4 rfl)
    | cons q o=>
     refine nx true ({q with Hi:=nxt (C.drop (k+1))}::o) (by simp only[List.length_cons] at h3 ⊢;omega) (fun _=>by simp) ?_ ?_
     ·rw[T,Y]
      have e1:wi (((q::o).reverse.length:Int)-1)=((o.length:Nat):Int):=by
       simp only[List.length_cons] at h3;have hL:((q::o).reverse.length:Int)=(o.length:Int)+1:=by simp
       rw[hL,kQ (by omega) (by omega)];omega
      have e2:(q::o).reverse=o.reverse++q:: []:=by simp
      rw[e1,e2,wH (by simp),zA,uP (by simp)];simp
     ·simp[coF,Y]
theorem yEX {l:List Range} (k:l.length≤12):zIE l=some {Ranges:=(coF (zGE l) (plE 0 (plE 0 (cuE l []))) false []).reverse}:=by unfold zIE zGL;have G:=zZ1 l [];have h2:=zM9 0 (cuE l []);have h3:=zM9 0 (plE 0 (cuE l []));simp only[List.length_nil] at G;have Z:cuE ([]:List Range) (plE 0 (cuE l []))=plE 0 (cuE l []):=rfl;have H:Gd (plE 0 (plE 0 (cuE l []))):=zQ8 (by omega) (zQ8 (by omega) (zZ0 l ⟨.nil,fun x O=>by cases O⟩));rw[z7W (s:={Ranges:=l}) k (by simp),zA,z7W (s:={Ranges:=[]}) (by simp) (show (plE 0 (cuE l [])).length≤100 by omega)];rw[zA];have h:=yI5 (s:={Ranges:=l}) k (by omega) H _ 0 false [] rfl (by omega) (by simp) (fun h=>by cases h);rw[List.drop_zero] at h;have z:zC (fun (x:Bool×Int×(List Range))=>k8 (plE 0 (plE 0 (cuE l []))) {Ranges:=l} {Ranges:=[]} 1 x.1 x.2.1 x.2.2) (false,0,[])=some (coF (zGE l) (plE 0 (plE 0 (cuE l []))) false []).reverse:=h;change ((zC (fun (x:Bool×Int×(List Range))=>k8 (plE 0 (plE 0 (cuE l []))) {Ranges:=l} {Ranges:=[]} 1 x.1 x.2.1 x.2.2) (false,0,[])).bind fun Y=>some ({Ranges:=Y}:Set)).bind (fun T=>some T)=_;rw[z];rfl
end Go.M
namespace Go.M
open Go.AV
theorem zSQ {has:Int→Bool}:∀(C:List Int) (Y:Bool) (o:List Range),Gd C→CanR o→(Y=true→∀c,C.head? =some c→∃q T,o=q::T∧q.Hi=c-1∧q.Lo≤c)→(Y=false→∀c q,C.head? =some c→o.head? =some q→q.Hi+1<c)→(Y=true→o≠[])→CanR (coF has C Y o)
 | [],_,_,_,h,_,_,_=>h
 | c::cs,Y,o,hg,Z,h1,h2,h3=>by
  obtain⟨ha,hb⟩:=List.pairwise_cons.1 hg.1;have O:Gd cs:=⟨hb,fun x hx=>hg.2 x (by simp[hx])⟩;have hc:=hg.2 c (by simp);have k:c≤nxt cs∧nxt cs≤1114111∧∀d,cs.head? =some d→nxt cs=d-1∧c<d:=by
   cases cs with
   | nil=>exact⟨hc.2,Int.le_refl _,fun d G=>by cases G⟩
   | cons d cs=>
    have h5:=ha d (by simp);have h6:=hg.2 d (by simp);refine⟨show c≤d-1 by omega,show d-1≤1114111 by omega,fun e he=>?_⟩;simp only[List.head?_cons,Option.some.injEq] at he;subst he;exact⟨rfl,h5⟩
  unfold coF;split;split;rename_i H;obtain⟨q,T,rfl,e1,e2⟩:=h1 H c rfl;refine zSQ cs true _ O ?_ (fun _ d G=>⟨_,_,rfl,(k.2.2 d G).1,?_⟩) (fun h=>by cases h) (fun _=>by simp);have hq:=Z.head;unfold zCM at hq;cases T with
  | nil=>show zCM _;unfold zCM;simp only;omega
  | cons z T=>exact⟨by unfold zCM;simp only;omega,Z.2.1,Z.2.2⟩
  have:=(k.2.2 d G).2;show q.Lo≤d;omega;rename_i H;simp only[Bool.not_eq_true] at H;refine zSQ cs true _ O ?_ (fun _ d G=>⟨_,_,rfl,(k.2.2 d G).1,?_⟩) (fun h=>by cases h) (fun _=>by simp);cases o with
  | nil=>show zCM _;unfold zCM;simp only;omega
  | cons z T=>exact⟨by unfold zCM;simp only;omega,h2 H c z rfl rfl,Z⟩
  have:=(k.2.2 d G).2;show c≤d;omega;refine zSQ cs false o O Z (fun h=>by cases h) (fun _ d q G hq=>?_) (fun h=>by cases h);have h7:=(k.2.2 d G).2;cases Y with
  | true=>
   obtain⟨q',T,rfl,e1,_⟩:=h1 rfl c rfl;simp only[List.head?_cons,Option.some.injEq] at hq;subst hq;omega
  | false=>
   have:=h2 rfl c q rfl hq;omega
def zLO (l:List Range):List Int:=l.flatMap fun r=>r.Lo::if r.Hi<1114111 then [r.Hi+1] else []
theorem yEY:∀(l:List Range) (c:List Int),Can l→(∀x∈c,∀r,l.head? =some r→x<r.Lo)→cuE l c=c++zLO l
 | [],c,_,_=>by simp[cuE,zLO]
 | r::l,c,h,z=>by
  have T:=h.head;unfold zCM at T;have Y:vld r.Lo=true:=by unfold vld;simp;omega
  have O:plE r.Lo c=c++ [r.Lo]:=zZZ fun x hx=>z x hx r rfl;have H:cuS c r=c++(r.Lo::if r.Hi<1114111 then [r.Hi+1] else []):=by
   unfold cuS;rw[if_pos Y,O];by_cases k:r.Hi<1114111;rw[if_pos ⟨by omega,k⟩,if_pos k,zZZ];simp;intro x hx;rcases List.mem_append.1 hx with hx | hx
   have:=z x hx r rfl;omega;simp only[List.mem_singleton] at hx;omega;rw[if_neg (fun h=>k h.2),if_neg k]
  show cuE l (cuS c r)=_;rw[yEY l (cuS c r) h.tail,H];simp[zLO];intro x hx q G;have Z:r.Hi+1<q.Lo:=h.gap q (by cases l with | nil=>cases G | cons a l=>simp only[List.head?_cons,Option.some.injEq] at G;simp[G])
  rw[H] at hx;rcases List.mem_append.1 hx with hx | hx
  have:=z x hx r rfl;omega;rcases List.mem_cons.1 hx with rfl | hx
  omega;split at hx;simp only[List.mem_singleton] at hx;omega;cases hx
theorem yMX {l:List Range} (h:Can l) {r:Range} (k:r∈l):zGE l r.Lo=true:=by have:=h.ok r k;unfold zCM at this;unfold zGE;refine List.any_eq_true.2 ⟨r,k,?_⟩;unfold vld;simp;omega
theorem yEZ:∀{l:List Range},Can l→∀{r:Range},r∈l→zGE l (r.Hi+1)=false
 | [],_,r,G=>by cases G
 | a::l,h,r,G=>by
  unfold zGE;rw[List.any_eq_false];intro q z;have H:∀(c:Int) (q:Range),(c<q.Lo∨q.Hi<c)→¬(vld c&&decide (q.Lo≤c)&&decide (c≤q.Hi))=true:=by
   intro c q Y;simp only[Bool.and_eq_true,decide_eq_true_eq];omega
  rcases List.mem_cons.1 G with rfl | k;refine H _ _ ?_;rcases List.mem_cons.1 z with rfl | z;omega;have:=h.gap q z;omega;rcases List.mem_cons.1 z with rfl | z;refine H _ _ ?_;have T:=h.gap r k;have O:=h.tail.ok r k;unfold zCM at O;omega;have:=yEZ h.tail k;unfold zGE at this;rw[List.any_eq_false] at this;exact this q z
theorem z7X {has:Int→Bool}:∀(l:List Range) (o:List Range),Can l→(∀r∈l,has r.Lo=true∧(r.Hi<1114111→has (r.Hi+1)=false))→coF has (zLO l) false o=l.reverse++o
 | [],o,_,_=>by simp[zLO,coF]
 | r::l,o,h,G=>by
  obtain⟨z,H⟩:=G r (by simp);have ih:=z7X (has:=has) l (r::o) h.tail fun q Y=>G q (by simp[Y]);have Z:=h.head;unfold zCM at Z;by_cases k:r.Hi<1114111
  ·have e:zLO (r::l)=r.Lo::(r.Hi+1)::zLO l:=by simp[zLO,k]
   have en:nxt ((r.Hi+1)::zLO l)=r.Hi:=by show r.Hi+1-1=r.Hi;omega
   rw[e];unfold coF;rw[if_pos z,if_neg (by simp),en];unfold coF;rw[if_neg (by rw[H k];simp),ih]
   simp
  ·have T:l= []:=by
    cases l with
    | nil=>rfl
    | cons q l=>
     have:=h.2.1;have O:=h.tail.head;unfold zCM at O;omega
   subst T;have e:zLO [r]= [r.Lo]:=by simp[zLO,k]
   rw[e];unfold coF;rw[if_pos z,if_neg (by simp)];unfold coF;have:nxt []=r.Hi:=by show (1114111:Int)=r.Hi;omega
   rw[this];rfl
theorem yE0 {l:List Int} (h:Gd l):plE 0 (plE 0 l)=plE 0 l:=by
 cases l with
 | nil=>rfl
 | cons x l=>
  have:=h.2 x (by simp);by_cases k:0<x;have e:plE 0 (x::l)=0::x::l:=by unfold plE;rw[if_pos (by omega),if_pos k]
  rw[e];unfold plE;rw[if_pos (by omega),if_neg (by omega)];have e:plE 0 (x::l)=x::l:=by unfold plE;rw[if_pos (by omega),if_neg k]
  rw[e,e]
theorem yE1 {l:List Range} (h:Can l):(coF (zGE l) (plE 0 (plE 0 (cuE l []))) false []).reverse=l:=by
 rw[yE0 (zZ0 l ⟨.nil,fun x k=>by cases k⟩),yEY l [] h (fun x k=>by cases k),List.nil_append];have H:=z7X (has:=zGE l) l [] h fun r G=>⟨yMX h G,fun _=>yEZ h G⟩;rw[List.append_nil] at H;have z:plE 0 (zLO l)=zLO l∨(plE 0 (zLO l)=0::zLO l∧zGE l 0=false):=by
  cases l with
  | nil=>exact .inr ⟨rfl,rfl⟩
  | cons r l=>
   have G:=h.head;unfold zCM at G;have e:zLO (r::l)=r.Lo::((if r.Hi<1114111 then [r.Hi+1] else [])++zLO l):=by simp[zLO]
   rw[e];by_cases k:0<r.Lo;refine .inr ⟨by unfold plE;rw[if_pos (by omega),if_pos k],?_⟩
   unfold zGE;rw[List.any_eq_false];intro q hq;simp only[Bool.and_eq_true,decide_eq_true_eq];rcases List.mem_cons.1 hq with rfl | hq
   omega;have:=h.gap q hq;omega;exact .inl (by unfold plE;rw[if_pos (by omega),if_neg k])
 rcases z with z | ⟨z,O⟩;rw[z,H,List.reverse_reverse];rw[z];unfold coF;rw[if_neg (by rw[O];simp),H,List.reverse_reverse]
theorem yAR (l:List Range):Can (coF (zGE l) (plE 0 (plE 0 (cuE l []))) false []).reverse:=by have z:Gd (plE 0 (plE 0 (cuE l []))):=zQ8 (by omega) (zQ8 (by omega) (zZ0 l ⟨.nil,fun x H=>by cases H⟩));have:=zSQ (has:=zGE l) _ false [] z trivial (fun h=>by cases h) (fun _ c q _ G=>by cases G) (fun h=>by cases h);have k:=zZL _ [] this trivial (fun _ _ _ h=>by cases h);simpa using k
theorem yI6 {a b:Set} (Y:a.Ranges.length≤2000):zIF a b=some (decide (a.Ranges=b.Ranges)):=by
 unfold zIF;by_cases G:a.Ranges.length=b.Ranges.length;have e:(!decide ((a.Ranges.length:Int)=(b.Ranges.length:Int)))=false:=by simp[G]
 rw[e,cond_false];have h:=k9 (body:=fun (x:Int)=>zCY a b x) a.Ranges.length (fun k=>nth a.Ranges k=nth b.Ranges k) (fun y=>y=false) (fun k z=>by
  simp only[zCY,yI z,cond_true,z1 z,z1 (show k<b.Ranges.length by omega),zA,zK (k:=k) (by omega)];exact zAR (by simp) rfl) (fun k z=>by simp only[zCY,kB z,cond_false])
 have T:(∀j,j<a.Ranges.length→nth a.Ranges j=nth b.Ranges j)↔a.Ranges=b.Ranges:=by
  constructor;intro h;refine List.ext_getElem G fun i H O=>?_;have:=h i H
  rwa [zCC H,zCC O] at this
  intro h j _;rw[h]
 rw[T] at h;rcases h with ⟨h,p⟩ | ⟨y,rfl,h,p⟩
 rw[h];simp[p];rw[h];simp[p];have e:(!decide ((a.Ranges.length:Int)=(b.Ranges.length:Int)))=true:=by simp;omega
 rw[e,cond_true];have:a.Ranges≠b.Ranges:=fun h=>G (by rw[h]);simp[this]
theorem yMY {s:Set} (k:s.Ranges.length≤12):∃b,zG0 s=some b∧(b=true↔Can s.Ranges):=by unfold zG0;rw[yEX k,zA,yI6 (by omega),zA];refine⟨_,rfl,?_⟩;simp only[decide_eq_true_eq];constructor;intro h;rw[h];exact yAR _;intro h;rw[yE1 h]
end Go.M
namespace Go.M
open Go.AV
theorem zZ2 {l:List Mapping} (T:l.length≤2000) (c:Int) (b:Bool):zDN l c b=some (fiI l c b):=by
 unfold zDN;have h:zC (fun (x:Int)=>zCZ l c b x) 0=some (toS (chk (fun k m=>(pM c b k m).map fun (i:Nat)=>(i:Int)) l 0)):=by
  refine j9 l _ (fun k G=>?_) (fun k G=>?_);simp only[zCZ,yI G,cond_true,zP G,zA,zH,zK (k:=k) (by omega),pM];by_cases z:l[k].From=c;cases b with
  | true=>simp[z,w8,stp]
  | false=>
   cases H:(l[k].Tag== []) with
   | true=>simp only[z,decide_true,Bool.not_false,Bool.and_self,j6,zA,Bool.false_or,H,Bool.true_and,cond_true,and_self,if_true,Option.map_some,stp]
   | false=>simp only[z,decide_true,Bool.not_false,Bool.and_self,j6,zA,Bool.false_or,H,Bool.true_and,cond_false,Bool.false_eq_true,and_false,if_false,Option.map_none,stp]
  simp[z,w8,stp];simp only[zCZ,kB G,cond_false]
 rw[h,zA,jQ];have e:∀(L:List Mapping) (k:Nat),chk (fun k m=>(pM c b k m).map fun (i:Nat)=>(i:Int)) L k=(chk (pM c b) L k).map fun (i:Nat)=>(i:Int):=by
  intro L
  induction L with
  | nil=>intro k;rfl
  | cons x L O=>
   intro k;unfold chk;cases pM c b k x with
   | none=>exact O (k+1)
   | some y=>rfl
 rw[e];unfold fiI fi;cases chk (pM c b) l 0<;>rfl
theorem yE2 (c:Int):zFZ c=some (hkE c):=by
 unfold zFZ hkE;simp only[zH];by_cases h:4352≤c∧c<4371;rw[if_pos h];have:(decide (4352≤c)&&decide (c≤4370))=true:=by simp;omega
 rw[this];rfl;rw[if_neg h];have H:(decide (4352≤c)&&decide (c≤4370))=false:=by simp only[Bool.and_eq_false_iff,decide_eq_false_iff_not];omega
 rw[H,cond_false];by_cases k:4449≤c∧c<4470;rw[if_pos k];have:(decide (4449≤c)&&decide (c≤4469))=true:=by simp;omega
 rw[this];rfl;rw[if_neg k];have O:(decide (4449≤c)&&decide (c≤4469))=false:=by simp only[Bool.and_eq_false_iff,decide_eq_false_iff_not];omega
 rw[O,cond_false];by_cases z:4520≤c∧c<4547;rw[if_pos z];have:(decide (4520≤c)&&decide (c≤4546))=true:=by simp;omega
 rw[this];rfl;rw[if_neg z];have T:(decide (4520≤c)&&decide (c≤4546))=false:=by simp only[Bool.and_eq_false_iff,decide_eq_false_iff_not];omega
 rw[T,cond_false];by_cases G:c<44032∨55204≤c;rw[if_pos G];have:(decide (44032≤c)&&decide (c≤55203))=false:=by simp only[Bool.and_eq_false_iff,decide_eq_false_iff_not];omega
 rw[this];rfl;rw[if_neg G];have Y:(decide (44032≤c)&&decide (c≤55203))=true:=by simp;omega
 rw[Y,cond_true,kQ (n:=c-44032) (by omega) (by omega)];have er:zD3 (c-44032) 28=some ((c-44032)%28):=by
  unfold zD3;rw[if_neg (by decide),Int.tmod_eq_emod_of_nonneg (by omega)]
 rw[er,zA];by_cases Z:(c-44032)%28=0<;>simp[Z]
theorem yKU (c:Int):zAW c=some (hdE c):=by
 unfold zAW;rw[yE2,zA];cases k:syl c with
 | false=>
  have:decide (hkE c<4)=true:=by
   simp only[decide_eq_true_eq];have:¬4≤hkE c:=fun h=>by have:=(zHU c).2 h;rw[k] at this;cases this
   omega
  rw[this,cond_true];unfold hdE;rw[if_neg (by simp[k])]
 | true=>
  have Y:=(zHU c).1 k;have:decide (hkE c<4)=false:=by simp only[decide_eq_false_iff_not];omega
  rw[this,cond_false];have Z:44032≤c∧c≤55203:=by unfold syl at k;simpa using k
  rw[kQ (n:=c-44032) (by omega) (by omega)];have G:zIX wi (c-44032) 28=some ((c-44032)/28):=by
   unfold zIX;rw[if_neg (by decide),Int.tdiv_eq_ediv_of_nonneg (by omega),kQ (by omega) (by omega)]
  have H:zIX wi ((c-44032)/28) 21=some ((c-44032)/28/21):=by
   unfold zIX;rw[if_neg (by decide),Int.tdiv_eq_ediv_of_nonneg (by omega),kQ (by omega) (by omega)]
  have O:zD3 ((c-44032)/28) 21=some ((c-44032)/28%21):=by
   unfold zD3;rw[if_neg (by decide),Int.tmod_eq_emod_of_nonneg (by omega)]
  have T:zD3 (c-44032) 28=some ((c-44032)%28):=by
   unfold zD3;rw[if_neg (by decide),Int.tmod_eq_emod_of_nonneg (by omega)]
  simp only[G,H,O,T,zA];unfold hdE;rw[if_pos k,kQ (n:=4352+(c-44032)/28/21) (by omega) (by omega),kQ (n:=4449+(c-44032)/28%21) (by omega) (by omega)];by_cases z:0<(c-44032)%28;rw[if_pos z,kQ (n:=4520+(c-44032)%28) (by omega) (by omega),kQ (n:=4520+(c-44032)%28-1) (by omega) (by omega)];simp only[z,decide_true,cond_true];rw[k7 (by simp)];rfl;rw[if_neg z];simp only[z,decide_false,cond_false];rfl
section
variable {l:List Mapping} (hl:l.length≤2000) (hto:∀m∈l,m.To.length≤2000)
include hl hto
theorem yI7 {h:List Bool} (ho:h.length=l.length) {i:Nat} (hi:i<l.length):∀(d k:Nat) (b:Bool),(nth l i).To.length-k=d→k≤(nth l i).To.length→
  zC (fun (x:Bool×Int)=>vC l (i:Int) h x.1 x.2) (b,(k:Int))=some (b&&((nth l i).To.drop k).all fun e=>match fi l e true with | some m=>nth h m | none=>true):=by
 have G:=hto _ (wL hi);intro d
 induction d with
 | zero=>
  intro k b H O;rw[List.drop_of_length_le (show (nth l i).To.length≤k by omega)];refine zF ?_;simp only[vC,z1 hi,zA,kB (show (nth l i).To.length≤k by omega),cond_false,List.all_nil,Bool.and_true]
 | succ d Y=>
  intro k b H O;have z:k<(nth l i).To.length:=by omega
  have hb:vC l (i:Int) h b (k:Int)=some (.next (b&&(match fi l (nth l i).To[k] true with | some m=>nth h m | none=>true),((k+1:Nat):Int))):=by
   simp only[vC,z1 hi,zA,yI z,cond_true,zP z,zZ2 hl,zH,zK (k:=k) (by omega)];unfold fiI;cases T:fi l (nth l i).To[k] true with
   | none=>simp[w8]
   | some m=>
    obtain⟨Z,_,_⟩:=zJJ T;have e:decide (((m:Nat):Int)<0)=false:=by simp
    simp only[e,Bool.not_false,Bool.and_true,Bool.false_or];cases b with
    | false=>simp[w8]
    | true=>simp only[j6,z1 (show m<h.length by omega),zA,Bool.true_and]
  rw[zJ (body:=fun (x:Bool×Int)=>vC l (i:Int) h x.1 x.2) (x:=(b,(k:Int))) hb,Y (k+1) _ (by omega) (by omega),List.drop_eq_getElem_cons z,List.all_cons,Bool.and_assoc]
theorem yI8:zIG l=some (zIT (zOF l) l.length l.length (List.replicate l.length false)):=by
 unfold zIG;rw[zZC (by omega),zA];have H:∀(h:List Bool),h.length=l.length→zC (fun (x:Int×(List Bool))=>zBI l x.1 x.2) (0,h)=some (zPW (zOF l) l.length 0 h):=fun h z=>
  zPX (upd:=zOF l) (n:=l.length) (Inv:=fun _=>True) (body:=fun (x:Int×(List Bool))=>zBI l x.1 x.2) (fun i h=>((i:Int),h)) id (fun i h hi z _=>by
   have:=yI7 hl hto z hi _ 0 true rfl (by omega);rw[List.drop_zero,Bool.true_and] at this;have G:zC (fun (x:Bool×Int)=>vC l (i:Int) h x.1 x.2) (true,0)=some (zOF l h i):=this;simp only[zBI,yI hi,cond_true,G,zA,z1 (show i<h.length by omega),zEK (show i<h.length by omega),zK (k:=i) (by omega)]) (fun _ _ _ _ _=>trivial) (fun h=>by simp only[zBI,kB (Nat.le_refl _),cond_false];rfl) l.length 0 h (by omega) z trivial
 have O:=zPY (upd:=zOF l) (n:=l.length) (Inv:=fun _=>True) (body:=fun (x:Int×(List Bool))=>zBJ l x.1 x.2) (fun i h=>((i:Int),h)) id (N:=l.length) (fun r h Y z _=>by
  simp only[zBJ,yI Y,cond_true,H h z,zA,zK (k:=r) (by omega)]) (fun _ _ _ _ _=>trivial) (fun h=>by simp only[zBJ,kB (Nat.le_refl _),cond_false];rfl) l.length 0 (List.replicate l.length false) (by omega) (by simp) trivial
 have T:zC (fun (x:Int×(List Bool))=>zBJ l x.1 x.2) (0,List.replicate l.length false)=some (zIT (zOF l) l.length l.length (List.replicate l.length false)):=O;rw[T];rfl
theorem yI9 {b:Bool} {h:List Int} (ho:h.length=l.length) (hv:zZX h) {i:Nat} (hi:i<l.length):∀(d k:Nat) (n:Int),(nth l i).To.length-k=d→k≤(nth l i).To.length→0≤n→n≤100*(k:Int)→
  zC (fun (x:Int×Int)=>xE l (i:Int) b h x.1 x.2) (n,(k:Int))=some (n+(((nth l i).To.drop k).map (lenOf l b h)).sum):=by
 have O:=hto _ (wL hi);intro d
 induction d with
 | zero=>
  intro k n T Y z Z;rw[List.drop_of_length_le (show (nth l i).To.length≤k by omega)];refine zF ?_;simp only[xE,z1 hi,zA,kB (show (nth l i).To.length≤k by omega),cond_false,List.map_nil,List.sum_nil,Int.add_zero]
 | succ d ih=>
  intro k n T Y z Z;have H:k<(nth l i).To.length:=by omega
  have aa:0≤lenOf l b h (nth l i).To[k]∧lenOf l b h (nth l i).To[k]≤65:=by
   unfold lenOf;cases G:fi l (nth l i).To[k] b with
   | none=>have:=zOB (nth l i).To[k];simp only[];omega
   | some m=>obtain⟨z,_,_⟩:=zJJ G;exact hv _ (wL (by omega))
  have hb:xE l (i:Int) b h n (k:Int)=some (.next (n+lenOf l b h (nth l i).To[k],((k+1:Nat):Int))):=by
   have hw:wi (n+lenOf l b h (nth l i).To[k])=n+lenOf l b h (nth l i).To[k]:=kQ (by omega) (by omega);simp only[xE,z1 hi,zA,yI H,cond_true,zP H,zZ2 hl,zK (k:=k) (by omega),yKU];rw[←hw];unfold lenOf fiI;cases G:fi l (nth l i).To[k] b with
   | none=>rfl
   | some m=>
    obtain⟨z,_,_⟩:=zJJ G;have e:decide (0≤((m:Nat):Int))=true:=by simp
    simp only[e,cond_true,z1 (show m<h.length by omega),zA]
  rw[zJ (body:=fun (x:Int×Int)=>xE l (i:Int) b h x.1 x.2) (x:=(n,(k:Int))) hb,ih (k+1) _ (by omega) (by omega) (by omega) (by omega),List.drop_eq_getElem_cons H,List.map_cons,List.sum_cons,Int.add_assoc]
theorem z7Y (b:Bool):zC0 l b=some (zIT (updL l b) l.length l.length (List.replicate l.length 0)):=by
 unfold zC0;rw[zZC (by omega),zA];have O:zZX (List.replicate l.length 0):=fun x hx=>by rw[(List.mem_replicate.1 hx).2];omega
 have T:∀(h:List Int),h.length=l.length→zZX h→zC (fun (x:Int×(List Int))=>w6 l b x.1 x.2) (0,h)=some (zPW (updL l b) l.length 0 h):=fun h z G=>
  zPX (upd:=updL l b) (n:=l.length) (Inv:=zZX) (body:=fun (x:Int×(List Int))=>w6 l b x.1 x.2) (fun i h=>((i:Int),h)) id (fun i h hi z G=>by
   have:=yI9 hl hto (b:=b) z G hi _ 0 0 rfl (by omega) (by omega) (by omega);rw[List.drop_zero,Int.zero_add] at this;have H:zC (fun (x:Int×Int)=>xE l (i:Int) b h x.1 x.2) (0,0)=some (((nth l i).To.map (lenOf l b h)).sum):=this;simp only[w6,yI hi,cond_true,H,zA,z1 (show i<h.length by omega),zEK (show i<h.length by omega),z1 hi,zH,zK (k:=i) (by omega)];unfold updL;cases b with
   | true=>simp
   | false=>
    cases ht:((nth l i).Tag== []) with
    | true=>simp
    | false=>simp[z1 (show i<(h.set i (min (max (List.map (lenOf l false h) (nth l i).To).sum 1) 65)).length by simp;omega),zEK (show i<(h.set i (min (max (List.map (lenOf l false h) (nth l i).To).sum 1) 65)).length by simp;omega)]) zQ6 (fun h=>by simp only[w6,kB (Nat.le_refl _),cond_false];rfl) l.length 0 h (by omega) z G
 have Y:=zPY (upd:=updL l b) (n:=l.length) (Inv:=zZX) (body:=fun (x:Int×(List Int))=>w7 l b x.1 x.2) (fun i h=>((i:Int),h)) id (N:=l.length) (fun r h hr z G=>by
  simp only[w7,yI hr,cond_true,T h z G,zA,zK (k:=r) (by omega)]) zQ6 (fun h=>by simp only[w7,kB (Nat.le_refl _),cond_false];rfl) l.length 0 (List.replicate l.length 0) (by omega) (by simp) O
 have Z:zC (fun (x:Int×(List Int))=>w7 l b x.1 x.2) (0,List.replicate l.length 0)=some (zIT (updL l b) l.length l.length (List.replicate l.length 0)):=Y;rw[Z];rfl
end
end Go.M
namespace Go.M
open Go.AV
theorem zSR {G:Type} [Inhabited G] {upd:List G→Nat→G} {n k:Nat} {z:List G} (h:z.length=n):(zIT upd n k z).length=n:=
 (zZV (upd:=upd) (n:=n) (Inv:=fun _=>True) (fun _ _ _ _ _=>trivial) k z h trivial).2
theorem z3D {l:List Mapping} (h:∀k,k+1<l.length→(nth l k).From<(nth l (k+1)).From):∀(d i:Nat),i+d+1<l.length→(nth l i).From<(nth l (i+d+1)).From
 | 0,i,hi=>h i hi
 | d+1,i,hi=>by
  have z:=z3D h d i (by omega);have G:=h (i+d+1) (by omega);have:i+(d+1)+1=i+d+1+1:=by omega
  rw[this];omega
theorem yAS {l:List Mapping} (Y:∀k,k+1<l.length→mlt (nth l k) (nth l (k+1))):(∀k,k<l.length→¬fiI l (nth l k).From true<(k:Int))↔∀k,k+1<l.length→(nth l (k+1)).From≠(nth l k).From:=by
 constructor;intro h k H e;have G:k<l.length:=by omega
 have hp:pM (nth l (k+1)).From true (0+k) l[k]≠none:=by
  unfold pM;rw[if_pos ⟨by rw[e,zCC G],rfl⟩];simp
 obtain⟨i,hi,ab,Z⟩:=zXQ (p:=pM (nth l (k+1)).From true) (l:=l) (k:=0) G hp;have T:fi l (nth l (k+1)).From true=some i:=by
  unfold fi;rw[Z];unfold pM;split;simp;rename_i hn;exfalso;have:chk (pM (nth l (k+1)).From true) l 0=none:=by rw[Z];unfold pM;rw[if_neg hn]
  exact hp (zKA this k G)
 refine h (k+1) H ?_;unfold fiI;rw[T];simp only[];omega;intro h k H z;have hs:∀k,k+1<l.length→(nth l k).From<(nth l (k+1)).From:=fun k H=>by
  have a:=Y k H;have b:=h k H;unfold mlt at a;omega
 unfold fiI at z;cases O:fi l (nth l k).From true with
 | none=>exact absurd ⟨rfl,rfl⟩ (z7P O _ (wL H))
 | some i=>
  rw[O] at z;simp only[] at z;obtain⟨h1,h2,_⟩:=zJJ O;have:=z3D hs (k-i-1) i (by omega);rw[show i+(k-i-1)+1=k by omega] at this;omega
theorem yMZ {n:Norm} (Y:NSm n) (bk:zC5 n):Ver (zG1 n) (VD0 n):=by
 obtain⟨e1,aw,p1⟩:=yEP (l:=n.Classes) (by have:=Y.cl;omega)
 obtain⟨e2,ax,p2⟩:=yMU (l:=n.Decomp) (by have:=Y.de;omega) (fun m G=>by have:=Y.to m G;omega) (fun m G=>by have:=Y.tg m G;unfold MX;omega)
 obtain⟨e3,ay,p3⟩:=yMY (s:=n.Excluded) Y.ex;have bi:=Y.de;have hl:n.Decomp.length≤2000:=by omega
 have aa:∀m∈n.Decomp,m.To.length≤2000:=fun m G=>by have:=Y.to m G;omega
 unfold zG1;rw[aw,zA];by_cases h1:e1=0
 case neg=>
  have:(!decide (e1=0))=true:=by simp[h1]
  rw[this,cond_true];exact⟨e1,rfl,by simp only[h1,false_iff];exact fun h=>h1 (p1.2 h.cv)⟩
 rw[h1];simp only[decide_true,Bool.not_true,cond_false];have cv:=p1.1 h1;rw[ax,zA];by_cases h2:e2=0
 case neg=>
  have:(!decide (e2=0))=true:=by simp[h2]
  rw[this,cond_true];exact⟨e2,rfl,by simp only[h2,false_iff];exact fun h=>h2 (p2.2 h.mv)⟩
 rw[h2];simp only[decide_true,Bool.not_true,cond_false];have mv:=p2.1 h2;rw[ay,zA];cases e3 with
 | false=>exact⟨11,rfl,by simp only[show ((11:Int)=0)=False by simp,false_iff];exact fun h=>by have:=p3.2 h.ca;cases this⟩
 | true=>
 have ca:=p3.1 rfl;simp only[Bool.not_true,cond_false];have l0:=k9 (body:=fun (x:Int)=>zB4 n x) n.Decomp.length (fun k=> ¬fiI n.Decomp (nth n.Decomp k).From true<(k:Int)) (fun y=>y≠0) (fun k z=>by
  simp only[zB4,yI z,cond_true,z1 z,zA,zZ2 hl,zK (k:=k) (by omega)];exact zAR (by simp) (by decide)) (fun k z=>by simp only[zB4,kB z,cond_false])
 rw[yAS mv.lt] at l0;rcases l0 with ⟨l0,ne⟩ | ⟨y,T,l0,ne⟩
 case inr=>rw[l0];exact⟨y,rfl,by simp only[T,false_iff];exact fun h=>ne h.ne⟩
 rw[l0];simp only[zA,Sum.elim_inl];have am:∀m:Mapping,(m.Tag== [])=decide (m.Tag= []):=fun m=>by cases m.Tag<;>rfl
 have l1:=k9 (body:=fun (x:Int)=>zB5 n x) n.Decomp.length (fun k=>(nth n.Decomp k).Tag= []→(nth n.Decomp k).To.length=1∨(nth n.Decomp k).To.length=2) (fun y=>y≠0) (fun k z=>by
  simp only[zB5,yI z,cond_true,z1 z,zA,zH,zK (k:=k) (by omega),am];by_cases ht:(nth n.Decomp k).Tag= []
  ·
   simp only[ht,decide_true,j6,zA,Bool.true_and,true_implies];by_cases h5:((nth n.Decomp k).To.length:Int)=1
   ·
    simp only[h5,decide_true,Bool.not_true,w8,zA,Bool.false_and,cond_false];exact .inl ⟨.inl (by omega),trivial⟩
   ·
    simp only[h5,decide_false,Bool.not_false,j6,zA,Bool.true_and];exact zAR (by simp only[Bool.not_eq_true',decide_eq_false_iff_not];omega) (by decide)
  ·
   simp only[ht,decide_false,w8,zA,Bool.false_and,cond_false,false_implies];exact .inl ⟨trivial,trivial⟩) (fun k z=>by simp only[zB5,kB z,cond_false])
 rw[zDB (p:=fun m:Mapping=>m.Tag= []→m.To.length=1∨m.To.length=2)] at l1;rcases l1 with ⟨l1,kd⟩ | ⟨y,T,l1,kd⟩
 case inr=>rw[l1];exact⟨y,rfl,by simp only[T,false_iff];exact fun h=>kd h.kd⟩
 rw[l1];simp only[zA,Sum.elim_inl];have l2:=k9 (body:=fun (x:Int)=>zB6 n x) n.Decomp.length (fun k=>hkE (nth n.Decomp k).From=0∧((nth n.Decomp k).Tag≠[]→clE n.Classes (nth n.Decomp k).From=0)) (fun y=>y≠0) (fun k z=>by
  simp only[zB6,yI z,cond_true,z1 z,zA,zH,yE2,zK (k:=k) (by omega),am];by_cases h5:hkE (nth n.Decomp k).From=0
  ·
   simp only[h5,decide_true,Bool.not_true,Bool.not_false,j6,zA,Bool.true_and,Bool.false_or,true_and];by_cases ht:(nth n.Decomp k).Tag= []
   ·
    simp only[ht,decide_true,Bool.not_true,w8,zA,Bool.false_and,cond_false];exact .inl ⟨fun h=>absurd rfl h,trivial⟩
   ·
    simp only[ht,decide_false,Bool.not_false,j6,zA,Bool.true_and,zIS (show n.Classes.length≤2000 by have:=Y.cl;omega) cv]
    exact zAR (by simp[ht]) (by decide)
  ·
   have:(!decide (hkE (nth n.Decomp k).From=0))=true:=by simp[h5]
   simp only[this,Bool.not_true,w8,zA,Bool.false_and,Bool.true_or,cond_true];exact .inr ⟨fun h=>h5 h.1,11,by decide,rfl⟩) (fun k z=>by simp only[zB6,kB z,cond_false])
 rw[zDB (p:=fun m:Mapping=>hkE m.From=0∧(m.Tag≠[]→clE n.Classes m.From=0))] at l2;rcases l2 with ⟨l2,z⟩ | ⟨y,T,l2,z⟩
 case inr=>rw[l2];exact⟨y,rfl,by simp only[T,false_iff];exact fun h=>z fun m G=>⟨h.hk m G,h.tc m G⟩⟩
 rw[l2];simp only[zA,Sum.elim_inl];have O:DS n.Decomp:=⟨fun k an=>by
  have a:=mv.lt k an;have b:=ne k an;unfold mlt at a;omega,fun m G=>(z m G).1,fun m G=>by have:=mv.sz m G;omega⟩
 have Z:=yEA O (by omega);rw[yI8 hl aa,zA];have l3:=k9 (body:=fun (x:Int)=>zB7 n (zIT (zOF n.Decomp) n.Decomp.length n.Decomp.length (List.replicate n.Decomp.length false)) x) n.Decomp.length (fun k=>nth (zIT (zOF n.Decomp) n.Decomp.length n.Decomp.length (List.replicate n.Decomp.length false)) k=true) (fun y=>y≠0) (fun k z=>by
  simp only[zB7,yI z,cond_true,z1 (show k<(zIT (zOF n.Decomp) n.Decomp.length n.Decomp.length (List.replicate n.Decomp.length false)).length by rw[zSR (by simp)];exact z),zA,zK (k:=k) (by omega)]
  exact zAR (by simp) (by decide)) (fun k z=>by simp only[zB7,kB z,cond_false])
 rw[yET O] at l3;rcases l3 with ⟨l3,H⟩ | ⟨y,T,l3,H⟩
 case inr=>rw[l3];exact⟨y,rfl,by simp only[T,false_iff];exact fun h=>H (Z.1 h.ms).1⟩
 rw[l3];simp only[zA,Sum.elim_inl];have hD:=zUM O H;rw[z7Y hl aa false,zA,z7Y hl aa true,zA];have l4:=k9 (body:=fun (x:Int)=>zB8 n (zIT (updL n.Decomp false) n.Decomp.length n.Decomp.length (List.replicate n.Decomp.length 0)) (zIT (updL n.Decomp true) n.Decomp.length n.Decomp.length (List.replicate n.Decomp.length 0)) x) n.Decomp.length (fun k=>wt n.Decomp true (nth n.Decomp k).From≤64) (fun y=>y≠0) (fun k z=>by
  have bj:wt n.Decomp false (nth n.Decomp k).From≤wt n.Decomp true (nth n.Decomp k).From:=z7E O _ _;simp only[zB8,yI z,cond_true,z1 (show k<(zIT (updL n.Decomp false) n.Decomp.length n.Decomp.length (List.replicate n.Decomp.length 0)).length by rw[zSR (by simp)];exact z),z1 (show k<(zIT (updL n.Decomp true) n.Decomp.length n.Decomp.length (List.replicate n.Decomp.length 0)).length by rw[zSR (by simp)];exact z),zA,zH,z7Q O hD (b:=false) k z,z7Q O hD (b:=true) k z,zK (k:=k) (by omega)]
  by_cases h6:64<wt n.Decomp false (nth n.Decomp k).From
  ·
   simp only[h6,decide_true,Bool.not_true,w8,zA,Bool.true_or,cond_true];exact .inr ⟨by omega,13,by decide,rfl⟩
  ·
   simp only[h6,decide_false,Bool.not_false,j6,zA,Bool.false_or];exact zAR (by simp) (by decide)) (fun k z=>by simp only[zB8,kB z,cond_false])
 rw[zDB (p:=fun m:Mapping=>wt n.Decomp true m.From≤64)] at l4;rcases l4 with ⟨l4,W⟩ | ⟨y,T,l4,W⟩
 ·
  rw[l4];exact⟨0,rfl,by simp only[true_iff];exact⟨cv,mv,ca,ne,kd,fun m G=>(z m G).1,fun m G=>(z m G).2,Z.2 ⟨H,W⟩⟩⟩
 · rw[l4];exact⟨y,rfl,by simp only[T,false_iff];exact fun h=>W (Z.1 h.ms).2⟩
theorem yE3 {n:Norm} (O:NSm n) (z:zC5 n):zF0 n=some (usN n):=by obtain⟨e,H,G⟩:=yMZ O z;unfold zF0 usN;rw[H,zA];by_cases k:e=0;rw[if_pos (G.1 k)];simp[k];rw[if_neg (fun h=>k (G.2 h))];simp[k]
section
variable {c:Collation} (hs:Sm c) {l:List Span} (hcv:CV l) (hl:l.length≤2000)
include hs
theorem z7Z (codes:List Int):zDO (yG c) codes=some (zCV (yG c).Entries codes):=z5M (z5L hs) (yH9 hs) rfl codes
theorem rM0 {text:List Int} (O:text.length≤2000):∀(d k:Nat),text.length-k=d→k≤text.length→zC (fun (x:Int×Int)=>xF text (yG c) x.1 x.2) (((zJH (pfx (yG c).Entries text) k:Nat):Int),((k+1:Nat):Int))=some ((uK (yG c).Entries text:Nat):Int):=by
 intro d
 induction d with
 | zero=>
  intro k z G;have:k=text.length:=by omega
  subst this;refine zF ?_;have e:decide (((text.length+1:Nat):Int)≤(text.length:Int))=false:=by simp;omega
  simp only[xF,e,cond_false];rfl
 | succ d H=>
  intro k z G;have e:decide (((k+1:Nat):Int)≤(text.length:Int))=true:=by simp;omega
  have hb:xF text (yG c) ((zJH (pfx (yG c).Entries text) k:Nat):Int) ((k+1:Nat):Int)=some (.next (((zJH (pfx (yG c).Entries text) (k+1):Nat):Int),((k+1+1:Nat):Int))):=by
   simp only[xF,e,cond_true,zHA (show k+1≤text.length by omega),zA,z7Z hs,zK (k:=k+1) (by omega)];have h:zJH (pfx (yG c).Entries text) (k+1)=if pfx (yG c).Entries text (k+1)=true then k+1 else zJH (pfx (yG c).Entries text) k:=rfl
   have:(zCV (yG c).Entries (text.take (k+1))).2=pfx (yG c).Entries text (k+1):=rfl;rw[this,h];cases pfx (yG c).Entries text (k+1)<;>rfl
  rw[zJ (body:=fun (x:Int×Int)=>xF text (yG c) x.1 x.2) hb];exact H (k+1) (by omega) (by omega)
include hcv hl
theorem rM1 {text:List Int}:∀(r p s:List Int) (h:Int) (k:Nat),text.drop k=r→k≤text.length→p.length+s.length+r.length≤2000→text.length≤2000→
  ∃(m:Nat) (q:List Int),zC (fun (x:(List Int)×Int×Int×(List Int))=>xZ text l (yG c) x.1 x.2.1 x.2.2.1 x.2.2.2) (p,h,(k:Int),s)=some ((zD1 (fun q=>(zCV (yG c).Entries q).2) (clE l) r p s h).1,(m:Int),q)∧m≤text.length∧q++text.drop m=(zD1 (fun q=>(zCV (yG c).Entries q).2) (clE l) r p s h).2
 | [],p,s,h,k,H,hk,_,_=>by
  have aa:text.length≤k:=by have:=congrArg List.length H;simp at this;omega
  refine⟨k,s,zF ?_,hk,?_⟩
  ·simp only[xZ,kB aa,zH,w8,zA,Bool.false_and,cond_false]
   rfl
  ·rw[H];simp[zD1]
 | x::r,p,s,h,k,H,hk,hn,ht=>by
  have z:k<text.length:=by have:=congrArg List.length H;simp at this;omega
  obtain⟨hx,O⟩:=List.cons_eq_cons.1 ((List.drop_eq_getElem_cons z).symm.trans H);simp only[List.length_cons] at hn;have hj:zF4 p x=some (p++ [x]):=by
   unfold zF4;rw[k7 (by simp;omega),zA,List.nil_append,k7 (by simp;omega)]
   rfl
  by_cases G:clE l x=0
  ·refine⟨k,s,zF ?_,hk,?_⟩
   ·simp only[xZ,yI z,zH,j6,zP z,zA,hx,zOE hl hcv,G,decide_true,Bool.not_true,Bool.and_false,cond_false]
    unfold zD1;rw[if_pos G]
   ·unfold zD1;rw[if_pos G,H]
  ·unfold zD1
   rw[if_neg G];cases hb:((zCV (yG c).Entries (p++ [x])).2&&decide (h<clE l x)) with
   | true=>
    rw[if_pos rfl];obtain⟨m,q,T,Y,Z⟩:=rM1 r (p++ [x]) s h (k+1) O (by omega) (by simp;omega) ht
    refine⟨m,q,?_,Y,Z⟩;rw[←T];refine zJ ?_;simp only[xZ,yI z,zH,j6,zP z,zA,hx,zOE hl hcv,G,decide_false,Bool.not_false,Bool.and_true,cond_true,zIS hl hcv,hj,z7Z hs,hb,zK (k:=k) (by omega)]
   | false=>
    rw[if_neg (by simp)];obtain⟨m,q,T,Y,Z⟩:=rM1 r p (s++ [x]) (max h (clE l x)) (k+1) O (by omega) (by simp;omega) ht
    refine⟨m,q,?_,Y,Z⟩;rw[←T];refine zJ ?_;simp only[xZ,yI z,zH,j6,zP z,zA,hx,zOE hl hcv,G,decide_false,Bool.not_false,Bool.and_true,cond_true,cond_false,zIS hl hcv,hj,z7Z hs,hb,k7 (show s.length+ [x].length≤4294967296 by simp;omega),zK (k:=k) (by omega)]
noncomputable def mtE (c:Collation) (l:List Span) (text:List Int):List Int×List Int:=zD1 (fun q=>(zCV (yG c).Entries q).2) (clE l) (text.drop (uK (yG c).Entries text)) (text.take (uK (yG c).Entries text)) [] 0
theorem z5T {text:List Int} (T:text.length≤2000) (Z:text≠[]):zEG l (yG c) text=some (if uK (yG c).Entries text=0 then (text.take 1,text.drop 1,false) else ((mtE c l text).1,(mtE c l text).2,true)):=by
 have h:0<text.length:=List.length_pos_iff.2 Z;unfold zEG;have h1:=rM0 hs T text.length 0 (by omega) (by omega);have H:zC (fun (x:Int×Int)=>xF text (yG c) x.1 x.2) (0,1)=some ((uK (yG c).Entries text:Nat):Int):=h1;rw[H,zA];by_cases O:uK (yG c).Entries text=0;have G:decide (((uK (yG c).Entries text:Nat):Int)=0)=true:=by simp[O]
 have s1:slc text 0 1=some (text.take 1):=zHA (b:=1) h;have s2:slc text 1 (text.length)=some (text.drop 1):=zPM (a:=1) h;rw[G,cond_true,s1,zA,s2,zA,if_pos O];have G:decide (((uK (yG c).Entries text:Nat):Int)=0)=false:=by simp;omega
 have z:uK (yG c).Entries text≤text.length:=zPT _ _;rw[G,cond_false,zHA z,zA,yL4 (by simp;omega),zA,if_neg O]
 obtain⟨m,q,r1,r2,Y⟩:=rM1 hs hcv hl (text:=text) (text.drop (uK (yG c).Entries text)) (text.take (uK (yG c).Entries text)) [] 0 (uK (yG c).Entries text) rfl z (by simp;omega) T
 have k:=zPU (fd:=fun q=>(zCV (yG c).Entries q).2) (cl:=clE l) (text.drop (uK (yG c).Entries text)) (text.take (uK (yG c).Entries text)) [] 0;have hq:q.length+(text.drop m).length≤4294967296:=by
  have:=congrArg List.length Y;rw[List.length_append] at this;have h2:=k.2.1;simp only[List.length_take,List.length_drop,List.length_nil] at h2;omega
 rw[r1,zA];simp only[zPM r2,zA,k7 hq,Y];rfl
end
end Go.M
namespace Go.M
open Go.AV
theorem z70 {l:List Mapping} (hl:l.length≤2000) {b:Bool} {lists:List (List Int)} (hn:lists.length=l.length) (hb:∀e,(zHC l b lists e).length≤64) {text:List Int} (ht:text.length≤2000):vS l lists text b=some (text.flatMap (zHC l b lists)):=by
 have key:∀(d k:Nat) (z:List Int),text.length-k=d→k≤text.length→z.length≤64*k→zC (fun (x:Int×(List Int))=>jB text l b lists x.1 x.2) ((k:Int),z)=some (z++(text.drop k).flatMap (zHC l b lists)):=by
  intro d
  induction d with
  | zero=>
   intro k z Z h2 h3;rw[List.drop_of_length_le (show text.length≤k by omega)];refine zF ?_;simp only[jB,kB (show text.length≤k by omega),cond_false,List.flatMap_nil,List.append_nil]
  | succ d ih=>
   intro k z Z h2 h3;have T:k<text.length:=by omega
   have ac:=hb text[k];have H:jB text l b lists (k:Int) z=some (.next (((k+1:Nat):Int),z++zHC l b lists text[k])):=by
    have G:app z (zHC l b lists text[k])=some (z++zHC l b lists text[k]):=k7 (by omega);simp only[jB,yI T,cond_true,zP T,zA,zZ2 hl,zK (k:=k) (by omega),yKU];unfold zHC at G ⊢;unfold fiI;cases O:fi l text[k] b with
    | none=>
     rw[O] at G;simp only[] at G;simp only[show decide ((0:Int)≤ -1)=false by decide,cond_false,G,zA]
    | some m=>
     rw[O] at G;simp only[] at G;obtain⟨h4,_,_⟩:=zJJ O;have e:decide (0≤((m:Nat):Int))=true:=by simp
     simp only[e,cond_true,z1 (show m<lists.length by omega),zA,G]
   rw[zJ (body:=fun (x:Int×(List Int))=>jB text l b lists x.1 x.2) (x:=((k:Int),z)) H,ih (k+1) _ (by omega) (by omega) (by rw[List.length_append];omega),List.drop_eq_getElem_cons T,List.flatMap_cons,List.append_assoc]
 unfold vS;have h:=key text.length 0 [] (by omega) (by omega) (by simp);rw[List.drop_zero,List.nil_append] at h;have Y:zC (fun (x:Int×(List Int))=>jB text l b lists x.1 x.2) (0,[])=some (text.flatMap (zHC l b lists)):=h;rw[Y];rfl
theorem yM0 {n:Norm} (h:GN n) (b:Bool):zG4 n.Decomp b=some (z3C n.Decomp b):=by
 have hl:n.Decomp.length≤2000:=by have:=h.de;omega
 have O:∀{z:List (List Int)},zV2 n.Decomp b z→∀e,(zHC n.Decomp b z e).length≤64:=fun G e=>Nat.le_trans (z7S h.ds h.dd G e) (h.len b e);unfold zG4;rw[zZC (by omega),zA];have Y:∀(z:List (List Int)),z.length=n.Decomp.length→zV2 n.Decomp b z→zC (fun (x:Int×(List (List Int)))=>zAI n.Decomp b x.1 x.2) (0,z)=some (zPW (zUP n.Decomp b) n.Decomp.length 0 z):=fun z H G=>
  zPX (upd:=zUP n.Decomp b) (n:=n.Decomp.length) (Inv:=zV2 n.Decomp b) (body:=fun (x:Int×(List (List Int)))=>zAI n.Decomp b x.1 x.2) (fun i z=>((i:Int),z)) id (fun i z hi H G=>by
   have T:=z70 hl (b:=b) H (O G) (text:=(nth n.Decomp i).To) (h.ds.len _ (wL hi));simp only[zAI,yI hi,cond_true,zH,z1 hi,z1 (show i<z.length by omega),zA,T,zEK (show i<z.length by omega),zK (k:=i) (by omega)];unfold zUP;cases b with
   | true=>simp[w8]
   | false=>
    simp only[Bool.not_false,j6,zA,Bool.false_or];cases ht:((nth n.Decomp i).Tag== []) with
    | true=>simp
    | false=>simp[yIW (show i<z.length by omega)]) (zQ7 h.ds h.dd) (fun z=>by simp only[zAI,kB (Nat.le_refl _),cond_false];rfl) n.Decomp.length 0 z (by omega) H G
 have Z:=zPY (upd:=zUP n.Decomp b) (n:=n.Decomp.length) (Inv:=zV2 n.Decomp b) (body:=fun (x:Int×(List (List Int)))=>zAJ n.Decomp b x.1 x.2) (fun i z=>((i:Int),z)) id (N:=n.Decomp.length) (fun r z T H G=>by
  simp only[zAJ,yI T,cond_true,Y z H G,zA,zK (k:=r) (by omega)]) (zQ7 h.ds h.dd) (fun z=>by simp only[zAJ,kB (Nat.le_refl _),cond_false];rfl) n.Decomp.length 0 (List.replicate n.Decomp.length []) (by omega) (by simp) yKS
 have h3:zC (fun (x:Int×(List (List Int)))=>zAJ n.Decomp b x.1 x.2) (0,List.replicate n.Decomp.length [])=some (z3C n.Decomp b):=Z;rw[h3];rfl
theorem yJA {n:Norm} (h:GN n) (b:Bool) {text:List Int} (z:text.length≤2000):zIH n text b=some (text.flatMap (fu n.Decomp b)):=by
 have k:n.Decomp.length≤2000:=by have:=h.de;omega
 unfold zIH;have e:∀c,zHC n.Decomp b (z3C n.Decomp b) c=fu n.Decomp b c:=yI4 h.ds h.dd;rw[yM0 h,zA,z70 (lists:=z3C n.Decomp b) k (zSR (by simp)) (fun c=>by rw[e];exact h.len b c) z,zA,show zHC n.Decomp b (z3C n.Decomp b)=fu n.Decomp b from funext e]
section
variable {l:List Span} (hcv:CV l) (hl:l.length≤2000)
include hcv hl
theorem sIn {text:List Int} {v:Nat} (O:v<text.length):∀(r s:List Int),r.length≤2000→zC (fun (q:Int×(List Int))=>uU (clE l text[v]) l text (v:Int) q.1 q.2) ((r.length:Int),r.reverse++text[v]::s)=some (vW (ltC (clE l)) r text[v] s)
 | [],s,_=>by
  refine zF ?_;simp[uU,zH,w8,zA,vW]
 | y::r,s,Y=>by
  simp only[List.length_cons] at Y;have G:decide ((0:Int)<((r.length+1:Nat):Int))=true:=by simp only[decide_eq_true_eq];omega
  have H:(y::r).reverse++text[v]::s=r.reverse++y::text[v]::s:=by simp
  have T:z7 (r.reverse++y::text[v]::s) (r.length:Int)=some y:=wH (by simp);have Z:z7 (r.reverse++y::text[v]::s) ((r.length+1:Nat):Int)=some text[v]:=by
   have:=wH (p:=r.reverse++ [y]) (s:=s) (x:=text[v]) (k:=r.length+1) (by simp);simpa using this
  have s1:uQ (r.reverse++y::text[v]::s) ((r.length+1:Nat):Int) y=some (r.reverse++y::y::s):=by
   have:=uP (p:=r.reverse++ [y]) (s:=s) (x:=text[v]) (y:=y) (k:=r.length+1) (by simp);simpa using this
  have i3:z7 (r.reverse++y::y::s) (r.length:Int)=some y:=wH (by simp);have s2:uQ (r.reverse++y::y::s) (r.length:Int) text[v]=some (r.reverse++text[v]::y::s):=uP (by simp);rw[H];show zC _ (((r.length+1:Nat):Int),_)=_;by_cases z:0<clE l text[v]
  ·by_cases h:clE l text[v]<clE l y
   ·rw[zJ (x':=((r.length:Int),r.reverse++text[v]::(y::s))) (by
     simp only[uU,zH,G,z,decide_true,Bool.and_self,zDA (k:=r.length) (by omega),j6,T,zA,zIS hl hcv,h,cond_true,Z,s1,zP O,i3,s2])]
    rw[sIn O r (y::s) (by omega)];have:ltC (clE l) text[v] y=true:=by unfold ltC;simp[z,h]
    simp[vW,this]
   ·refine zF ?_
    have:ltC (clE l) text[v] y=false:=by unfold ltC;simp[h]
    simp only[uU,zH,G,z,decide_true,Bool.and_self,zDA (k:=r.length) (by omega),j6,T,zA,zIS hl hcv,h,decide_false,Bool.and_false,cond_false,vW,this,Bool.false_eq_true,if_false,H]
  ·refine zF ?_
   have:ltC (clE l) text[v] y=false:=by unfold ltC;simp[z]
   simp only[uU,zH,G,z,decide_false,Bool.and_false,w8,zA,Bool.false_and,cond_false,vW,this,Bool.false_eq_true,if_false,H]
theorem yJB {text:List Int} (ht:text.length≤900):zF2 l text=some (csE (clE l) text):=by
 have key:∀(d k:Nat) (z:List Int),text.length-k=d→k≤text.length→z.length=k→zC (fun (x:Int×(List Int))=>vD text l x.1 x.2) ((k:Int),z)=some (uW (ltC (clE l)) (text.drop k) z):=by
  intro d
  induction d with
  | zero=>
   intro k z T Y Z;rw[List.drop_of_length_le (show text.length≤k by omega)];refine zF ?_;simp only[vD,kB (show text.length≤k by omega),cond_false];rfl
  | succ d ih=>
   intro k z T Y Z;have G:k<text.length:=by omega
   have hi:=sIn hcv hl G z.reverse [] (by simp;omega)
   rw[List.reverse_reverse,List.length_reverse] at hi;have hb:vD text l (k:Int) z=some (.next (((k+1:Nat):Int),vW (ltC (clE l)) z.reverse text[k] [])):=by
    have H:wi (((z++ [text[k]]).length:Int)-1)=(z.length:Int):=by
     have hL:((z++ [text[k]]).length:Int)=(z.length:Int)+1:=by simp
     rw[hL,kQ (by omega) (by omega)];omega
    simp only[vD,yI G,cond_true,zP G,zA,k7 (show z.length+ [text[k]].length≤4294967296 by simp;omega),zIS hl hcv,H,hi,zK (k:=k) (by omega)]
   rw[zJ (body:=fun (x:Int×(List Int))=>vD text l x.1 x.2) (x:=((k:Int),z)) hb,ih (k+1) _ (by omega) (by omega) (by rw[zUH];simp;omega),List.drop_eq_getElem_cons G]
   rfl
 unfold zF2;have h:=key text.length 0 [] (by omega) (by omega) rfl;rw[List.drop_zero] at h;have O:zC (fun (x:Int×(List Int))=>vD text l x.1 x.2) (0,[])=some (csE (clE l) text):=h;rw[O];rfl
end
theorem yE4 {n:Norm} (z:NSm n) (k:zC5 n) {text:List Int} {b:Bool} (O:text.length≤2000) (H:(zLH n b text).length≤900):zF3 n text b=some (zHX n b text):=by
 have h:=zZT z k;unfold zF3;rw[yE3 z k,zA,yJA h b O,zA];have e:=yJB h.cv (by have:=h.cl;omega) H
 have G:zF2 (usN n).Classes (text.flatMap (fu (usN n).Decomp b))=some (zHX n b text):=e;rw[G];rfl
section
variable {c:Collation} (hs:Sm c) (hg:∀g∈c.Groups,g.Name.length≤MX) {n:Norm} (hl:(xR n).length≤2000)
include hs hg hl
theorem yOY:∀(k:Nat) (text:List Int) (b:Bool) (z:List Element),text.length≤k→text.length≤2000→z.length+2000*text.length≤100000000→
  zC (fun (x:(List Int)×Bool×(List Element))=>vE (usN n) (yG c) c x.1 x.2.1 x.2.2) (text,b,z)=some (b&&(wk c (xR n) text).2,z++(wk c (xR n) text).1):=by
 intro k
 induction k with
 | zero=>
  intro text b z h _ _;have:text= []:=List.eq_nil_of_length_eq_zero (by omega);subst this;refine zF ?_;simp[vE,zQ5]
 | succ k ih=>
  intro text b z h ht ha;by_cases G:text= []
  ·subst G
   refine zF ?_;simp[vE,zQ5]
  ·have ac:0<text.length:=List.length_pos_iff.2 G
   have ag:=z27 (c:=c) (l:=xR n) G;have h2:=yEO hs (l:=xR n) text;have e0:decide ((0:Int)<(text.length:Int))=true:=by simp;omega
   have hm:=z5T hs (z24 n) hl ht G;rw[z28] at hm;have O:app z (stE c (xR n) text).2.2=some (z++(stE c (xR n) text).2.2):=k7 (by omega);have hb:vE (usN n) (yG c) c text b z=some (.next ((stE c (xR n) text).2.1,(b&&decide (uK (yG c).Entries text≠0)),z++(stE c (xR n) text).2.2)):=by
    unfold vE;rw[e0,cond_true,hm,zA,←z28];by_cases Y:uK (yG c).Entries text=0
    ·have H:stE c (xR n) text=(1,text.drop 1,zPQ (yG c) (nth text 0)):=by unfold stE;rw[if_pos Y]
     rw[H] at O ⊢;obtain⟨y,ys,rfl⟩:=List.exists_cons_of_ne_nil G;have i0:z7 ((y::ys).take 1) (0:Int)=some (nth (y::ys) 0):=rfl;simp only[] at O;simp only[Y,if_true,i0,zA,zMM hs hg,cond_false,O,zH];simp
    ·have H:stE c (xR n) text=(((mtE c (xR n) text).1.length:Int),(mtE c (xR n) text).2,(zCV (yG c).Entries (mtE c (xR n) text).1).1):=by unfold stE;rw[if_neg Y];rfl
     have T:=(yEN (c:=c) (l:=xR n) G).1;rw[H] at O T ⊢;have Z:0<(mtE c (xR n) text).1.length:=by simp only[] at T;omega
     have i0:z7 (mtE c (xR n) text).1 (0:Int)=some (nth (mtE c (xR n) text).1 0):=z1 (k:=0) Z;simp only[] at O;simp only[Y,if_false,i0,zA,zMM hs hg,cond_true,z7Z hs,O,zH];simp[Y]
   rw[zJ (body:=fun (x:(List Int)×Bool×(List Element))=>vE (usN n) (yG c) c x.1 x.2.1 x.2.2) (x:=(text,b,z)) hb,ih _ _ _ (by omega) (by omega) (by rw[List.length_append];omega),zZU G,List.append_assoc,Bool.and_assoc]
end
theorem zUR {n:Norm} {c:Collation} (k:NSm n) (h:zC5 n) (G:Sm c) (z:∀g∈c.Groups,g.Name.length≤MX) {text:List Int} (Y:text.length≤2000) (O:(zLH n false text).length≤900):zII n c text=some (wk c (xR n) (zHX n false text)):=by
 have T:(xR n).length≤2000:=by have:=zQ4 k;omega
 have H:(zHX n false text).length≤2000:=by rw[zPV];omega
 unfold zII;rw[yE3 k h,zA,zUG G z,zA,yE4 k h Y O,zA,yOY G z T _ _ true [] (Nat.le_refl _) H (by simp;omega)]
 simp
end Go.M
namespace Go.M
open Go.AV
def ckO (o:Options):Int:=if o.Strength<1∨4<o.Strength then 1 else if o.Variable<1∨3<o.Variable then 8 else 0
def uL (o:Options):Options:=if ckO o=0 then o else {Strength:=3,Variable:=1,Backward:=false,Identical:=false}
theorem yM1 (o:Options):zEE o=some (ckO o):=by
 unfold zEE ckO;rw[zH];by_cases h:o.Strength<1∨4<o.Strength;have:(decide (o.Strength<1) ||decide (4<o.Strength))=true:=by simpa using h
 rw[this,if_pos h];rfl;have:(decide (o.Strength<1) ||decide (4<o.Strength))=false:=by simpa using h
 rw[this,if_neg h,cond_false];by_cases k:o.Variable=1;simp[k];by_cases z:o.Variable=2;simp[z];by_cases G:o.Variable=3;simp[G];rw[if_pos (by omega)];simp[k,z,G]
theorem yE5 (o:Options):zG5 o=some (ckO o):=by
 unfold zG5 ckO;rw[zH,zH];by_cases h:o.Strength<1∨4<o.Strength;have:(decide (o.Strength<1) ||decide (4<o.Strength))=true:=by simpa using h
 rw[this,if_pos h];rfl;have:(decide (o.Strength<1) ||decide (4<o.Strength))=false:=by simpa using h
 rw[this,if_neg h,cond_false];by_cases k:o.Variable<1∨3<o.Variable;have:(decide (o.Variable<1) ||decide (3<o.Variable))=true:=by simpa using k
 rw[this,if_pos k];rfl;have:(decide (o.Variable<1) ||decide (3<o.Variable))=false:=by simpa using k
 rw[this,if_neg k];rfl
theorem yJC (o:Options):zA7 o=some (uL o):=by unfold zA7 uL;rw[yM1,zA];by_cases h:ckO o=0<;>simp[h]
theorem zXT (o:Options):zC2 o=some (uL o):=by unfold zC2 uL;rw[yE5,zA];by_cases h:ckO o=0<;>simp[h]
theorem zOG (o:Options):ckO (uL o)=0:=by unfold uL;split;assumption;rfl
theorem yOZ {o:Options} (h:ckO o=0):uL o=o:=by unfold uL;rw[if_pos h]
theorem yJD {o:Options} (h:ckO o=0):1≤o.Strength∧o.Strength≤4∧1≤o.Variable∧o.Variable≤3:=by unfold ckO at h;split at h;cases h;split at h;cases h;omega
def nz (x:Int):List Int:=if x=0 then [] else [x]
def col:Nat→A4Int→Int
 | 0,w=>w.x0
 | 1,w=>w.x1
 | 2,w=>w.x2
 | _,w=>w.x3
def row (k:Nat) (L:List A4Int):List Int:=L.flatMap fun w=>nz (col k w)
def zUS (f:Bool) (e:Element):Bool:=if e.Variable=true∨e.Primary≠0 then e.Variable else f
def zXU (e:Element):Prop:=e.Primary=0∧e.Secondary=0∧e.Tertiary=0
instance (e:Element):Decidable (zXU e):=by unfold zXU;infer_instance
def tr1 (v:Int) (f:Bool) (e:Element):A4Int:=
 if v=1 then {x0:=e.Primary,x1:=e.Secondary,x2:=e.Tertiary,x3:=if zXU e then 0 else 65535}
 else if zUS f e=true then {x0:=0,x1:=0,x2:=0,x3:=if v=3∧e.Variable=true then e.Primary else 0}
 else {x0:=e.Primary,x1:=e.Secondary,x2:=e.Tertiary,x3:=if v=3∧¬zXU e then 65535 else 0}
def trL (v:Int):Bool→List Element→List A4Int
 | _,[]=>[]
 | f,e::l=>tr1 v f e::trL v (zUS f e) l
theorem zSS (v:Int):∀(l:List Element) (f:Bool),(trL v f l).length=l.length
 | [],_=>rfl
 | e::l,f=>by simp[trL,zSS v l]
theorem yE6 {v:Int} (H:1≤v∧v≤3) (e:Element) (f:Bool):uN e v f=some (tr1 v f e,if v=1 then f else zUS f e):=by obtain⟨p,s,t,G⟩:=e;unfold uN tr1 zUS zXU;rcases (by omega:v=1∨v=2∨v=3) with rfl | rfl | rfl<;>cases G<;>cases f<;>by_cases h:p=0<;>by_cases k:s=0<;>by_cases z:t=0<;>simp[h,k,z]
theorem yO0 (f g:Bool) (e:Element):tr1 1 f e=tr1 1 g e:=rfl
theorem yKW:∀(l:List Element) (f g:Bool),trL 1 f l=trL 1 g l
 | [],_,_=>rfl
 | e::l,f,g=>by
  show tr1 1 f e::trL 1 _ l=tr1 1 g e::trL 1 _ l;rw[yO0 f g,yKW l (zUS f e) (zUS g e)]
theorem z5V (x:Int):(nz x).length≤1:=by unfold nz;split<;>simp
theorem zUT {r:List Int} {x:Int} (h:r.length+1≤4294967296):(cond (!decide (x=0)) ((app r [x]).bind fun q=>some q) (some r))=some (r++nz x):=by unfold nz;by_cases k:x=0;simp[k];simp only[k,decide_false,Bool.not_false,cond_true,if_false];rw[k7 (by simpa using h)];rfl
theorem wl1 (t:A4Int×Bool) {h k z G:List Int} {n:Nat} (hn:n+1≤4294967296) (Z:h.length≤n) (h1:k.length≤n) (h2:z.length≤n) (h3:G.length≤n):
  zC (fun (x:Int×(List Int)×(List Int)×(List Int)×(List Int))=>jL t x.1 x.2.1 x.2.2.1 x.2.2.2.1 x.2.2.2.2) (0,h,k,z,G)=some (h++nz t.1.x0,k++nz t.1.x1,z++nz t.1.x2,G++nz t.1.x3):=by
 have H:z7 [t.1.x0,t.1.x1,t.1.x2,t.1.x3] (0:Int)=some t.1.x0:=rfl;have O:z7 [t.1.x0,t.1.x1,t.1.x2,t.1.x3] (1:Int)=some t.1.x1:=rfl;have T:z7 [t.1.x0,t.1.x1,t.1.x2,t.1.x3] (2:Int)=some t.1.x2:=rfl;have Y:z7 [t.1.x0,t.1.x1,t.1.x2,t.1.x3] (3:Int)=some t.1.x3:=rfl;rw[zJ (x':=(1,h++nz t.1.x0,k,z,G)) (by
  simp only[jL,H,zA,zUT (x:=t.1.x0) (show h.length+1≤4294967296 by omega)];rfl)]
 rw[zJ (x':=(2,h++nz t.1.x0,k++nz t.1.x1,z,G)) (by
  simp only[jL,O,zA,zUT (x:=t.1.x1) (show k.length+1≤4294967296 by omega)];rfl)]
 rw[zJ (x':=(3,h++nz t.1.x0,k++nz t.1.x1,z++nz t.1.x2,G)) (by
  simp only[jL,T,zA,zUT (x:=t.1.x2) (show z.length+1≤4294967296 by omega)];rfl)]
 rw[zJ (x':=(4,h++nz t.1.x0,k++nz t.1.x1,z++nz t.1.x2,G++nz t.1.x3)) (by
  simp only[jL,Y,zA,zUT (x:=t.1.x3) (show G.length+1≤4294967296 by omega)];rfl)]
 exact zF (by simp only[jL];rfl)
theorem wl0 {l:List Element} {o:Options} (hv:1≤o.Variable∧o.Variable≤3) (hl:l.length≤4000000000):∀(m k:Nat) (f:Bool) (z G H O:List Int),k+m=l.length→z.length≤k→G.length≤k→H.length≤k→O.length≤k→
  zC (fun (x:Int×Bool×(List Int)×(List Int)×(List Int)×(List Int))=>wZ l o x.1 x.2.1 x.2.2.1 x.2.2.2.1 x.2.2.2.2.1 x.2.2.2.2.2) ((k:Int),f,z,G,H,O)=
   some (z++row 0 (trL o.Variable f (l.drop k)),G++row 1 (trL o.Variable f (l.drop k)),H++row 2 (trL o.Variable f (l.drop k)),O++row 3 (trL o.Variable f (l.drop k)))
 | 0,k,f,z,G,H,O,h,_,_,_,_=>by
  rw[List.drop_of_length_le (by omega)];refine zF ?_;simp only[wZ,kB (show l.length≤k by omega),cond_false,trL,row,List.flatMap_nil,List.append_nil]
 | m+1,k,f,z,G,H,O,h,Z,T,h2,h3=>by
  have Y:k<l.length:=by omega
  have q:∀{r:List Int} (x:Int),r.length≤k→(r++nz x).length≤k+1:=fun x hr=>by rw[List.length_append];have:=z5V x;omega
  rw[zJ (x':=(((k+1:Nat):Int),(if o.Variable=1 then f else zUS f l[k]),z++nz (tr1 o.Variable f l[k]).x0,G++nz (tr1 o.Variable f l[k]).x1,H++nz (tr1 o.Variable f l[k]).x2,O++nz (tr1 o.Variable f l[k]).x3)) (by
   simp only[wZ,yI Y,cond_true,zP Y,zA,yE6 hv,wl1 _ (n:=k) (by omega) Z T h2 h3,zK (k:=k) (by omega)])]
  rw[wl0 hv hl m (k+1) _ _ _ _ _ (by omega) (q _ Z) (q _ T) (q _ h2) (q _ h3),List.drop_eq_getElem_cons Y];have e:trL o.Variable (if o.Variable=1 then f else zUS f l[k]) (l.drop (k+1))=trL o.Variable (zUS f l[k]) (l.drop (k+1)):=by
   by_cases T:o.Variable=1
   ·rw[T];exact yKW _ _ _
   ·rw[if_neg T]
  rw[e];simp[trL,row,col]
theorem yE7:∀(n:Nat) (a m b:List Int),m.length=n→a.length=b.length→a.length+m.length+b.length≤9000000000000000000→
  zC (fun (x:Int×Int×(List Int))=>jK x.1 x.2.1 x.2.2) ((a.length:Int),((a.length+m.length:Nat):Int)-1,a++m++b)=some (a++m.reverse++b):=by
 intro n
 induction n using Nat.strongRecOn with
 | ind n ih=>
  intro a m b hn ab hb;by_cases z:m.length≤1
  ·have e:decide ((a.length:Int)<((a.length+m.length:Nat):Int)-1)=false:=by simp;omega
   refine zF ?_;have hr:m.reverse=m:=by
    match m,z with
    | [],_=>rfl
    | [x],_=>rfl
   simp only[jK,e,cond_false,hr]
  ·obtain⟨x,H,rfl⟩:=List.exists_cons_of_ne_nil (l:=m) (fun e=>by rw[e] at z;simp at z)
   have G:H≠[]:=fun e=>by rw[e] at z;simp at z
   obtain⟨h,y,rfl⟩:∃h y,H=h++ [y]:=⟨H.dropLast,H.getLast G,(List.dropLast_concat_getLast G).symm⟩;simp only[List.length_cons,List.length_append,List.length_nil] at hn hb z;have e:decide ((a.length:Int)<((a.length+(x::(h++ [y])).length:Nat):Int)-1)=true:=by simp;omega
   have T:((a.length+(x::(h++ [y])).length:Nat):Int)-1=((a.length+1+h.length:Nat):Int):=by simp;omega
   have Y:z7 (a++(x::(h++ [y]))++b) (((a.length+1+h.length:Nat):Int))=some y:=by
    rw[zP (by simp;omega)];congr 1;rw[List.getElem_append_left (by simp;omega),List.getElem_append_right (by omega)]
    simp only[show a.length+1+h.length-a.length=h.length+1 by omega,List.getElem_cons_succ];rw[List.getElem_append_right (by omega)];simp
   have Z:z7 (a++(x::(h++ [y]))++b) ((a.length:Nat):Int)=some x:=by
    rw[zP (by simp)];congr 1;rw[List.getElem_append_left (by simp),List.getElem_append_right (by omega)];simp
   have s1:uQ (a++(x::(h++ [y]))++b) ((a.length:Nat):Int) y=some (a++(y::(h++ [y]))++b):=by
    rw[zEK (by simp)];congr 1;simp
   have g3:z7 (a++(y::(h++ [y]))++b) (((a.length+1+h.length:Nat):Int))=some y:=by
    rw[zP (by simp;omega)];congr 1;rw[List.getElem_append_left (by simp;omega),List.getElem_append_right (by omega)]
    simp only[show a.length+1+h.length-a.length=h.length+1 by omega,List.getElem_cons_succ];rw[List.getElem_append_right (by omega)];simp
   have s2:uQ (a++(y::(h++ [y]))++b) (((a.length+1+h.length:Nat):Int)) x=some ((a++ [y])++h++(x::b)):=by
    rw[zEK (by simp;omega)];congr 1;have O:a++(y::(h++ [y]))++b=(a++y::h)++y::b:=by simp
    rw[O,show a.length+1+h.length=(a++y::h).length by simp;omega,List.set_append_right _ _ (Nat.le_refl _)]
    simp
   rw[zJ (x':=(((a++ [y]).length:Int),(((a++ [y]).length+h.length:Nat):Int)-1,(a++ [y])++h++(x::b))) (by
    simp only[jK,e,cond_true];rw[T];simp only[Y,Z,s1,g3,s2,zA];rw[zK (k:=a.length) (by omega),kQ (by omega) (by omega)];simp only[List.length_append,List.length_cons,List.length_nil])]
   rw[ih h.length (by omega) (a++ [y]) h (x::b) rfl (by simp;omega) (by simp;omega)]
   simp
theorem yM2 {l:List Int} (h:l.length≤4294967296):xD l=some l.reverse:=by
 unfold xD;have:=yE7 l.length [] l [] rfl rfl (by simp;omega)
 simp only[List.nil_append,List.append_nil,List.length_nil,Nat.zero_add] at this;rw[kQ (by omega) (by omega)];rw[show ((0:Nat):Int)=0 from rfl] at this;rw[this];rfl
def yAT (b:Bool) (l:List Int):List Int:=if b=true then l.reverse else l
def rows (b:Bool) (L:List A4Int):List (List Int):=[row 0 L,yAT b (row 1 L),row 2 L,row 3 L]
def wts (l:List Element) (o:Options):List (List Int):=(rows o.Backward (trL o.Variable false l)).take o.Strength.toNat
theorem zZ3 (k:Nat):∀(L:List A4Int),(row k L).length≤L.length
 | []=>by simp[row]
 | w::L=>by
  have:=zZ3 k L;have h:=z5V (col k w);simp only[row,List.flatMap_cons,List.length_append,List.length_cons] at this ⊢;omega
theorem z5W {l:List Element} (H:l.length≤4000000000) (o:Options):zCT l o=some (wts l (uL o)):=by
 have hb:=yJD (zOG o);unfold zCT wts;have G:({Strength:=o.Strength,Variable:=o.Variable,Backward:=o.Backward,Identical:=o.Identical}:Options)=o:=rfl;rw[G,yJC,zA];generalize uL o=q at*;have k:=wl0 (l:=l) (o:=q) hb.2.2 H l.length 0 false [] [] [] [] (by omega) (by simp) (by simp) (by simp) (by simp);simp only[List.drop_zero,List.nil_append] at k;rw[show ((0:Nat):Int)=0 from rfl] at k;unfold zC7;rw[zA,k,zA];have O:(cond q.Backward ((xD (row 1 (trL q.Variable false l))).bind fun z=>some z) (some (row 1 (trL q.Variable false l))))=some (yAT q.Backward (row 1 (trL q.Variable false l))):=by
  cases q.Backward with
  | false=>rfl
  | true=>
   have:=zZ3 1 (trL q.Variable false l);rw[zSS] at this;rw[cond_true,yM2 (by omega)];rfl
 simp only[O,zA];have T:q.Strength=((q.Strength.toNat:Nat):Int):=by omega
 have h:slc [row 0 (trL q.Variable false l),yAT q.Backward (row 1 (trL q.Variable false l)),row 2 (trL q.Variable false l),row 3 (trL q.Variable false l)] 0 q.Strength=some ((rows q.Backward (trL q.Variable false l)).take q.Strength.toNat):=by
  rw[T,zHA (by simp;omega)];rfl
 rw[h,zA,k7 (by simp[rows];omega)]
 rfl
end Go.M
namespace Go.M
open Go.AV
theorem yE8 {l:List Element} {v:Int} (hv:1≤v∧v≤3) (O:l.length≤4000000000):∀(m k:Nat) (f:Bool) (z:List A4Int),k+m=l.length→z.length≤k→
  zC (fun (x:Bool×Int×(List A4Int))=>u7 l v x.1 x.2.1 x.2.2) (f,(k:Int),z)=some (z++trL v f (l.drop k))
 | 0,k,f,z,h,_=>by
  rw[List.drop_of_length_le (by omega)];refine zF ?_;simp only[u7,kB (show l.length≤k by omega),cond_false,trL,List.append_nil]
 | m+1,k,f,z,h,ha=>by
  have G:k<l.length:=by omega
  rw[zJ (x':=(zUS f l[k],((k+1:Nat):Int),z++ [tr1 v f l[k]])) (by
   simp only[u7,yI G,cond_true,zP G,zA,zH,zK (k:=k) (by omega)];generalize l[k]=e;have H:∀w:A4Int,app z [w]=some (z++ [w]):=fun w=>k7 (by simp;omega)
   obtain⟨p,s,t,va⟩:=e;unfold tr1 zUS zXU;rcases (by omega:v=1∨v=2∨v=3) with rfl | rfl | rfl<;>cases va<;>cases f<;>by_cases T:p=0<;>by_cases Y:s=0<;>by_cases Z:t=0<;>simp[T,Y,Z,H])]
  rw[yE8 hv O m (k+1) _ _ (by omega) (by simp;omega),List.drop_eq_getElem_cons G]
  simp[trL]
theorem z5X {l:List Element} {v:Int} (k:1≤v∧v≤3) (h:l.length≤4000000000):zEH l v=some (trL v false l):=by unfold zEH;have:=yE8 k h l.length 0 false [] (by omega) (by simp);rw[show ((0:Nat):Int)=0 from rfl] at this;rw[this];simp
theorem yQQ (w:A4Int) {k:Nat} (h:k<4):z7 [w.x0,w.x1,w.x2,w.x3] (k:Int)=some (col k w):=by
 match k,h with
 | 0,_=>rfl
 | 1,_=>rfl
 | 2,_=>rfl
 | 3,_=>rfl
def zK4 (b:Bool) (k:Nat) (L:List A4Int):List A4Int:=if k=1∧b=true then L.reverse else L
theorem z3F (b:Bool) (k:Nat) (L:List A4Int):(zK4 b k L).length=L.length:=by unfold zK4;split;exact List.length_reverse;rfl
theorem rw1 {L:List A4Int} {o:Options} {q:Nat} (Z:q<4) (hl:L.length≤4000000000):∀(m k:Nat) (z:List Int),k+m=L.length→z.length≤k→
  zC (fun (x:Int×(List Int))=>u9 L (q:Int) o x.1 x.2) ((k:Int),z)=some (z++row q ((zK4 o.Backward q L).drop k))
 | 0,k,z,h,_=>by
  rw[List.drop_of_length_le (by rw[z3F];omega)]
  refine zF ?_;simp only[u9,kB (show L.length≤k by omega),cond_false,row,List.flatMap_nil,List.append_nil]
 | m+1,k,z,h,ha=>by
  have H:k<L.length:=by omega
  have O:k<(zK4 o.Backward q L).length:=by rw[z3F];exact H
  have hi:∃j:Nat,j<L.length∧cond (decide ((q:Int)=1)&&o.Backward) (some (wi ((wi ((L.length:Int)-1))-(k:Int)))) (some (k:Int))=some (j:Int)∧L[j]? =some (zK4 o.Backward q L)[k]:=by
   unfold zK4;by_cases G:q=1∧o.Backward=true
   ·have e:(decide ((q:Int)=1)&&o.Backward)=true:=by simp[G.1,G.2]
    refine⟨L.length-1-k,by omega,?_,?_⟩
    ·rw[e,cond_true,kQ (n:=(L.length:Int)-1) (by omega) (by omega),kQ (by omega) (by omega)]
     congr 1;omega
    ·simp only[G,and_self,if_true]
     rw[List.getElem_reverse,List.getElem?_eq_getElem (by omega)]
   ·have e:(decide ((q:Int)=1)&&o.Backward)=false:=by
     cases hb:o.Backward with
     | false=>simp
     | true=>
      have:q≠1:=fun e=>G ⟨e,hb⟩;simp;omega
    refine⟨k,H,by rw[e,cond_false],?_⟩;simp only[G,if_false];rw[List.getElem?_eq_getElem H]
  obtain⟨j,Y,e1,T⟩:=hi;rw[List.getElem?_eq_getElem Y] at T;have e3:z7 L (j:Int)=some (zK4 o.Backward q L)[k]:=by rw[zP Y];exact T
  rw[zJ (x':=(((k+1:Nat):Int),z++nz (col q (zK4 o.Backward q L)[k]))) (by
   simp only[u9,yI H,cond_true,zH,e1,zA,e3,yQQ _ Z,zUT (x:=col q (zK4 o.Backward q L)[k]) (show z.length+1≤4294967296 by omega),zK (k:=k) (by omega)])]
  rw[rw1 Z hl m (k+1) _ (by omega) (by rw[List.length_append];have:=z5V (col q (zK4 o.Backward q L)[k]);omega),List.drop_eq_getElem_cons O]
  simp only[row,List.flatMap_cons,List.append_assoc]
theorem yM3 (x:Int):(nz x).reverse=nz x:=by unfold nz;split<;>rfl
theorem z71 (k:Nat):∀(L:List A4Int),row k L.reverse=(row k L).reverse
 | []=>rfl
 | w::L=>by
  have:=z71 k L;simp only[row] at this ⊢;simp[this,yM3]
theorem yE9 (b:Bool) (L:List A4Int) {q:Nat} (h:q<4):(rows b L)[q]? =some (row q (zK4 b q L)):=by
 match q,h with
 | 0,_=>simp[rows,zK4]
 | 1,_=>cases b<;>simp[rows,zK4,yAT,z71]
 | 2,_=>simp[rows,zK4]
 | 3,_=>simp[rows,zK4]
theorem rw0 {L:List A4Int} {o:Options} (hs:1≤o.Strength∧o.Strength≤4) (T:L.length≤4000000000):∀(m k:Nat) (z:List (List Int)),k+m=o.Strength.toNat→z.length=k→
  zC (fun (x:Int×(List (List Int)))=>zAA o L x.1 x.2) ((k:Int),z)=some (z++((rows o.Backward L).take o.Strength.toNat).drop k)
 | 0,k,z,h,_=>by
  rw[List.drop_of_length_le (by simp[rows];omega)]
  have e:decide ((k:Int)<o.Strength)=false:=by simp;omega
  refine zF ?_;simp only[zAA,e,cond_false,List.append_nil]
 | m+1,k,z,h,ha=>by
  have e:decide ((k:Int)<o.Strength)=true:=by simp;omega
  have G:k<4:=by omega
  have Y:=rw1 (o:=o) G T L.length 0 [] (by omega) (by simp);rw[show ((0:Nat):Int)=0 from rfl,List.drop_zero,List.nil_append] at Y;rw[zJ (x':=(((k+1:Nat):Int),z++ [row k (zK4 o.Backward k L)])) (by
   simp only[zAA,e,cond_true,Y,zA,k7 (show z.length+ [row k (zK4 o.Backward k L)].length≤4294967296 by simp;omega),zK (k:=k) (by omega)])]
  rw[rw0 hs T m (k+1) _ (by omega) (by simp;omega)]
  have H:k<((rows o.Backward L).take o.Strength.toNat).length:=by simp[rows];omega
  rw[List.drop_eq_getElem_cons H,List.append_assoc];have Z:=yE9 o.Backward L G;have:((rows o.Backward L).take o.Strength.toNat)[k]=row k (zK4 o.Backward k L):=by
   have O:((rows o.Backward L).take o.Strength.toNat)[k]? =some (row k (zK4 o.Backward k L)):=by rw[List.getElem?_take,if_pos (by omega)];exact Z
   rw[List.getElem?_eq_getElem H] at O;exact Option.some.inj O
  rw[this];rfl
theorem zNW {l:List Element} (h:l.length≤4000000000) (o:Options):zC3 l o=some (wts l (uL o)):=by
 have hb:=yJD (zOG o);unfold zC3 wts;have k:({Strength:=o.Strength,Variable:=o.Variable,Backward:=o.Backward,Identical:=o.Identical}:Options)=o:=rfl;rw[k,zXT,zA];generalize uL o=q at*;rw[z5X hb.2.2 h,zA];have:=rw0 (o:=q) ⟨hb.1,hb.2.1⟩ (L:=trL q.Variable false l) (by rw[zSS];exact h) q.Strength.toNat 0 [] (by omega) rfl
 rw[show ((0:Nat):Int)=0 from rfl] at this;rw[this];simp
theorem zUU {l:List Element} {o:Options} {x:List Int} (h:x∈wts l o):x.length≤l.length:=by
 unfold wts at h;have h:=List.mem_of_mem_take h;have key:∀k,(row k (trL o.Variable false l)).length≤l.length:=fun k=>by have:=zZ3 k (trL o.Variable false l);rwa [zSS] at this
 simp only[rows,List.mem_cons,List.not_mem_nil,or_false] at h;rcases h with rfl | rfl | rfl | rfl
 exact key 0;unfold yAT;split;rw[List.length_reverse];exact key 1;exact key 1;exact key 2;exact key 3
theorem zZ4 {l:List Element} {o:Options} (h:ckO o=0):(wts l o).length=o.Strength.toNat:=by have:=yJD h;unfold wts;simp[rows];omega
end Go.M
namespace Go.M
open Go.AV
def jn:Nat→List Int→List (List Int)→List Int
 | _,h,[]=>h
 | k,h,x::xs=>jn (k+1) ((if 0<k then h++ [0] else h)++x) xs
theorem z5Y {N:Nat}:∀(l:List (List Int)) (k:Nat) (z:List Int),(∀x∈l,x.length≤N)→(jn k z l).length≤z.length+l.length*(N+1)
 | [],_,z,_=>by simp[jn]
 | x::xs,k,z,h=>by
  have H:=h x (by simp);have O:=z5Y xs (k+1) ((if 0<k then z++ [0] else z)++x) (fun y G=>h y (by simp[G]));have T:((if 0<k then z++ [0] else z)++x).length≤z.length+1+N:=by
   split<;>simp<;>omega
  simp only[jn,List.length_cons,Nat.add_mul];omega
theorem yO1 {z:List Int} {k:Nat} (h:z.length+1≤4294967296):(cond (decide ((0:Int)<(k:Int))) ((app z [0]).bind fun q=>some q) (some z))=some (if 0<k then z++ [0] else z):=by
 by_cases G:0<k;have e:decide ((0:Int)<(k:Int))=true:=by simp;omega
 rw[e,cond_true,k7 (by simpa using h),if_pos G];rfl;have e:decide ((0:Int)<(k:Int))=false:=by simp;omega
 rw[e,cond_false,if_neg G]
section
variable {l:List (List Int)} {N:Nat} (hN:∀x∈l,x.length≤N) (hl:l.length≤1000000)
include hN hl
theorem yFA:∀(m k:Nat) (z:List Int),k+m=l.length→z.length+m*(N+1)≤4294967296→zC (fun (x:Int×(List Int))=>zC4 l x.1 x.2) ((k:Int),z)=some (jn k z (l.drop k))
 | 0,k,z,h,_=>by
  rw[List.drop_of_length_le (by omega)];refine zF ?_;simp only[zC4,kB (show l.length≤k by omega),cond_false,jn]
 | m+1,k,z,h,H=>by
  have G:k<l.length:=by omega
  have T:=hN _ (List.getElem_mem G);rw[Nat.add_mul] at H;have O:(if 0<k then z++ [0] else z).length≤z.length+1:=by split<;>simp
  rw[zJ (x':=(((k+1:Nat):Int),(if 0<k then z++ [0] else z)++l[k])) (by
   simp only[zC4,yI G,cond_true,zP G,zA,yO1 (k:=k) (show z.length+1≤4294967296 by omega),k7 (show (if 0<k then z++ [0] else z).length+l[k].length≤4294967296 by omega),zK (k:=k) (by omega)])]
  rw[yFA m (k+1) _ (by omega) (by rw[List.length_append];omega),List.drop_eq_getElem_cons G]
  rfl
end
def idn (t:List Int):List Int:=t.flatMap fun c=>if 0≤c∧c≤1114111 then [c+1] else []
theorem yM4 (c:Int) {k:List Int} (h:k.length+1≤4294967296):(cond (decide (0≤c)&&decide (c≤1114111)) ((app k [wi (c+1)]).bind fun q=>some q) (some k))=some (k++if 0≤c∧c≤1114111 then [c+1] else []):=by
 by_cases z:0≤c∧c≤1114111
 ·have e:(decide (0≤c)&&decide (c≤1114111))=true:=by simpa using z
  rw[e,cond_true,k7 (by simpa using h),if_pos z,kQ (by omega) (by omega)];rfl
 ·have e:(decide (0≤c)&&decide (c≤1114111))=false:=by
   cases h:(decide (0≤c)&&decide (c≤1114111)) with
   | false=>rfl
   | true=>exact absurd (by simpa using h) z
  rw[e,cond_false,if_neg z,List.append_nil]
theorem yJE (c:Int):(if 0≤c∧c≤1114111 then [c+1] else ([]:List Int)).length≤1:=by split<;>simp
def yFB (o:Options) (h:List Element) (t:List Int):List Int:=jn 0 [] (wts h o)++if o.Identical=true then [0]++idn t else []
theorem zP0 (l:List Element) (o:Options):(wts l o).length≤4:=by unfold wts;simp[rows];omega
theorem yJF (o:Options):uL (uL o)=uL o:=yOZ (zOG o)
end Go.M
namespace Go.M
open Go.AV
end Go.M
namespace Go.M
open Go.AV
theorem s22 {n:Norm} (Z:n.Decomp.length≤40):∀(m k:Nat),k+m=n.Decomp.length→∃y,zC (fun (x:Int)=>vJ n x) (k:Int)=some y∧(y= .inr false∨(y= .inl ()∧∀x∈n.Decomp.drop k,x.To.length≤70∧x.Tag.length≤40))
 | 0,k,h=>⟨.inl (),zF (by simp only[vJ,kB (show n.Decomp.length≤k by omega),cond_false]),.inr ⟨rfl,by rw[List.drop_of_length_le (by omega)];intro x H;cases H⟩⟩
 | m+1,k,h=>by
  have z:k<n.Decomp.length:=by omega
  by_cases h1:70<n.Decomp[k].To.length;have e:decide ((70:Int)<(n.Decomp[k].To.length:Int))=true:=by simp;omega
  exact⟨.inr false,zF (by simp only[vJ,yI z,cond_true,zP z,zA,zH,e,Bool.not_true,w8,Bool.true_or]),.inl rfl⟩;have e:decide ((70:Int)<(n.Decomp[k].To.length:Int))=false:=by simp;omega
  by_cases h2:40<n.Decomp[k].Tag.length;have O:decide ((40:Int)<(n.Decomp[k].Tag.length:Int))=true:=by simp;omega
  exact⟨.inr false,zF (by simp only[vJ,yI z,cond_true,zP z,zA,zH,e,Bool.not_false,j6,O,Bool.or_true]),.inl rfl⟩;have O:decide ((40:Int)<(n.Decomp[k].Tag.length:Int))=false:=by simp;omega
  obtain⟨y,T,G⟩:=s22 Z m (k+1) (by omega);refine⟨y,?_,?_⟩;rw[zJ (x':=((k+1:Nat):Int)) (by simp only[vJ,yI z,cond_true,zP z,zA,zH,e,Bool.not_false,j6,O,Bool.or_self,cond_false,zK (k:=k) (by omega)])];exact T;rcases G with G | ⟨G,Y⟩;exact .inl G;refine .inr ⟨G,?_⟩;rw[List.drop_eq_getElem_cons z];intro x H;rcases List.mem_cons.1 H with rfl | H;exact⟨by omega,by omega⟩;exact Y x H
theorem yJG (n:Norm):∃b,zGU n=some b∧(b=true→NSm n):=by
 unfold zGU;by_cases h:40<n.Classes.length∨40<n.Decomp.length∨12<n.Excluded.Ranges.length;have e:((decide ((40:Int)<(n.Classes.length:Int)) ||decide ((40:Int)<(n.Decomp.length:Int))) ||decide ((12:Int)<(n.Excluded.Ranges.length:Int)))=true:=by simp;omega
 simp only[zH,e,cond_true];exact⟨false,rfl,fun h=>by cases h⟩;have e:((decide ((40:Int)<(n.Classes.length:Int)) ||decide ((40:Int)<(n.Decomp.length:Int))) ||decide ((12:Int)<(n.Excluded.Ranges.length:Int)))=false:=by simp;omega
 obtain⟨y,G,H⟩:=s22 (n:=n) (by omega) n.Decomp.length 0 (by omega);rw[show ((0:Nat):Int)=0 from rfl] at G;simp only[zH,e,cond_false,G,zA];rcases H with rfl | ⟨rfl,k⟩;exact⟨false,rfl,fun h=>by cases h⟩;rw[List.drop_zero] at k;exact⟨true,rfl,fun _=>⟨by omega,by omega,fun m z=>(k m z).1,fun m z=>(k m z).2,by omega⟩⟩
theorem f42 {c:Collation} (hl:c.Entries.length≤12):∀(m k:Nat),k+m=c.Entries.length→∃y,zC (fun (x:Int)=>zA4 c x) (k:Int)=some y∧(y= .inr false∨(y= .inl ()∧∀x∈c.Entries.drop k,x.Codes.length≤16∧x.Elements.length≤16))
 | 0,k,h=>⟨.inl (),zF (by simp only[zA4,kB (show c.Entries.length≤k by omega),cond_false]),.inr ⟨rfl,by rw[List.drop_of_length_le (by omega)];intro x H;cases H⟩⟩
 | m+1,k,h=>by
  have z:k<c.Entries.length:=by omega
  by_cases h1:16<c.Entries[k].Codes.length;have e:decide ((16:Int)<(c.Entries[k].Codes.length:Int))=true:=by simp;omega
  exact⟨.inr false,zF (by simp only[zA4,yI z,cond_true,zP z,zA,zH,e,Bool.not_true,w8,Bool.true_or]),.inl rfl⟩;have e:decide ((16:Int)<(c.Entries[k].Codes.length:Int))=false:=by simp;omega
  by_cases T:c.Entries[k].Elements.length≤16;have O:decide ((c.Entries[k].Elements.length:Int)≤16)=true:=by simp;omega
  obtain⟨y,Y,G⟩:=f42 hl m (k+1) (by omega);refine⟨y,?_,?_⟩;rw[zJ (x':=((k+1:Nat):Int)) (by simp only[zA4,uM,yI z,cond_true,zP z,zA,zH,e,Bool.not_false,j6,O,Bool.not_true,Bool.or_self,cond_false,zK (k:=k) (by omega)])];exact Y;rcases G with G | ⟨G,Z⟩;exact .inl G;refine .inr ⟨G,?_⟩;rw[List.drop_eq_getElem_cons z];intro x H;rcases List.mem_cons.1 H with rfl | H;exact⟨by omega,T⟩;exact Z x H;have O:decide ((c.Entries[k].Elements.length:Int)≤16)=false:=by simp;omega
  exact⟨.inr false,zF (by simp only[zA4,uM,yI z,cond_true,zP z,zA,zH,e,Bool.not_false,j6,O,Bool.or_true]),.inl rfl⟩
theorem yO2 {c:Collation} (O:c.Groups.length≤8):∀(m k:Nat),k+m=c.Groups.length→∃y,zC (fun (x:Int)=>zCH c x) (k:Int)=some y
 | 0,k,h=>⟨.inl (),zF (by simp only[zCH,kB (show c.Groups.length≤k by omega),cond_false])⟩
 | m+1,k,h=>by
  have z:k<c.Groups.length:=by omega
  by_cases G:(40:Int)<(c.Groups[k].Name.length:Int);exact⟨.inr false,zF (by simp only[zCH,yI z,cond_true,zP z,zA,G,decide_true])⟩;obtain⟨y,H⟩:=yO2 O m (k+1) (by omega);refine⟨y,?_⟩;rw[zJ (x':=((k+1:Nat):Int)) (by simp only[zCH,yI z,cond_true,zP z,zA,G,decide_false,cond_false,zK (k:=k) (by omega)])];exact H
theorem yO3 (c:Collation):∃b,zJX c=some b∧(b=true→Sm c):=by
 unfold zJX;by_cases h:12<c.Entries.length∨8<c.Groups.length;have e:(decide ((12:Int)<(c.Entries.length:Int)) ||decide ((8:Int)<(c.Groups.length:Int)))=true:=by simp;omega
 simp only[zH,e,cond_true];exact⟨false,rfl,fun h=>by cases h⟩;have e:(decide ((12:Int)<(c.Entries.length:Int)) ||decide ((8:Int)<(c.Groups.length:Int)))=false:=by simp;omega
 obtain⟨y,H,Y⟩:=f42 (c:=c) (by omega) c.Entries.length 0 (by omega);obtain⟨z,O⟩:=yO2 (c:=c) (by omega) c.Groups.length 0 (by omega);rw[show ((0:Nat):Int)=0 from rfl] at H O;simp only[zH,e,cond_false,H,zA];rcases Y with rfl | ⟨rfl,k⟩;exact⟨false,rfl,fun h=>by cases h⟩;rw[List.drop_zero] at k;have T:Sm c:=⟨by omega,by omega,fun x G=>(k x G).1,fun x G=>by have:=(k x G).2;omega⟩
 rw[Sum.elim_inl,O,zA];cases z with
 | inl z=>exact⟨true,rfl,fun _=>T⟩
 | inr z=>exact⟨z,rfl,fun _=>T⟩
theorem yJH (d:Unicodetextlaw44_Data):∃b,zGV d=some b∧(b=true→NSm d.Norm∧Sm d.Collation):=by
 obtain⟨b,hb,z⟩:=yJG d.Norm;obtain⟨c,k,pc⟩:=yO3 d.Collation;unfold zGV;rw[hb,zA,zH,k];cases b with
 | false=>exact⟨false,rfl,fun h=>by cases h⟩
 | true=>exact⟨c,by simp only[j6,zA,Bool.true_and],fun h=>⟨z rfl,pc h⟩⟩
end Go.M
namespace Go.M
open Go.AV
theorem rk1 {t:List Int} (H:t.length≤1000000):∀(m k:Nat) (z:List Int),k+m=t.length→z.length+m≤4294967296→zC (fun (x:Int×(List Int))=>zDX t x.1 x.2) ((k:Int),z)=some (z++idn (t.drop k))
 | 0,k,z,h,_=>by
  rw[List.drop_of_length_le (by omega)];refine zF ?_;simp only[zDX,kB (show t.length≤k by omega),cond_false,idn,List.flatMap_nil,List.append_nil]
 | m+1,k,z,h,T=>by
  have G:k<t.length:=by omega
  have O:=yJE t[k];rw[zJ (x':=(((k+1:Nat):Int),z++if 0≤t[k]∧t[k]≤1114111 then [t[k]+1] else [])) (by
   simp only[zDX,xY,yI G,cond_true,zP G,zA,zH,yM4 t[k] (show z.length+1≤4294967296 by omega),zK (k:=k) (by omega)])]
  rw[rk1 H m (k+1) _ (by omega) (by rw[List.length_append];omega),List.drop_eq_getElem_cons G]
  simp only[idn,List.flatMap_cons,List.append_assoc]
section
variable {n:Norm} {c:Collation} (hn:NSm n) (hok:zC5 n) (hs:Sm c) (hg:∀g∈c.Groups,g.Name.length≤MX) {text:List Int} (ht:text.length≤2000) (hf:(zLH n false text).length≤900)
include hn hok hs hg ht hf
theorem yAU (o:Options):zF7 n c o text=some (yFB (uL o) (wk c (xR n) (zHX n false text)).1 (zHX n false text)):=by
 unfold zF7 yFB;have Y:(zHX n false text).length≤2000:=by rw[zPV];omega
 have G:=yMR (n:=n) hs (text:=text) Y;have T:vT n c text=some (wk c (xR n) (zHX n false text)).1:=by
  unfold vT;rw[zUR hn hok hs hg ht hf,zA]
 rw[show ({Strength:=o.Strength,Variable:=o.Variable,Backward:=o.Backward,Identical:=o.Identical}:Options)=o from rfl,zXT,zA,T,zA,show ({Strength:=(uL o).Strength,Variable:=(uL o).Variable,Backward:=(uL o).Backward,Identical:=(uL o).Identical}:Options)=uL o from rfl,zNW (by omega),yJF,zA];generalize (wk c (xR n) (zHX n false text)).1=h at*;have h4:=zP0 h (uL o);have O:∀x∈wts h (uL o),x.length≤1000000000:=fun x Z=>Nat.le_trans (zUU Z) G;have k:=yFA O (by omega) (wts h (uL o)).length 0 [] (by omega) (by simp;omega)
 rw[show ((0:Nat):Int)=0 from rfl,List.drop_zero] at k;have H:=z5Y (wts h (uL o)) 0 [] O;simp only[List.length_nil] at H;unfold zF6;rw[k,zA,zA];cases hi:(uL o).Identical with
 | false=>simp
 | true=>
  have h5:(jn 0 [] (wts h (uL o))).length≤4000000004:=by omega
  rw[Bool.not_true,cond_false,k7 (by simp;omega),zA,yE4 hn hok ht hf,zA]
  have z:=rk1 (t:=zHX n false text) (by omega) (zHX n false text).length 0 (jn 0 [] (wts h (uL o))++ [0]) (by omega) (by simp;omega)
  rw[show ((0:Nat):Int)=0 from rfl,List.drop_zero] at z;rw[z,zA,if_pos rfl,List.append_assoc]
end
end Go.M
namespace Go.M
open Go.AV
def tj (xs:List (List Int)):List Int:=xs.flatMap fun y=>0::y
theorem yO4:∀(xs:List (List Int)) (k:Nat) (z:List Int),0<k→jn k z xs=z++tj xs
 | [],_,z,_=>by simp[jn,tj]
 | x::xs,k,z,h=>by
  simp only[jn,h,if_true];rw[yO4 xs (k+1) _ (by omega)];simp[tj]
theorem yJI (x:List Int) (xs:List (List Int)):jn 0 [] (x::xs)=x++tj xs:=by simp only[jn,Nat.lt_irrefl,if_false,List.nil_append];exact yO4 xs 1 x (by omega)
def zz0 (s:List Int):Prop:=s= []∨∃t,s=0::t
theorem yM5 {xs:List (List Int)} {s:List Int} (h:zz0 s):zz0 (tj xs++s):=by
 cases xs with
 | nil=>exact h
 | cons x xs=>exact .inr ⟨x++tj xs++s,by simp[tj]⟩
theorem z5Z {a b:List Int}:zIP a b=0↔a=b:=by rw[zZI];exact(zKB a b 0).2
theorem z72 {a b:List Int}:zIP a b<0↔lx a b:=by rw[zZI];exact(zKB a b 0).1
theorem zZ5:∀(a:List Int),¬lx a a
 | [],h=>h
 | x::a,h=>by
  rcases h with h | ⟨_,h⟩;omega;exact zZ5 a h
theorem z50:∀(a b:List Int),lx a b∨a=b∨lx b a
 | [],[]=> .inr (.inl rfl)
 | [],_::_=> .inl trivial
 | _::_,[]=> .inr (.inr trivial)
 | x::a,y::b=>by
  rcases Int.lt_trichotomy x y with h | h | h;exact .inl (.inl h);subst h;rcases z50 a b with h | h | h;exact .inl (.inr ⟨rfl,h⟩);exact .inr (.inl (by rw[h]));exact .inr (.inr (.inr ⟨rfl,h⟩));exact .inr (.inr (.inl h))
theorem yKX {a b:List Int} (h:lx a b) (k:lx b a):False:=zZ5 a (zUE h k)
theorem yM6 (a b:List Int):zIP a b= -1∨zIP a b=0∨zIP a b=1:=by
 unfold zIP;cases H:chk (fun _ (p:Int×Int)=>if p.1=p.2 then none else some (if p.1<p.2 then (-1:Int) else 1)) (a.zip b) 0 with
 | none=>simp only[];by_cases z:a.length<b.length<;>by_cases G:b.length<a.length<;>simp[z,G]
 | some y=>
  have:=zEL (P:=fun y=>y= -1∨y=1) (fun k x y h=>by
   split at h;cases h;simp only[Option.some.injEq] at h;subst h;split<;>simp) H
  simp only[];omega
theorem yJJ {a b:List Int}:0<zIP a b↔lx b a:=by
 have z:=z5Z (a:=a) (b:=b);have G:=z72 (a:=a) (b:=b);rcases z50 a b with h | h | h
 exact⟨fun k=>by have:=G.2 h;omega,fun k=>(yKX h k).elim⟩
 exact⟨fun k=>by have:=z.2 h;omega,fun k=>by rw[h] at k;exact(zZ5 b k).elim⟩
 refine⟨fun _=>h,fun _=>?_⟩;have n0:¬zIP a b=0:=fun e=>by rw[z.1 e] at h;exact zZ5 b h
 have n1:¬zIP a b<0:=fun e=>yKX (G.1 e) h;omega
end Go.M
namespace Go.M
open Go.AV
noncomputable def eLm (n:Norm) (c:Collation) (t:List Int):List Element:=(wk c (xR n) (zHX n false t)).1
noncomputable def sK (n:Norm) (c:Collation) (o:Options) (t:List Int):List Int:=yFB (uL o) (eLm n c t) (zHX n false t)
def TOk (n:Norm) (t:List Int):Prop:=t.length≤2000∧(zLH n false t).length≤900
theorem yFD {a b:List Int} (h:a.length≤4611686018427387904):zCQ a b=some (decide (a=b)):=by unfold zCQ;rw[zUD h,zA];congr 1;rw[Bool.eq_iff_iff,decide_eq_true_eq,decide_eq_true_eq];exact z5Z
section
variable {n:Norm} {c:Collation} (hn:NSm n) (hok:zC5 n) (hs:Sm c) (hg:∀g∈c.Groups,g.Name.length≤MX)
include hn hok hs hg
theorem rkE (o:Options) {t:List Int} (h:TOk n t):zF7 n c o t=some (sK n c o t):=yAU hn hok hs hg h.1 h.2 o
theorem yQR {t:List Int} (h:TOk n t):wY n c t=some (eLm n c t):=z29 hn hok hs hg h.1 (by have:=h.2;omega)
theorem yQS {t:List Int} (h:TOk n t):vT n c t=some (eLm n c t):=by unfold vT;rw[zUR hn hok hs hg h.1 h.2,zA];rfl
end
noncomputable def stE0 (n:Norm) (c:Collation) (o:Options) (a b:List Int):Bool:=decide ((row0 b).length≤(row0 a).length∧(row0 a).take (row0 b).length=row0 b) where
 row0 (t:List Int):List Int:=(wts (eLm n c t) (uL o)).headD []
section
variable {n:Norm} {c:Collation} (hn:NSm n) (hok:zC5 n) (hs:Sm c) (hg:∀g∈c.Groups,g.Name.length≤MX)
include hn hok hs hg
omit hn hok hs hg in
theorem w0 (o:Options) (t:List Int):z7 (wts (eLm n c t) (uL o)) (0:Int)=some (stE0.row0 n c o t)∧(stE0.row0 n c o t).length≤(eLm n c t).length:=by
 unfold stE0.row0;have h:=zZ4 (l:=eLm n c t) (zOG o);have hb:=yJD (zOG o);cases k:wts (eLm n c t) (uL o) with
 | nil=>rw[k] at h;simp at h;omega
 | cons x xs=>
  refine⟨rfl,?_⟩;have:x∈wts (eLm n c t) (uL o):=by rw[k];simp
  exact zUU this
end
end Go.M
namespace Go.Plain
def cmpI (x y:Int):Int:=if x<y then -1 else if y<x then 1 else 0
def wI:List Int→List Int→Int
 | [],[]=>0
 | [],_::_=> -1
 | _::_,[]=>1
 | x::xs,y::ys=>if x<y then -1 else if y<x then 1 else wI xs ys
theorem zST {l:List Int} {k:Nat} (h:k<l.length):l.drop k=l.getD k 0::l.drop (k+1):=by rw[List.drop_eq_getElem_cons h];simp[List.getD,h]
theorem zKE:∀{a b:List Int},wI a b=0↔a=b
 | [],[]=>by simp[wI]
 | [],_::_=>by simp[wI]
 | _::_,[]=>by simp[wI]
 | x::xs,y::ys=>by
  simp only[wI,List.cons.injEq];split;constructor;intro h;simp at h
  rintro⟨rfl,_⟩;omega
  split;constructor;intro h;simp at h
  rintro⟨rfl,_⟩;omega
  rw[zKE];constructor;intro h;exact⟨by omega,h⟩;exact fun h=>h.2
def zBL (m:Int):Int:=if m<1∨m > 65535 then 65535 else m
def cl (v:Int):Int:=if 0≤v∧v≤65535 then v else 0
def plain (l:List Int):List Int:=l.map cl
def zDR (m:Int) (c:Nat) (lo:Bool):List Int:=
 List.replicate (c/8) (m+7)++(if c%8=0 then [] else if lo then [m+(c%8:Nat)-1] else [m+15-(c%8:Nat)])
def pkc (m:Int) (c:Nat):List Int→List Int
 | []=>zDR m c true
 | x::xs=>if x=m then pkc m (c+1) xs else zDR m c (decide (x<m))++(if x<m then x else x+14)::pkc m 0 xs
def pk (m:Int) (l:List Int):List Int:=pkc m 0 l
theorem zGF (m:Int) (b:Bool):zDR m 0 b= []:=rfl
def low (m:Int):List Int→Bool
 | []=>true
 | x::_=>decide (x<m)
theorem zXV {m:Int} {c:Nat} {r:List Int} (h:∀x,r.head? =some x→x≠m):pkc m c r=zDR m c (low m r)++pkc m 0 r:=by
 cases r with
 | nil=>simp[pkc,low,zGF]
 | cons x xs=>
  have:=h x rfl;simp[pkc,low,this,zGF]
theorem z73 {m:Int} {c:Nat}:∀(k:Nat) (r:List Int),pkc m c (List.replicate k m++r)=pkc m (c+k) r
 | 0,r=>rfl
 | k+1,r=>by
  simp only[List.replicate_succ,List.cons_append,pkc,if_true];rw[z73 (c:=c+1) k r];congr 1;omega
theorem z74 {m v:Int} (h:v≠m):∀(k:Nat) (r:List Int),pkc m 0 (List.replicate k v++r)=List.replicate k (if v<m then v else v+14)++pkc m 0 r
 | 0,r=>rfl
 | k+1,r=>by
  simp only[List.replicate_succ,List.cons_append,pkc,if_neg h,zGF,List.nil_append];rw[z74 h k r]
def yO:List Int→List (Int×Nat)
 | []=>[]
 | x::xs=>match yO xs with
  | []=>[(x,1)]
  | (y,c)::r=>if x=y then (y,c+1)::r else (x,1)::(y,c)::r
def okR:List (Int×Nat)→Prop
 | []=>True
 | (v,c)::r=>0<c∧(∀x d h,r=(x,d)::h→x≠v)∧okR r
def unR (r:List (Int×Nat)):List Int:=r.flatMap fun p=>List.replicate p.2 p.1
theorem zHD:∀l,okR (yO l)
 | []=>trivial
 | x::xs=>by
  have H:=zHD xs;unfold yO;split;simp[okR];rename_i y c r h;rw[h] at H;obtain⟨O,k,G⟩:=H;split;rename_i e;subst e;exact⟨by omega,k,G⟩;rename_i e;exact⟨by omega,fun z d Y T=>by cases T;exact fun h=>e h.symm,O,k,G⟩
theorem zE2:∀l,unR (yO l)=l
 | []=>rfl
 | x::xs=>by
  have k:=zE2 xs;unfold yO;split;rename_i h;rw[h] at k;simp[unR] at k ⊢;exact k;rename_i y c r h;rw[h] at k;split;rename_i e;subst e;simp only[unR,List.flatMap_cons,List.replicate_succ,List.cons_append] at k ⊢;rw[k];simp only[unR,List.flatMap_cons,List.replicate_succ,List.cons_append,List.replicate_zero,List.nil_append] at k ⊢;rw[k]
def zV3 (m v:Int) (c:Nat) (lo:Bool):List Int:=if v=m then zDR m c lo else List.replicate c (if v<m then v else v+14)
def zV4 (m:Int):List (Int×Nat)→Bool
 | []=>true
 | (x,_)::_=>decide (x<m)
def zIU (m:Int):List (Int×Nat)→List (List Int)
 | []=>[]
 | (v,c)::r=>zV3 m v c (zV4 m r)::zIU m r
theorem zUV (m:Int):∀r,(zIU m r).length=r.length
 | []=>rfl
 | (v,c)::r=>by simp[zIU,zUV m r]
theorem zUW (m:Int):∀(r:List (Int×Nat)) (k:Nat) v c,r[k]? =some (v,c)→(zIU m r)[k]? =some (zV3 m v c (zV4 m (r.drop (k+1))))
 | [],k,v,c,h=>by simp at h
 | (G,z)::r,0,v,c,h=>by simp at h;obtain⟨rfl,rfl⟩:=h;rfl
 | (G,z)::r,k+1,v,c,h=>by simpa[zIU] using zUW m r k v c (by simpa using h)
def atR (r:List (Int×Nat)) (k:Nat):Nat:=((r.take k).map (·.2)).sum
def zSD (m:Int) (r:List (Int×Nat)) (k:Nat):List Int:=((zIU m r).take k).flatten
theorem zUX {r:List (Int×Nat)} {k:Nat} {v:Int} {c:Nat} (h:r[k]? =some (v,c)):atR r (k+1)=atR r k+c:=by simp[atR,List.take_add_one,h]
theorem yAV {m:Int} {r:List (Int×Nat)} {k:Nat} {v:Int} {c:Nat} (h:r[k]? =some (v,c)):zSD m r (k+1)=zSD m r k++zV3 m v c (zV4 m (r.drop (k+1))):=by simp[zSD,List.take_add_one,zUW m r k v c h]
theorem zUY:∀(r:List (Int×Nat)) (k:Nat),(unR r).drop (atR r k)=unR (r.drop k)
 | r,0=>by simp[atR]
 | [],k+1=>by simp[unR]
 | (v,c)::r,k+1=>by
  have:=zUY r k;simp only[atR,List.take_succ_cons,List.map_cons,List.sum_cons,List.drop_succ_cons,unR,List.flatMap_cons] at this ⊢;rw[←this,List.drop_append];simp
theorem zZ6 (r:List (Int×Nat)):(unR r).length=(r.map (·.2)).sum:=by
 induction r with
 | nil=>rfl
 | cons p r h=>simp[unR] at h ⊢
theorem zUZ:∀(r:List (Int×Nat)) (k:Nat),okR r→okR (r.drop k)
 | r,0,h=>h
 | [],k+1,_=>by simp[okR]
 | (v,c)::r,k+1,h=>zUZ r k h.2.2
theorem z75 {m:Int}:∀{r:List (Int×Nat)},okR r→low m (unR r)=zV4 m r
 | [],_=>rfl
 | (v,c)::r,h=>by
  obtain⟨k,rfl⟩:∃k,c=k+1:=⟨c-1,by have:=h.1;omega⟩
  simp[unR,List.replicate_succ,low,zV4]
theorem z3G {r:List (Int×Nat)} (h:okR r):(unR r).head? =(r.head?).map (·.1):=by
 cases r with
 | nil=>rfl
 | cons p r=>
  obtain⟨v,c⟩:=p;obtain⟨k,rfl⟩:∃k,c=k+1:=⟨c-1,by have:=h.1;omega⟩
  simp[unR,List.replicate_succ]
theorem zXW {m:Int}:∀{r:List (Int×Nat)},okR r→(zIU m r).flatten=pk m (unR r)
 | [],_=>by simp[zIU,pk,unR,pkc,zGF]
 | (v,c)::r,h=>by
  obtain⟨T,H,z⟩:=h;have O:=zXW (m:=m) z;simp only[zIU,List.flatten_cons,O,pk,zV3];have e:unR ((v,c)::r)=List.replicate c v++unR r:=by simp[unR]
  rw[e];by_cases G:v=m;subst G;rw[if_pos rfl,z73,Nat.zero_add,zXV (c:=c),z75 z];intro x k;rw[z3G z] at k;cases r with
  | nil=>simp at k
  | cons p r=>obtain⟨y,d⟩:=p;simp at k;subst k;exact H _ _ _ rfl
  rw[if_neg G,z74 G]
theorem z3H (m:Int) (l:List Int):zSD m (yO l) (yO l).length=pk m l:=by unfold zSD;rw[List.take_of_length_le (by rw[zUV];exact Nat.le_refl _),zXW (zHD l),zE2]
theorem z76 {m:Int} {l:List Int} {k:Nat} {v:Int} {c:Nat} (h:(yO l)[k]? =some (v,c)):
    atR (yO l) (k+1)≤l.length∧zV4 m ((yO l).drop (k+1))=(if atR (yO l) (k+1)=l.length then true else decide (l.getD (atR (yO l) (k+1)) 0<m)):=by
  have e:=zUY (yO l) (k+1);rw[zE2] at e;have G:atR (yO l) (k+1)≤l.length:=by
    have O:=zZ6 (yO l);rw[zE2] at O;rw[O];unfold atR;have z:((yO l).map (·.2)).sum=(((yO l).take (k+1)).map (·.2)).sum+(((yO l).drop (k+1)).map (·.2)).sum:=by
      rw[←List.sum_append,←List.map_append,List.take_append_drop]
    omega
  refine⟨G,?_⟩;rw[←z75 (zUZ _ _ (zHD l)),←e];split
  · rename_i z;rw[z,List.drop_length];rfl
  · rename_i z
    have H:atR (yO l) (k+1)<l.length:=by omega
    rw[zST H];rfl
theorem yAW {l:List Int} {v:Int} {c:Nat} (h:(v,c)∈yO l):0<c∧v∈l∧c≤l.length:=by
 have H:∀r:List (Int×Nat),okR r→(v,c)∈r→0<c:=by
  intro r
  induction r with
  | nil=>intro _ h;simp at h
  | cons p r T=>
   intro G h;obtain⟨a,b⟩:=p;rcases List.mem_cons.1 h with h | h
   cases h;exact G.1;exact T G.2.2 h
 have O:=H _ (zHD l) h;obtain⟨s,t,e⟩:=List.append_of_mem h;have k:=zE2 l;rw[e] at k;have z:l=unR s++(List.replicate c v++unR t):=by rw[←k];simp[unR]
 refine⟨O,?_,?_⟩;rw[z];simp;right;left;omega;rw[z];simp;omega
def cw (l:List Int) (k:Nat):List Int:=(l.take k).map cl++List.replicate (l.length-k) 0
theorem yM7 (l:List Int) {k:Nat} (h:k≤l.length):(cw l k).length=l.length:=by simp[cw];omega
theorem yJK (l:List Int):cw l l.length=plain l:=by simp[cw,plain]
theorem yJL {l:List Int} {k:Nat} (h:k<l.length) (H:¬(0≤l.getD k 0∧l.getD k 0≤65535)):cw l k=cw l (k+1):=by
 have G:l.length-k=(l.length-(k+1))+1:=by omega
 have z:cl (l.getD k 0)=0:=by simp only[cl];rw[if_neg H]
 simp only[cw];rw[G,List.replicate_succ,List.take_add_one,List.getElem?_eq_getElem h];simp only[List.getD_eq_getElem?_getD,List.getElem?_eq_getElem h,Option.getD_some] at z;simp only[List.map_append,List.append_assoc,Option.toList_some,List.map_cons,List.map_nil,z,List.cons_append,List.nil_append]
theorem yM8 {l:List Int} {k:Nat} (h:k<l.length) (O:0≤l.getD k 0∧l.getD k 0≤65535):(cw l k).set k (l.getD k 0)=cw l (k+1):=by
 have G:l.length-k=(l.length-(k+1))+1:=by omega
 have z:cl (l.getD k 0)=l.getD k 0:=by simp only[cl];rw[if_pos O]
 simp only[cw];rw[G,List.replicate_succ,List.take_add_one,List.getElem?_eq_getElem h];simp only[List.getD_eq_getElem?_getD,List.getElem?_eq_getElem h,Option.getD_some] at z ⊢;have H:((l.take k).map cl).length=k:=by simp;omega
 rw[List.set_append_right _ _ (by omega),H];simp only[List.map_append,List.append_assoc,Option.toList_some,List.map_cons,List.map_nil,z,List.cons_append,List.nil_append,Nat.sub_self,List.set_cons_zero]
theorem zNB (c:Int):1≤zBL c∧zBL c≤65535:=by unfold zBL;split<;>omega
theorem z3I {l:List Int} {v:Int} (h:v∈plain l):0≤v∧v≤65535:=by simp only[plain,List.mem_map] at h;obtain⟨a,_,rfl⟩:=h;unfold cl;split<;>omega
theorem yFG (m:Int) {c:Nat} (h:0<c) (lo:Bool):(zDR m c lo).length≤c:=by
 unfold zDR;rw[List.length_append,List.length_replicate];split
 · simp;omega
 · split<;>(simp;omega)
theorem yJM (m v:Int) {c:Nat} (h:0<c) (lo:Bool):(zV3 m v c lo).length≤c:=by unfold zV3;split;exact yFG m h lo;simp
theorem zZ7 (m:Int) {r:List (Int×Nat)} (h:okR r) (k:Nat):(zSD m r k).length≤atR r k:=by
 unfold zSD atR
 induction r generalizing k with
 | nil=>simp[zIU]
 | cons p r z=>
  obtain⟨v,c⟩:=p;cases k with
  | zero=>simp
  | succ k=>
   have:=z h.2.2 k;have G:=yJM m v h.1 (zV4 m r);simp only[zIU,List.take_succ_cons,List.flatten_cons,List.length_append,List.map_cons,List.sum_cons];omega
theorem yFH (m:Int) (l:List Int):(pk m l).length≤l.length:=by
 have h:=zZ7 m (zHD l) (yO l).length;rw[z3H] at h;have k:=zZ6 (yO l);rw[zE2] at k;have z:atR (yO l) (yO l).length=((yO l).map (·.2)).sum:=by unfold atR;rw[List.take_of_length_le (Nat.le_refl _)]
 omega
theorem yAX {l:List Int} {k:Nat} (h:k<l.length):l.take (k+1)=l.take k++ [l.getD k 0]:=by rw[List.take_add_one,List.getElem?_eq_getElem h];simp[List.getD,h]
def vb (x:Int):List Int:=
 if x<0∨x≥16777216 then [0] else if x<64 then [x] else if x<16384 then [64+x/256,x%256] else [128,x/65536,x/256%256,x%256]
def b8 (n:Int):Int:=n%256
theorem yM9 {m:Int} {L:List Int} {i k:Nat} (h:i+k<L.length) (G:L.getD (i+k) 0=m) (z:pkc m 0 (L.drop i)=pkc m k (L.drop (i+k))):pkc m 0 (L.drop i)=pkc m (k+1) (L.drop (i+(k+1))):=by rw[z,zST h,pkc,if_pos G,Nat.add_assoc]
theorem zZ8 {m:Int} {L o:List Int} {i k:Nat} (H:o++pkc m 0 (L.drop i)=pk m L) (G:pkc m 0 (L.drop i)=pkc m k (L.drop (i+k))) (O:i+k<L.length→L.getD (i+k) 0≠m):
  (o++zDR m k (low m (L.drop (i+k))))++pkc m 0 (L.drop (i+k))=pk m L:=by
 rw[←H,G,List.append_assoc];congr 1;refine(zXV fun x h=>?_).symm;rw[List.head?_drop] at h;obtain⟨z,T⟩:=List.getElem?_eq_some_iff.1 h;have:=O z;rw[List.getD_eq_getElem?_getD,h] at this;exact this
theorem z3J {m:Int} {L:List Int} {j:Nat}:low m (L.drop j)=true↔(L.length≤j∨L.getD j 0<m):=by rcases Nat.lt_or_ge j L.length with h | h;rw[zST h];simp only[low,decide_eq_true_eq];omega;rw[List.drop_of_length_le h];simp[low];omega
theorem yFI {m w:Int} {L o:List Int} {i k:Nat} (H:o++pkc m 0 (L.drop i)=pk m L) (z:pkc m 0 (L.drop i)=pkc m k (L.drop (i+k))) (T:i+k<L.length→L.getD (i+k) 0≠m)
  (h:k%8≠0) (G:L.length≤i+k∨L.getD (i+k) 0<m) (O:w=m+(k%8:Nat)-1):((o++List.replicate (k/8) (m+7))++ [w])++pkc m 0 (L.drop (i+k))=pk m L:=by
 have:=zZ8 H z T;rw[z3J.2 G,zDR,if_neg h,if_pos rfl,←List.append_assoc,←O] at this;exact this
theorem yNA {m w:Int} {L o:List Int} {i k:Nat} (O:o++pkc m 0 (L.drop i)=pk m L) (G:pkc m 0 (L.drop i)=pkc m k (L.drop (i+k))) (Y:i+k<L.length→L.getD (i+k) 0≠m)
  (z:k%8≠0) (H:¬(L.length≤i+k∨L.getD (i+k) 0<m)) (T:w=m+15-(k%8:Nat)):((o++List.replicate (k/8) (m+7))++ [w])++pkc m 0 (L.drop (i+k))=pk m L:=by
 have:=zZ8 O G Y;have e:low m (L.drop (i+k))=false:=by
  cases h:low m (L.drop (i+k)) with
  | false=>rfl
  | true=>exact absurd (z3J.1 h) H
 rw[e,zDR,if_neg z,if_neg (by simp),←List.append_assoc,←T] at this;exact this
theorem yO6 {m:Int} {L o:List Int} {i k:Nat} (G:o++pkc m 0 (L.drop i)=pk m L) (z:pkc m 0 (L.drop i)=pkc m k (L.drop (i+k))) (H:i+k<L.length→L.getD (i+k) 0≠m)
  (h:k%8=0):(o++List.replicate (k/8) (m+7))++pkc m 0 (L.drop (i+k))=pk m L:=by
 have:=zZ8 G z H;rw[zDR,if_pos h,List.append_nil] at this;exact this
theorem z77 {m w:Int} {L o:List Int} {i:Nat} (k:o++pkc m 0 (L.drop i)=pk m L) (h:i<L.length) (G:L.getD i 0≠m) (z:w=if L.getD i 0<m then L.getD i 0 else L.getD i 0+14):
  (o++ [w])++pkc m 0 (L.drop (i+1))=pk m L:=by
 rw[←k,zST h,pkc,if_neg G,zGF,List.nil_append,←z,List.append_assoc];rfl
theorem z78 {m:Int} {L o:List Int} {i:Nat} (k:o++pkc m 0 (L.drop i)=pk m L) (h:L.length≤i):o=pk m L:=by rw[List.drop_of_length_le h] at k;simpa[pkc,zGF] using k
theorem z51 {l:List Int} {k:Nat} (h:k<l.length):plain (l.take (k+1))=plain (l.take k)++ [cl (l.getD k 0)]:=by rw[yAX h];simp[plain]
theorem zXX (a:List Int):wI a a=0:=zKE.2 rfl
theorem zGG (x:Int) (a b:List Int):wI (x::a) (x::b)=wI a b:=by rw[wI,if_neg (by omega),if_neg (by omega)]
theorem zU0 (p a b:List Int):wI (p++a) (p++b)=wI a b:=by
 induction p with
 | nil=>rfl
 | cons x p h=>rw[List.cons_append,List.cons_append,zGG,h]
theorem zDC {x y:Int} (h:x<y) (a b:List Int):wI (x::a) (y::b)= -1:=by rw[wI,if_pos h]
theorem zMP:∀a b:List Int,wI b a= - wI a b
 | [],[]=>by simp[wI]
 | [],_::_=>by simp[wI]
 | _::_,[]=>by simp[wI]
 | x::a,y::b=>by
  have:=zMP a b;rcases Int.lt_trichotomy x y with h | h | h
  rw[zDC h,wI,if_neg (by omega),if_pos h];rfl;subst h;rw[zGG,zGG,this];rw[zDC h,wI,if_neg (by omega),if_pos h]
theorem yFJ (m:Int) (c:Nat) (lo:Bool):zDR m (c+8) lo=(m+7)::zDR m c lo:=by
 have h:(c+8)/8=c/8+1:=by omega
 have k:(c+8)%8=c%8:=by omega
 unfold zDR;rw[h,k,List.replicate_succ];rfl
theorem yJN (m:Int):∀(l:List Int) (c:Nat),pkc m (c+8) l=(m+7)::pkc m c l
 | [],c=>yFJ m c true
 | x::xs,c=>by
  unfold pkc;split;have:=yJN m xs (c+1);rw[←this];rw[yFJ];rfl
theorem zHY {m:Int} {r:Nat} (z:0<r) (G:r<8) (lo:Bool):zDR m r lo= [if lo then m+r-1 else m+15-r]:=by
 have h:r/8=0:=by omega
 have k:r%8=r:=by omega
 unfold zDR;rw[h,k,if_neg (by omega)];cases lo<;>simp
theorem zMQ (m:Int):∀(l:List Int) (n:Nat),1≤n→n≤8→∃h t,pkc m n l=h::t∧m+n-1≤h∧h≤m+15-n
 | l,n,z,O=>by
  rcases Nat.lt_or_ge n 8 with k | H;cases l with
  | nil=>exact⟨_,[],by rw[pkc,zHY z k],by simp,by simp;omega⟩
  | cons x xs=>
   by_cases G:x=m;obtain⟨h,t,e,T,Y⟩:=zMQ m xs (n+1) (by omega) (by omega);exact⟨h,t,by rw[pkc,if_pos G,e],by omega,by omega⟩;refine⟨_,_,by rw[pkc,if_neg G,zHY z k];rfl,?_,?_⟩
   cases decide (x<m)<;>simp;omega;cases decide (x<m)<;>simp;omega
  obtain rfl:n=8:=by omega
  exact⟨m+7,pkc m 0 l,yJN m l 0,by omega,by omega⟩
theorem z79 (m:Int) (y:Int) (ys:List Int) (r:Nat) (G:r<8):wI (pkc m r []) (pkc m r (y::ys))= -1:=by rcases Nat.eq_zero_or_pos r with rfl | z;by_cases k:y=m;obtain⟨h,t,e,_,_⟩:=zMQ m ys 1 (by omega) (by omega);rw[pkc,pkc,if_pos k,e,zGF,wI];rw[pkc,pkc,if_neg k,zGF,zGF,List.nil_append,wI];by_cases k:y=m;obtain⟨h,t,e,O,_⟩:=zMQ m ys (r+1) (by omega) (by omega);rw[pkc,pkc,if_pos k,e,zHY z G,if_pos rfl,zDC (by omega)];rw[pkc,pkc,if_neg k,zHY z G,zHY z G,if_pos rfl];by_cases H:y<m;rw[if_pos (by simpa using H),if_pos H];show wI (_:: []) (_::(_::_))= -1;rw[zGG,wI];rw[if_neg (by simpa using H)];exact zDC (by omega) _ _
theorem yFK (m:Int) {x y:Int} (Z:x<y) (xs ys:List Int) (r:Nat) (T:r<8):wI (pkc m r (x::xs)) (pkc m r (y::ys))= -1:=by
 by_cases Y:x=m;have H:¬y=m:=by omega
 have O:¬y<m:=by omega
 obtain⟨h,t,e,_,p2⟩:=zMQ m xs (r+1) (by omega) (by omega);rw[pkc,pkc,if_pos Y,if_neg H,e];rcases Nat.eq_zero_or_pos r with rfl | G;rw[zGF,List.nil_append,if_neg O];exact zDC (by omega) _ _;rw[zHY G T,if_neg (by simpa using O)];exact zDC (by omega) _ _;by_cases k:x<m;by_cases H:y=m;obtain⟨h,t,e,p1,_⟩:=zMQ m ys (r+1) (by omega) (by omega);rw[pkc,pkc,if_neg Y,if_pos H,e];rcases Nat.eq_zero_or_pos r with rfl | G;rw[zGF,List.nil_append,if_pos k];exact zDC (by omega) _ _;rw[zHY G T,if_pos (by simpa using k)];exact zDC (by omega) _ _;rw[pkc,pkc,if_neg Y,if_neg H,if_pos k];by_cases z:y<m;rw[decide_eq_true k,decide_eq_true z,zU0,if_pos z];exact zDC Z _ _;rw[if_neg z];rcases Nat.eq_zero_or_pos r with rfl | G;rw[zGF,zGF];exact zDC (by omega) _ _;rw[zHY G T,zHY G T,if_pos (by simpa using k),if_neg (by simpa using z)];exact zDC (by omega) _ _;have H:¬y=m:=by omega
 have z:¬y<m:=by omega
 rw[pkc,pkc,if_neg Y,if_neg H,decide_eq_false k,decide_eq_false z,zU0,if_neg k,if_neg z];exact zDC (by omega) _ _
theorem zP1 (m:Int) (a b:List Int) (c:Nat):wI (pkc m c a) (pkc m c b)=wI (pkc m (c%8) a) (pkc m (c%8) b):=by
 have key:∀q r:Nat,wI (pkc m (8*q+r) a) (pkc m (8*q+r) b)=wI (pkc m r a) (pkc m r b):=by
  intro q
  induction q with
  | zero=>intro r;rw[Nat.mul_zero,Nat.zero_add]
  | succ q h=>
   intro r;rw[show 8*(q+1)+r=(8*q+r)+8 by omega,yJN,yJN,zGG,h]
 have:=key (c/8) (c%8)
 rwa [show 8*(c/8)+c%8=c by omega] at this
theorem zZ9 (m:Int):∀(a b:List Int) (c:Nat),wI (pkc m c a) (pkc m c b)=wI a b
 | [],[],c=>by rw[zXX,zXX]
 | [],y::ys,c=>by rw[zP1,z79 m y ys _ (Nat.mod_lt _ (by omega)),wI]
 | x::xs,[],c=>by rw[zMP,zP1,z79 m x xs _ (Nat.mod_lt _ (by omega)),wI];rfl
 | x::xs,y::ys,c=>by
  rcases Int.lt_trichotomy x y with h | h | h;rw[zP1,yFK m h xs ys _ (Nat.mod_lt _ (by omega)),zDC h];subst h;rw[zGG,pkc,pkc];by_cases k:x=m;rw[if_pos k,if_pos k,zZ9 m xs ys (c+1)];rw[if_neg k,if_neg k,zU0,zGG,zZ9 m xs ys 0];rw[zMP,zP1,yFK m h ys xs _ (Nat.mod_lt _ (by omega)),zMP,zDC h]
theorem yFL (m:Int) (a b:List Int):wI (pk m a) (pk m b)=wI a b:=zZ9 m a b 0
end Go.Plain
namespace Go.M
open Go.AV Go.Plain
theorem zBN {l:List Int} {k:Nat} (h:k<l.length):l.getD k 0=l[k]:=by rw[List.getD_eq_getElem?_getD,List.getElem?_eq_getElem h];rfl
theorem zQ9 (m:Int):xV m=some (zBL m):=by
 unfold xV zBL;rw[zH];by_cases h:m<1∨m > 65535;have:(decide (m<1) ||decide (65535<m))=true:=by simpa using h
 rw[this,cond_true,if_pos h];have:(decide (m<1) ||decide (65535<m))=false:=by simp;omega
 rw[this,cond_false,if_neg h]
theorem pk0 {l:List Int} (H:l.length≤1000000):∀(m k:Nat),k+m=l.length→zC (fun (x:Int×(List Int))=>zAS l x.1 x.2) ((k:Int),cw l k)=some (plain l)
 | 0,k,h=>by
  rw[show k=l.length by omega,yJK];exact zF (by simp only[zAS,kB (Nat.le_refl _),cond_false])
 | m+1,k,h=>by
  have z:k<l.length:=by omega
  have G:k<(cw l k).length:=by rw[yM7 l (by omega)];exact z
  rw[zJ (x':=(((k+1:Nat):Int),cw l (k+1)))];exact pk0 H m (k+1) (by omega);simp only[zAS,yI z,cond_true,zP z,zA,zH];by_cases hb:0≤l[k]∧l[k]≤65535;have e:(decide (0≤l[k])&&decide (l[k]≤65535))=true:=by simpa using hb
  rw[e,cond_true,zP G,zA,zEK G,zA,zA,zK (k:=k) (by omega),←yM8 z (by rw[zBN z];exact hb),zBN z]
  have e:(decide (0≤l[k])&&decide (l[k]≤65535))=false:=by simp;omega
  rw[e,cond_false,zA,zK (k:=k) (by omega),←yJL z (by rw[zBN z];exact hb)]
theorem zIV:∀l:List Int,zA3 l=(yO l).map fun p=>(p.1,(p.2:Int))
 | []=>rfl
 | x::l=>by
  unfold zA3 yO;rw[zIV l];cases yO l with
  | nil=>rfl
  | cons p r=>
   obtain⟨y,c⟩:=p;simp only[List.map_cons];by_cases h:x=y;rw[if_pos h,if_pos h];simp;rw[if_neg h,if_neg h];rfl
theorem yFM {A S:Type} {body:S→A→Option (Bool×S)} (st:Nat→S):∀(xs:List A) (k:Nat),(∀i x,xs[i]? =some x→body (st (k+i)) x=some (true,st (k+i+1)))→zO4 body (st k) xs=some (xs.length,true,st (k+xs.length))
 | [],k,_=>rfl
 | x::xs,k,h=>by
  have z:=h 0 x rfl;have H:=yFM st xs (k+1) (fun i y G=>by have:=h (i+1) y (by simpa using G);rw[show k+(i+1)=k+1+i by omega] at this;exact this)
  simp only[zO4];rw[Nat.add_zero] at z;rw[z];simp only[];rw[H,List.length_cons,show k+1+xs.length=k+(xs.length+1) by omega];rfl
theorem yNB (c:Nat) (h:c≤1000000):zIX wi (c:Int) 8=some ((c/8:Nat):Int):=by
 unfold zIX;rw[if_neg (by decide)];have:(c:Int).tdiv 8=((c/8:Nat):Int):=by rw[Int.tdiv_eq_ediv_of_nonneg (by omega)];omega
 rw[this,yL1 (by omega)]
theorem yFN (c:Nat):zD3 (c:Int) 8=some ((c%8:Nat):Int):=by
 unfold zD3;rw[if_neg (by decide)];have:(c:Int).tmod 8=((c%8:Nat):Int):=by rw[Int.tmod_eq_emod_of_nonneg (by omega)];omega
 rw[this]
theorem z52 {v:Int} {c:Nat} (h:c≤1000000):jW [v] (c:Int)=some (List.replicate c v):=by unfold jW yLR;simp only[];rw[if_pos (by omega)];simp
theorem pkR {L:List Int} {m:Int} (hm:1≤m∧m≤65535) (hL:L.length≤1000000) (ak:∀v∈L,0≤v∧v≤65535) {k:Nat} {v:Int} {c:Nat} (h:(yO L)[k]? =some (v,c)):
  wJ m L ((atR (yO L) k:Nat):Int) (zSD m (yO L) k) (v,(c:Int))=some (true,((atR (yO L) (k+1):Nat):Int),zSD m (yO L) (k+1)):=by
 have aa:=yAW (List.mem_of_getElem? h);have hv:=ak v aa.2.1;have hc:c≤1000000:=by omega
 obtain⟨a1,a2⟩:=z76 (m:=m) h;have a3:=zUX h;have Y:=yAV (m:=m) h;have ol:=zZ7 m (zHD L) k;have am:=zZ7 m (zHD L) (k+1);have z:wi (((atR (yO L) k:Nat):Int)+(c:Int))=((atR (yO L) (k+1):Nat):Int):=by rw[kQ (by omega) (by omega)];omega
 unfold wJ;simp only[];by_cases O:v=m
 ·have e1:decide (m<v)=false:=by simp;omega
  have Z:decide (v=m)=true:=decide_eq_true O;have w1:wi (wi (m+8)-1)=m+7:=by rw[kQ (n:=m+8) (by omega) (by omega),kQ (by omega) (by omega)];omega
  have aj:zV3 m v c (zV4 m ((yO L).drop (k+1)))=zDR m c (zV4 m ((yO L).drop (k+1))):=by unfold zV3;rw[if_pos O]
  rw[aj] at Y;rw[e1,cond_false,zA,Z,Bool.not_true,cond_false,yNB c hc,zA,w1,z52 (show c/8≤1000000 by omega),zA,k7 (by rw[List.length_replicate];omega),zA,yFN,zA]
  by_cases h0:c%8=0
  ·have e3:decide (((c%8:Nat):Int)=0)=true:=decide_eq_true (by omega)
   rw[e3,Bool.not_true,cond_false,zA,z,Y];unfold zDR;rw[if_pos h0,List.append_nil]
  ·have e3:decide (((c%8:Nat):Int)=0)=false:=decide_eq_false (by omega)
   rw[e3,Bool.not_false,cond_true,z,zH];by_cases T:atR (yO L) (k+1)=L.length
   ·have e4:decide (((atR (yO L) (k+1):Nat):Int)=(L.length:Int))=true:=decide_eq_true (by omega)
    rw[if_pos T] at a2;have w2:wi (wi (m+((c%8:Nat):Int))-1)=m+((c%8:Nat):Int)-1:=by rw[kQ (n:=m+((c%8:Nat):Int)) (by omega) (by omega),kQ (by omega) (by omega)]
    rw[e4,Bool.not_true,w8,zA,Bool.true_or,cond_true,w2,k7 (by simp;omega),zA,zA,Y,a2]
    unfold zDR;rw[if_neg h0,if_pos rfl,List.append_assoc]
   ·have e4:decide (((atR (yO L) (k+1):Nat):Int)=(L.length:Int))=false:=decide_eq_false (by omega)
    have G:atR (yO L) (k+1)<L.length:=by omega
    rw[if_neg T,zBN G] at a2;rw[e4,Bool.not_false,j6,zP G,zA,Bool.false_or];by_cases H:L[atR (yO L) (k+1)]<m
    ·have w2:wi (wi (m+((c%8:Nat):Int))-1)=m+((c%8:Nat):Int)-1:=by rw[kQ (n:=m+((c%8:Nat):Int)) (by omega) (by omega),kQ (by omega) (by omega)]
     rw[decide_eq_true H] at a2;rw[decide_eq_true H,cond_true,w2,k7 (by simp;omega),zA,zA,Y,a2]
     unfold zDR;rw[if_neg h0,if_pos rfl,List.append_assoc]
    ·have w2:wi (wi (wi (m+16)-1)-((c%8:Nat):Int))=m+15-((c%8:Nat):Int):=by rw[kQ (n:=m+16) (by omega) (by omega),kQ (n:=m+16-1) (by omega) (by omega),kQ (by omega) (by omega)];omega
     rw[decide_eq_false H] at a2;rw[decide_eq_false H,cond_false,w2,k7 (by simp;omega),zA,zA,Y,a2]
     unfold zDR;rw[if_neg h0,if_neg (by decide),List.append_assoc]
 ·have ai:zV3 m v c (zV4 m ((yO L).drop (k+1)))=List.replicate c (if v<m then v else v+14):=by unfold zV3;rw[if_neg O]
  rw[ai] at Y;by_cases G:m<v
  ·have Z:decide (v+14=m)=false:=decide_eq_false (by omega)
   rw[decide_eq_true G,cond_true,zA,kQ (n:=v+14) (by omega) (by omega),Z,Bool.not_false,cond_true,z52 hc,zA,k7 (by rw[List.length_replicate];omega),zA,z,Y,if_neg (by omega),zA]
  ·have Z:decide (v=m)=false:=decide_eq_false O
   rw[decide_eq_false G,cond_false,zA,Z,Bool.not_false,cond_true,z52 hc,zA,k7 (by rw[List.length_replicate];omega),zA,z,Y,if_pos (by omega),zA]
end Go.M
namespace Go.M
open Go.AV Go.Plain
theorem yNC {L:List Int} {k:Nat} {v:Int} {c:Nat} (h:(yO L)[k]? =some (v,c)):
  0<c∧atR (yO L) k+c≤L.length∧(∀j,j<c→L.getD (atR (yO L) k+j) 0=v)∧(atR (yO L) k+c<L.length→L.getD (atR (yO L) k+c) 0≠v):=by
 have Y:=(List.getElem?_eq_some_iff.1 h).1;have z:(yO L).drop k=(v,c)::(yO L).drop (k+1):=by
  rw[List.drop_eq_getElem_cons Y,(List.getElem?_eq_some_iff.1 h).2]
 have e:=zUY (yO L) k;rw[zE2,z] at e;have ok:=zUZ (yO L) k (zHD L);rw[z] at ok;have a3:=zUX h;have a1:=(z76 (m:=0) h).1;have T:unR ((v,c)::(yO L).drop (k+1))=List.replicate c v++unR ((yO L).drop (k+1)):=by simp[unR]
 rw[T] at e;have g:∀j,L.getD (atR (yO L) k+j) 0=(List.replicate c v++unR ((yO L).drop (k+1))).getD j 0:=fun j=>by
  rw[←e,List.getD_eq_getElem?_getD,List.getD_eq_getElem?_getD,List.getElem?_drop]
 refine⟨ok.1,by omega,fun j G=>?_,fun Z=>?_⟩
 ·rw[g,List.getD_eq_getElem?_getD,List.getElem?_append_left (by simpa using G)]
  simp[G]
 ·rw[g,List.getD_eq_getElem?_getD,List.getElem?_append_right (by simp),List.length_replicate,Nat.sub_self,←List.head?_eq_getElem?,z3G ok.2.2]
  have H:L.length=atR (yO L) k+(c+(unR ((yO L).drop (k+1))).length):=by
   have:=congrArg List.length e;rw[List.length_drop,List.length_append,List.length_replicate] at this;omega
  cases O:(yO L).drop (k+1) with
  | nil=>rw[O] at H;simp[unR] at H;omega
  | cons p r'=>
   obtain⟨x,d⟩:=p;have:=ok.2.1 x d r' O;simpa using this
theorem rn1 {L:List Int} (hL:L.length≤1000000) {a c:Nat} {v:Int} (Y:0<c) (Z:a+c≤L.length) (G:∀j,j<c→L.getD (a+j) 0=v) (T:a+c<L.length→L.getD (a+c) 0≠v):∀(m j:Nat),j+m=c→0<j→zC (fun (x:Int)=>wB L (a:Int) x) ((a+j:Nat):Int)=some ((a+c:Nat):Int)
 | 0,j,h,h0=>by
  rw[show j=c by omega];refine zF ?_;by_cases z:a+c<L.length;have H:=T z;have O:=G 0 Y;rw[zBN z] at H;rw[Nat.add_zero,zBN (show a<L.length by omega)] at O;have e:decide (L[a+c]=L[a])=false:=decide_eq_false (by rw[O];exact H)
  unfold wB;rw[yI z,zH,j6,zP z,zA,j6,zP (show a<L.length by omega),zA,e,Bool.and_false,cond_false];unfold wB;rw[kB (by omega),zH,w8,zA,w8,zA,Bool.false_and,cond_false]
 | m+1,j,h,h0=>by
  have z:a+j<L.length:=by omega
  have H:=G j (by omega);have O:=G 0 Y;rw[zBN z] at H;rw[Nat.add_zero,zBN (show a<L.length by omega)] at O;have e:decide (L[a+j]=L[a])=true:=decide_eq_true (by rw[H,O]);rw[zJ (x':=((a+(j+1):Nat):Int)) (by
   unfold wB;rw[yI z,zH,j6,zP z,zA,j6,zP (show a<L.length by omega),zA,e,Bool.and_self,cond_true,zK (k:=a+j) (by omega),Nat.add_assoc])]
  exact rn1 hL Y Z G T m (j+1) (by omega) (by omega)
theorem yJO (L:List Int):atR (yO L) (yO L).length=L.length:=by have h:=zZ6 (yO L);rw[zE2] at h;unfold atR;rw[List.take_length,h]
theorem rn0 {L:List Int} (hL:L.length≤1000000):∀(m k:Nat),k+m=(yO L).length→zC (fun (x:Int×Nat)=>wC L (zA3 L) false x.1 x.2) (((atR (yO L) k:Nat):Int),k)=some (.inl (yO L).length)
 | 0,k,h=>by
  rw[show k=(yO L).length by omega,yJO];refine zF ?_;unfold wC;rw[kB (Nat.le_refl _),cond_false]
 | m+1,k,h=>by
  have hk:k<(yO L).length:=by omega
  have G:(yO L)[k]? =some ((yO L)[k].1,(yO L)[k].2):=List.getElem?_eq_getElem hk;generalize (yO L)[k].1=v at G;generalize (yO L)[k].2=c at G;obtain⟨hc,T,H,Y⟩:=yNC G;have a3:=zUX G;have z:atR (yO L) k<L.length:=by omega
  have Z:=H 0 hc;rw[Nat.add_zero,zBN z] at Z;have O:=rn1 hL hc T H Y (c-1) 1 (by omega) (by omega);have hy:yM (zA3 L) k (v,(c:Int))=some ():=by
   unfold yM;rw[if_pos];rw[zIV,List.getElem?_map,G];rfl
  have hw:wi (((atR (yO L) k+c:Nat):Int)-((atR (yO L) k:Nat):Int))=(c:Int):=by rw[kQ (by omega) (by omega)];omega
  rw[zJ (x':=(((atR (yO L) (k+1):Nat):Int),k+1)) (by
   show wC L (zA3 L) false ((atR (yO L) k:Nat):Int) k=_;unfold wC;rw[yI z,cond_true,zK (k:=atR (yO L) k) (by omega),O,zA,zP z,zA,Z,hw,hy,zA,show goB false (zA3 L).length k=true from rfl,Bool.not_true,cond_false,a3])]
  exact rn0 hL m (k+1) (by omega)
theorem yFO {L:List Int} (k:L.length≤1000000):zBQ (zA3 L) false L=some ():=by unfold zBQ;have h:=rn0 k (yO L).length 0 (by omega);rw[show ((atR (yO L) 0:Nat):Int)=0 from rfl] at h;rw[h,zA,Sum.elim_inl];unfold zVG;rw[if_pos (by rw[zIV,List.length_map])]
theorem zP2 (l:List Int):(plain l).length=l.length:=by simp[plain]
theorem zP3 {l:List Int} (O:l.length≤1000000) (c:Int):jY l c=some (pk (zBL c) (plain l)):=by
 unfold jY;have G:=pk0 O l.length 0 (by omega);rw[show ((0:Nat):Int)=0 from rfl,show cw l 0=List.replicate l.length 0 by simp[cw]] at G;have H:(plain l).length≤1000000:=by rw[zP2];exact O
 have T:=yFM (body:=fun (s:Int×(List Int)) (x:Int×Int)=>wJ (zBL c) (plain l) s.1 s.2 x) (fun k=>(((atR (yO (plain l)) k:Nat):Int),zSD (zBL c) (yO (plain l)) k)) (zA3 (plain l)) 0 (fun i x Y=>by
  rw[zIV,List.getElem?_map,Option.map_eq_some_iff] at Y;obtain⟨⟨v,n⟩,z,rfl⟩:=Y;rw[Nat.zero_add];exact pkR (zNB c) H (fun v z=>z3I z) z)
 rw[zQ9,zA,zZC (by omega),zA,G,zA];rw[show (((atR (yO (plain l)) 0:Nat):Int),zSD (zBL c) (yO (plain l)) 0)=((0:Int),([]:List Int)) by rfl] at T;have h:(zA3 (plain l)).length=(yO (plain l)).length:=by rw[zIV,List.length_map]
 rw[T,zA];show (zBQ ((zA3 (plain l)).take (zA3 (plain l)).length) (!true) (plain l)).bind _=_;rw[List.take_length,Bool.not_true,yFO H,zA];show some (zSD (zBL c) (yO (plain l)) (0+(zA3 (plain l)).length))=_;rw[Nat.zero_add,h,z3H]
end Go.M


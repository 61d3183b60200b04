/- What the plain counterparts answer. Conditions: none. -/
import Derived.Test.YtoekgplgehlpjaaGreatDoorPu1
set_option linter.unusedSimpArgs false
set_option linter.unusedVariables false
set_option linter.unnecessarySimpa false
namespace Go.M
open Go.AV
open Classical in
noncomputable def xH (n:Norm):List Span:=if VD0 n then n.Classes else []
theorem yC1:CV []:=⟨fun k h=>(by cases h),fun k h=>(by cases h),fun k h=>(by cases h)⟩
theorem z2G (n:Norm):CV (xH n):=by unfold xH;split;rename_i h;exact h.cv;exact yC1
theorem zQQ {n:Norm} (hs:NSm n):(xH n).length≤40:=by unfold xH;split;exact hs.cl;simp
def zVM (l:List Span) (t:Int):Int:=l.foldl (fun t s=>max t s.Value) t
def zMV (c:Collation) (l:List Span):Colltable_table:={zQL c with classes:=l,top:=zVM l 0}
theorem yC2 {l:List Span} (hl:l.length≤2000):∀(d k:Nat) (t:Int),l.length - k=d→k≤l.length→zE (fun (x:Int×Int)=>jO l x.1 x.2) ((k:Int),t)=some (zVM (l.drop k) t):=by
 intro d
 induction d with
 | zero=>
  intro k t h1 h2;rw [List.drop_of_length_le (by omega)];refine zL ?_;simp only [jO,kO (show l.length≤k by omega),cond_false];rfl
 | succ d ih=>
  intro k t h1 h2;have hk:k < l.length:=by omega
  rw [List.drop_eq_getElem_cons hk];rw [zR (x':=(((k+1:Nat):Int),max t l[k].Value)) (by simp only [jO,yV hk,cond_true,zU hk,zA,zO (k:=k) (by omega)])];exact ih (k+1) _ (by omega) (by omega)
theorem yGW {c:Collation} {n:Norm} (hs:NSm n) (hok:vZ n):uC (zQL c) n=some (zMV c (xH n)):=by
 obtain ⟨e,he,hp⟩:=yCS hs hok;unfold uC;rw [he,zA];have h1:(cond (decide (e=0)) (some n.Classes) (some (zQL c).classes):Option (List Span))=some (xH n):=by
  unfold xH;by_cases h:e=0;rw [if_pos (hp.1 h)];simp [h];rw [if_neg (fun hh=>h (hp.2 hh))];simp [h,zQL]
 rw [h1,zA];have h2:=yC2 (l:=xH n) (by have:=zQQ hs;omega) (xH n).length 0 0 (by omega) (by omega)
 rw [List.drop_zero] at h2;have h2':zE (fun (x:Int×Int)=>jO (xH n) x.1 x.2) (0,(zQL c).top)=some (zVM (xH n) 0):=h2;rw [h2'];rfl
theorem zMW {c:Collation} (hs:Sm c) {l:List Span} {codes:List Int}:jQ (zMV c l) codes=some (zD9 (yT c).Entries codes):=yGC hs (codes:=codes)
theorem zNE {c:Collation} {l:List Span} (h:CV l) (hl:l.length≤2000) (x:Int):w9 (zMV c l) x=some (clE l x):=by
 obtain ⟨j,hj,hr,hlo,hhi⟩:=zSG (n:=l.length) hl (body:=fun (q:Int×Int)=>zB5 (fun x0=>wE x0 (zMV c l) x) q.1 q.2) (fun k=>decide (x≤(nth l k).Hi))
  (fun k _=>by simp only [zB5,kO (Nat.le_refl _),cond_false])
  (fun lo hi h1 h2=>by
   have hm:(lo+hi) / 2 < l.length:=by omega
   have hi1:z7 (zMV c l).classes (((lo+hi) / 2:Nat):Int)=some (nth l ((lo+hi) / 2)):=z5 hm;simp only [zB5,yV h1,cond_true,zMU (show lo+hi≤4611686018427387903 by omega),wE,hi1,zA,zO (k:=(lo+hi) / 2) (by omega)];by_cases hc:x≤(nth l ((lo+hi) / 2)).Hi <;> simp [hc])
  (fun i j hij hj hi=>by
   have:=h.hi hij hj;simp only [decide_eq_true_eq] at hi ⊢;omega)
 simp only [decide_eq_false_iff_not,decide_eq_true_eq] at hlo hhi;unfold w9 zJF;have e0:(zMV c l).classes=l:=rfl;rw [e0,hr,yIB h hj (fun k hk=>by have:=hlo k hk;omega) hhi]
 simp only [zA,zQ];by_cases hn:j < l.length;simp only [yV hn,xC,z5 hn,zA,Bool.true_and,hn,true_and];by_cases hc2:(nth l j).Lo≤x <;> simp [hc2];simp only [kO (show l.length≤j by omega),vB,zA,Bool.false_and,cond_false,hn,false_and,if_false]
theorem z43:∀(l:List Span) (t:Int),t≤zVM l t∧∀s∈l,s.Value≤zVM l t
 | [],t=>⟨Int.le_refl _,fun s h=>by cases h⟩
 | x::l,t=>by
  have ih:=z43 l (max t x.Value);refine ⟨by show t≤zVM l (max t x.Value);omega,fun s hs=>?_⟩
  show s.Value≤zVM l (max t x.Value);rcases List.mem_cons.1 hs with rfl | hs
  omega;exact ih.2 s hs
theorem yMF {l:List Span} (x:Int):clE l x≤zVM l 0:=by
 unfold clE;cases hf:l.find? (zR5 x) with
 | none=>exact (z43 l 0).1
 | some s=>exact (z43 l 0).2 s (List.mem_of_find?_eq_some hf)
theorem yMG {l:List Span} (h:CV l) (x:Int):0≤clE l x:=by
 unfold clE;cases hf:l.find? (zR5 x) with
 | none=>exact Int.le_refl _
 | some s=>
  have:=List.mem_of_find?_eq_some hf;obtain ⟨k,hk,rfl⟩:=List.getElem_of_mem this;have:=h.sp k hk;rw [zCN hk] at this;unfold spOk at this;show 0≤(l[k]).Value;omega
def zJR (p:Nat→Bool):Nat→Nat
 | 0=>0
 | k+1=>if p (k+1) then k+1 else zJR p k
theorem zPQ (p:Nat→Bool):∀k,zJR p k≤k
 | 0=>Nat.le_refl _
 | k+1=>by unfold zJR;split;omega;have:=zPQ p k;omega
theorem zW1 {p : Nat → Bool} {m : Nat} : ∀ {k : Nat}, m ≤ k → (∀ j, m < j → j ≤ k → p j = false) → zJR p k = zJR p m
  | 0, h, _ => by have : m = 0 := by omega
                  rw [this]
  | k + 1, h, hp => by
    by_cases e : m = k + 1
    · rw [e]
    · unfold zJR
      rw [hp (k + 1) (by omega) (Nat.le_refl _)];simp only [Bool.false_eq_true, if_false];rw [zW1 (m := m) (by omega) fun j h1 h2 => hp j h1 (by omega)];cases m <;> rfl
def pfx (es:List Entry) (text:List Int) (k:Nat):Bool:=(zD9 es (text.take k)).2
def uV (es:List Entry) (text:List Int):Nat:=zJR (pfx es text) text.length
def zEE (fd:List Int→Bool) (cl:Int→Int):List Int→List Int→List Int→Int→List Int×List Int
 | [],p,s,_=>(p,s)
 | x::r,p,s,h=>if cl x=0 then (p,s++x::r) else if fd (p++ [x])&&decide (h < cl x) then zEE fd cl r (p++ [x]) s h else zEE fd cl r p (s++ [x]) (max h (cl x))
theorem zW2 {fd:List Int→Bool} {cl:Int→Int}:∀(r p s:List Int) (h:Int),(∀x,cl x≤h)→zEE fd cl r p s h=(p,s++r)
 | [],p,s,h,_=>by simp [zEE]
 | x::r,p,s,h,hc=>by
  have hx:=hc x;unfold zEE;split;rfl;have e:decide (h < cl x)=false:=by simp;omega
  rw [e,Bool.and_false,if_neg (by simp),zW2 r p (s++ [x]) (max h (cl x)) (fun y=>by have:=hc y;omega)]
  simp
theorem zPR {fd:List Int→Bool} {cl:Int→Int}:∀(r p s:List Int) (h:Int),p.length≤(zEE fd cl r p s h).1.length∧(zEE fd cl r p s h).1.length+(zEE fd cl r p s h).2.length=p.length+s.length+r.length∧((zEE fd cl r p s h).1.length=p.length→zEE fd cl r p s h=(p,s++r))
 | [],p,s,h=>by simp [zEE]
 | x::r,p,s,h=>by
  unfold zEE;split;refine ⟨Nat.le_refl _,by simp;omega,fun _=>rfl⟩
  split;have ih:=zPR (fd:=fd) (cl:=cl) r (p++ [x]) s h;simp only [List.length_append,List.length_cons,List.length_nil] at ih ⊢;exact ⟨by omega,by omega,fun e=>by omega⟩;have ih:=zPR (fd:=fd) (cl:=cl) r p (s++ [x]) (max h (cl x));simp only [List.length_append,List.length_cons,List.length_nil] at ih ⊢;refine ⟨ih.1,by omega,fun e=>?_⟩;rw [ih.2.2 e];simp
section
variable {c:Collation} (hs:Sm c) {l:List Span} (hcv:CV l) (hl:l.length≤2000)
include hs
theorem mL0 {text:List Int} (ht:text.length≤2000):∀k,k≤text.length→zE (fun (x:Int)=>k6 text (zMV c l) x) (k:Int)=some ((zJR (pfx (yT c).Entries text) k:Nat):Int)
 | 0,_=>by
  refine zL ?_;have:decide ((0:Int) < ((0:Nat):Int))=false:=rfl;simp only [k6,this,cond_false];rfl
 | k+1,hk=>by
  have hd:decide ((0:Int) < ((k+1:Nat):Int))=true:=by simp <;> omega
  have ih:=mL0 ht k (by omega);unfold zJR;cases hp:pfx (yT c).Entries text (k+1) with
  | true=>
   rw [if_pos rfl];refine zL ?_;unfold pfx at hp;simp only [k6,hd,cond_true,zEU hk,zA,zMW hs,hp]
  | false=>
   rw [if_neg (by simp),←ih];refine zR ?_;unfold pfx at hp;simp only [k6,hd,cond_true,zEU hk,zA,zMW hs,hp,cond_false,zCX (k:=k) (by omega)]
omit hs in
theorem yC3 {text:List Int} {k:Nat} (hk:k≤text.length) (h:zPM (yT c).Entries 0 < (k:Int)):pfx (yT c).Entries text k=false:=by
 have h1:=zYQ (yT c).Entries 0;unfold pfx zD9;have:(yT c).Entries.find? (fun x=>decide (x.Codes=text.take k))=none:=by
  rw [List.find?_eq_none];intro x hx;simp only [decide_eq_true_eq];intro e;have h2:=h1.2 x hx;rw [e] at h2;have:(text.take k).length=k:=by simp;omega
  omega
 rw [this]
theorem yKA {text:List Int} (ht:text.length≤2000):zE (fun (x:Int)=>k6 text (zMV c l) x) (min (zMV c l).longest (text.length:Int))=some ((uV (yT c).Entries text:Nat):Int):=by have h1:=zYQ (yT c).Entries 0;have e:(zMV c l).longest=zPM (yT c).Entries 0:=rfl;rw [e];obtain ⟨m,hm⟩:∃m:Nat,min (zPM (yT c).Entries 0) (text.length:Int)=(m:Int):=⟨(min (zPM (yT c).Entries 0) (text.length:Int)).toNat,by omega⟩;rw [hm,mL0 hs ht m (by omega)];unfold uV;rw [zW1 (p:=pfx (yT c).Entries text) (m:=m) (k:=text.length) (by omega) fun j h2 h3=>yC3 h3 (by omega)]
omit hs in
theorem yKB {p s r:List Int} {x:Int}:u7 (cpM (p++s++x::r) ((p.length+1:Nat):Int) ((p.length+s.length+1:Nat):Int) (p.length:Int) ((p.length+s.length:Nat):Int)) (p.length:Int) x=some ((p++ [x])++s++r):=by
 have e1:((p++s++x::r).drop p.length).take (p.length+s.length - p.length)=s:=by
  rw [List.append_assoc,List.drop_left];have:p.length+s.length - p.length=s.length:=by omega
  rw [this,List.take_left]
 have e2:min (p.length+s.length - p.length) (p.length+s.length+1 - (p.length+1))=s.length:=by omega
 unfold cpM;simp only [Int.toNat_natCast];rw [e1,e2,List.take_of_length_le (Nat.le_refl _)];cases s with
 | nil=>
  have hx:(p++ []++x::r)=p++x::r:=by simp
  rw [hx];have e3:(p++x::r).take (p.length+1)=p++ [x]:=by
   rw [List.take_append,List.take_of_length_le (by omega)];simp
  have e4:(p++x::r).drop (p.length+1+([]:List Int).length)=r:=by
   rw [List.drop_append,List.drop_of_length_le (by simp)];simp
  rw [e3,e4];have:p++ [x]++ []++r=p++x::r:=by simp
  rw [this,uZ rfl]
 | cons y s=>
  have hx:(p++(y::s)++x::r)=p++y::(s++x::r):=by simp
  rw [hx];have e3:(p++y::(s++x::r)).take (p.length+1)=p++ [y]:=by
   rw [List.take_append,List.take_of_length_le (by omega)];simp
  have e4:(p++y::(s++x::r)).drop (p.length+1+(y::s).length)=r:=by
   have:p++y::(s++x::r)=(p++y::(s++ [x]))++r:=by simp
   rw [this,List.drop_left' (by simp;omega)]
  rw [e3,e4];have:p++ [y]++(y::s)++r=p++y::((y::s)++r):=by simp
  rw [this,uZ rfl];simp
include hcv hl
theorem mL1:∀(r p s:List Int) (h:Int),p.length+s.length+r.length≤2000→
    zE (fun (x:Int×Int×Int×(List Int))=>kF (zMV c l) x.1 x.2.1 x.2.2.1 x.2.2.2) ((p.length:Int),h,((p.length+s.length:Nat):Int),p++s++r)=
      some ((((zEE (fun q=>(zD9 (yT c).Entries q).2) (clE l) r p s h).1.length:Nat):Int),(zEE (fun q=>(zD9 (yT c).Entries q).2) (clE l) r p s h).1++(zEE (fun q=>(zD9 (yT c).Entries q).2) (clE l) r p s h).2)
  | [],p,s,h,_=>by
    refine zL ?_;have:decide (((p.length+s.length:Nat):Int) < ((p++s++ []).length:Int))=false:=by simp
    simp only [kF,zQ,this,Bool.false_and,cond_false];simp [zEE]
  | x::r,p,s,h,hn=>by
    simp only [List.length_cons] at hn;have hd:decide (((p.length+s.length:Nat):Int) < ((p++s++x::r).length:Int))=true:=by simp <;> omega
    have hi:z7 (p++s++x::r) ((p.length+s.length:Nat):Int)=some x:=wT (by simp);have etop:(zMV c l).top=zVM l 0:=rfl;by_cases htop:h < zVM l 0
    · have hd2:decide (h < (zMV c l).top)=true:=by rw [etop];simpa using htop
      by_cases h0:clE l x=0
      · refine zL ?_
        simp only [kF,zQ,hd,hd2,Bool.and_self,cond_true,hi,zA,zNE hcv hl,h0,decide_true,Sum.elim_inl];unfold zEE;rw [if_pos h0];simp
      · unfold zEE
        rw [if_neg h0];by_cases hk:clE l x≤h
        · have e:decide (h < clE l x)=false:=by simp;omega
          rw [e,Bool.and_false,if_neg (by simp)];rw [zR (x':=((p.length:Int),h,((p.length+(s++ [x]).length:Nat):Int),p++(s++ [x])++r)) (by
            have e2:p++(s++ [x])++r=p++s++x::r:=by simp
            have e3:p.length+(s++ [x]).length=p.length+s.length+1:=by simp;omega
            rw [e2,e3];simp only [kF,zQ,hd,hd2,Bool.and_self,cond_true,hi,zA,zNE hcv hl,h0,hk,decide_true,decide_false,cond_false,Sum.elim_inr,zO (k:=p.length+s.length) (by omega)])]
          have:=mL1 r p (s++ [x]) h (by simp;omega)
          rw [show max h (clE l x)=h by omega];exact this
        · have e:decide (h < clE l x)=true:=by simp;omega
          rw [e,Bool.and_true];have s1:slc (p++s++x::r) 0 (p.length:Int)=some p:=by
            rw [zEU (by simp)];simp
          have a1:app p [x]=some (p++ [x]):=xN (by simp;omega)
          cases hf:(zD9 (yT c).Entries (p++ [x])).2 with
          | false=>
            rw [if_neg (by simp)];rw [zR (x':=((p.length:Int),clE l x,((p.length+(s++ [x]).length:Nat):Int),p++(s++ [x])++r)) (by
              have e2:p++(s++ [x])++r=p++s++x::r:=by simp
              have e3:p.length+(s++ [x]).length=p.length+s.length+1:=by simp;omega
              rw [e2,e3];simp only [kF,zQ,hd,hd2,Bool.and_self,cond_true,hi,zA,zNE hcv hl,h0,hk,decide_false,cond_false,s1,a1,zMW hs,hf,Bool.not_false,Sum.elim_inr,zO (k:=p.length+s.length) (by omega)])]
            have:=mL1 r p (s++ [x]) (clE l x) (by simp;omega)
            rw [show max h (clE l x)=clE l x by omega];exact this
          | true=>
            rw [if_pos rfl];have sc1:∃q,slc (p++s++x::r) ((p.length+1:Nat):Int) ((p.length+s.length+1:Nat):Int)=some q:=⟨_,zYL (by omega) (by simp;omega)⟩
            have sc2:∃q,slc (p++s++x::r) (p.length:Int) ((p.length+s.length:Nat):Int)=some q:=⟨_,zYL (by omega) (by simp)⟩;obtain ⟨q1,hq1⟩:=sc1;obtain ⟨q2,hq2⟩:=sc2;have hcp:=yKB (p:=p) (s:=s) (r:=r) (x:=x);obtain ⟨_,_,hlt⟩:=zM2 hcp;have hix:∃q,z7 (cpM (p++s++x::r) ((p.length+1:Nat):Int) ((p.length+s.length+1:Nat):Int) (p.length:Int) ((p.length+s.length:Nat):Int)) (p.length:Int)=some q:=⟨_,zU (by simpa using hlt)⟩;obtain ⟨q3,hq3⟩:=hix;rw [zR (x':=(((p++ [x]).length:Int),h,(((p++ [x]).length+s.length:Nat):Int),(p++ [x])++s++r)) (by
              have e3:(p++ [x]).length+s.length=p.length+s.length+1:=by simp;omega
              have e4:(p++ [x]).length=p.length+1:=by simp
              rw [e3,e4];simp only [kF,zQ,hd,hd2,Bool.and_self,cond_true,hi,zA,zNE hcv hl,h0,hk,decide_false,cond_false,s1,a1,zMW hs,hf,Bool.not_true,zO (k:=p.length+s.length) (by omega),zO (k:=p.length) (by omega),hq1,hq2,hq3,hcp,Sum.elim_inr])]
            exact mL1 r (p++ [x]) s h (by simp;omega)
    · have hd2:decide (h < (zMV c l).top)=false:=by rw [etop];simpa using htop
      have hm:=zW2 (fd:=fun q=>(zD9 (yT c).Entries q).2) (cl:=clE l) (x::r) p s h (fun y=>by have:=yMF (l:=l) y;omega)
      rw [hm];refine zL ?_;simp only [kF,zQ,hd,hd2,Bool.and_false,cond_false,List.append_assoc]
noncomputable def stE (c:Collation) (l:List Span) (text:List Int):Int×List Int×List Element:=if uV (yT c).Entries text=0 then (1,text.drop 1,zVK (yT c) (nth text 0)) else
 ((((zEE (fun q=>(zD9 (yT c).Entries q).2) (clE l) (text.drop (uV (yT c).Entries text)) (text.take (uV (yT c).Entries text)) [] 0).1.length:Nat):Int),(zEE (fun q=>(zD9 (yT c).Entries q).2) (clE l) (text.drop (uV (yT c).Entries text)) (text.take (uV (yT c).Entries text)) [] 0).2,(zD9 (yT c).Entries (zEE (fun q=>(zD9 (yT c).Entries q).2) (clE l) (text.drop (uV (yT c).Entries text)) (text.take (uV (yT c).Entries text)) [] 0).1).1)
theorem yC4 {text:List Int} (ht:text.length≤2000) (h0:text≠[]):∃seq,vA (zMV c l) text=some ((stE c l text).1,(stE c l text).2.2,decide (uV (yT c).Entries text≠0),seq)∧slc seq (stE c l text).1 (seq.length:Int)=some (stE c l text).2.1:=by
 unfold vA;rw [yKA hs ht,zA];have hpos:0 < text.length:=List.length_pos_iff.2 h0;by_cases hz:uV (yT c).Entries text=0;have e1:decide (((uV (yT c).Entries text:Nat):Int)=0)=true:=by simp [hz]
 have i0:z7 text (0:Int)=some (nth text 0):=z5 (k:=0) hpos;have hst:stE c l text=(1,text.drop 1,zVK (yT c) (nth text 0)):=by unfold stE;rw [if_pos hz]
 have him:j6 (zMV c l) (nth text 0)=some (zVK (yT c) (nth text 0)):=z10 c (nth text 0);rw [e1,cond_true,i0,zA,him,zA,hst];refine ⟨text,?_,?_⟩;simp [hz];exact zMQ (l:=text) (a:=1) (by omega);have e1:decide (((uV (yT c).Entries text:Nat):Int)=0)=false:=by simp;omega
 rw [e1,cond_false];have hle:uV (yT c).Entries text≤text.length:=zPQ _ _;have h1:=mL1 hs hcv hl (text.drop (uV (yT c).Entries text)) (text.take (uV (yT c).Entries text)) [] 0 (by simp;omega)
 have e2:(text.take (uV (yT c).Entries text)).length=uV (yT c).Entries text:=by simp;omega
 have e3:text.take (uV (yT c).Entries text)++ []++text.drop (uV (yT c).Entries text)=text:=by simp
 rw [e3,e2] at h1;simp only [List.length_nil,Nat.add_zero] at h1;rw [h1,zA];have hst:stE c l text=((((zEE (fun q=>(zD9 (yT c).Entries q).2) (clE l) (text.drop (uV (yT c).Entries text)) (text.take (uV (yT c).Entries text)) [] 0).1.length:Nat):Int),(zEE (fun q=>(zD9 (yT c).Entries q).2) (clE l) (text.drop (uV (yT c).Entries text)) (text.take (uV (yT c).Entries text)) [] 0).2,(zD9 (yT c).Entries (zEE (fun q=>(zD9 (yT c).Entries q).2) (clE l) (text.drop (uV (yT c).Entries text)) (text.take (uV (yT c).Entries text)) [] 0).1).1):=by unfold stE;rw [if_neg hz]
 rw [hst];generalize zEE (fun q=>(zD9 (yT c).Entries q).2) (clE l) (text.drop (uV (yT c).Entries text)) (text.take (uV (yT c).Entries text)) [] 0=q;have s1:slc (q.1++q.2) 0 ((q.1.length:Nat):Int)=some q.1:=by rw [zEU (by simp)];simp
 simp only [s1,zA,zMW hs];refine ⟨q.1++q.2,?_,?_⟩;simp [hz];rw [zMQ (by simp)];simp
end
end Go.M
namespace Go.M
open Go.AV
def n0:Norm:={Classes:=[{Lo:=769,Hi:=769,Value:=230},{Lo:=803,Hi:=803,Value:=220}],Decomp:=[],Excluded:={Ranges:=[]}}
def c0:Collation:={Entries:=[{Codes:=[97],Elements:=[{Primary:=7,Secondary:=1,Tertiary:=1,Variable:=false}]},{Codes:=[97,769],Elements:=[{Primary:=8,Secondary:=1,Tertiary:=1,Variable:=false}]}],Groups:=[],Base:=100,Second:=1,Third:=1}
end Go.M
namespace Go.M
open Go.AV
theorem yC5 {n:Norm} (h:DS n.Decomp) (hl:n.Decomp.length≤2000) (c:Int) (b:Bool):uB n c b=some (if syl c=true then (hdE c,true) else ((fnB n.Decomp b c).getD [],(fnB n.Decomp b c).isSome)):=by
 unfold uB;rw [zNB,zA];by_cases hs:syl c=true;have e:decide (4≤hkE c)=true:=by simpa using (zH4 c).1 hs
 simp only [e,cond_true,z6A hs,zA,hs,if_true];have e:decide (4≤hkE c)=false:=by simp only [decide_eq_false_iff_not];exact fun hh=>hs ((zH4 c).2 hh)
 simp only [Bool.not_eq_true] at hs;simp only [e,cond_false,hs,Bool.false_eq_true,if_false];obtain ⟨i,hb,hp⟩:=z6C h hl c;rw [hb];simp only [zA,zQ];unfold fnB;cases hf:n.Decomp.find? (isF c) with
 | none=>simp [vB]
 | some m=>
  obtain ⟨h1,h2⟩:=hp m hf;simp only [Option.isSome_some,Bool.not_true,Bool.not_false,xC,z5 h1,h2,zA,Bool.false_or];cases b <;> cases hm:(m.Tag== []) <;> simp [hm]
section
variable {n:Norm} {b:Bool} (hd:DS n.Decomp) (hl:n.Decomp.length≤2000) (hD:∀c,DD n.Decomp n.Decomp.length c) (hw:∀c,(fu n.Decomp b c).length≤64)
def XOk (l:List Mapping) (b:Bool) (m:List (Int×List Int)):Prop:= ∀k v,mget m k=some v→v=fu l b k
def z6N (l:List Mapping) (f:Nat) (c:Int):Prop:=(∃k,DD l k c∧k+2≤f)∨(l.find? (isF c)=none∧syl c=false∧1≤f)
include hw in
theorem yKC {f:Nat} (ih:∀c m,XOk n.Decomp b m→z6N n.Decomp f c→∃m',kK f c m n b=some (fu n.Decomp b c,m')∧XOk n.Decomp b m') (L:List Int) (hL:L.length≤2000) (hn:∀e∈L,z6N n.Decomp f e):
  ∀(d i:Nat) (acc:List Int) (m:List (Int×List Int)),L.length - i=d→i≤L.length→acc.length≤64*i→XOk n.Decomp b m→
   ∃m',zE (fun (x:Int×(List Int)×(List (Int×(List Int))))=>jB (L,true) (kK f) n b x.1 x.2.1 x.2.2) ((i:Int),acc,m)=some (acc++(L.drop i).flatMap (fu n.Decomp b),m')∧XOk n.Decomp b m':=by
 intro d
 induction d with
 | zero=>
  intro i acc m h1 h2 h3 h4;refine ⟨m,?_,h4⟩;refine zL ?_;rw [List.drop_of_length_le (show L.length≤i by omega)];simp only [jB,kO (show L.length≤i by omega),cond_false,List.flatMap_nil,List.append_nil]
 | succ d ihd=>
  intro i acc m h1 h2 h3 h4;have hi:i < L.length:=by omega
  obtain ⟨m1,hr,r1⟩:=ih L[i] m h4 (hn _ (List.getElem_mem hi));have hw1:=hw L[i];have ha:app acc (fu n.Decomp b L[i])=some (acc++fu n.Decomp b L[i]):=xN (by omega);rw [zR (x':=(((i+1:Nat):Int),acc++fu n.Decomp b L[i],m1)) (by
   simp only [jB,yV hi,cond_true,zU hi,zA,hr,ha,zO (k:=i) (by omega)])]
  obtain ⟨m2,hq,q1⟩:=ihd (i+1) (acc++fu n.Decomp b L[i]) m1 (by omega) (by omega) (by rw [List.length_append];omega) r1
  refine ⟨m2,?_,q1⟩;rw [hq,List.drop_eq_getElem_cons hi,List.flatMap_cons,List.append_assoc]
include hd hl hD hw in
theorem yMH:∀(f:Nat) (c:Int) (m:List (Int×List Int)),XOk n.Decomp b m→z6N n.Decomp f c→∃m',kK f c m n b=some (fu n.Decomp b c,m')∧XOk n.Decomp b m':=by
 intro f
 induction f with
 | zero=>intro c m _ hn;exfalso;rcases hn with ⟨k,_,h⟩ | ⟨_,_,h⟩ <;> omega
 | succ f ih=>
  intro c m hm hn;show ∃m',wM (kK f) c m n b=some _∧_;unfold wM;cases hh:zC1 m c with
  | true=>
   obtain ⟨v,hv⟩:=Option.isSome_iff_exists.1 hh;have hg:zAT m c []=v:=by unfold zAT;rw [hv];rfl
   rw [cond_true,hg,hm c v hv];exact ⟨m,rfl,hm⟩
  | false=>
   rw [cond_false,yC5 hd hl,zA];have fin:∀(L:List Int),L.length≤2000→(∀e∈L,z6N n.Decomp f e)→L.flatMap (fu n.Decomp b)=fu n.Decomp b c→∃m',(cond (!((L,true):List Int×Bool).2) (some ([c],m)) ((zE (fun (x:Int×(List Int)×(List (Int×(List Int))))=>jB (L,true) (kK f) n b x.1 x.2.1 x.2.2) (0,[],m)).bind fun (y1:(List Int)×(List (Int×(List Int))))=>some (y1.1,zAV y1.2 c y1.1)))=some (fu n.Decomp b c,m')∧XOk n.Decomp b m':=by
    intro L hL hne hfl;obtain ⟨m1,hq,q1⟩:=yKC hw ih L hL hne L.length 0 [] m (by omega) (by omega) (by simp) hm;rw [List.drop_zero,List.nil_append,hfl] at hq;have hq':zE (fun (x:Int×(List Int)×(List (Int×(List Int))))=>jB (L,true) (kK f) n b x.1 x.2.1 x.2.2) (0,[],m)=some (fu n.Decomp b c,m1):=hq;simp only [Bool.not_true,cond_false];rw [hq'];refine ⟨zAV m1 c (fu n.Decomp b c),rfl,fun k v hk=>?_⟩;rw [wH] at hk;split at hk;rename_i hx;cases hk;rw [hx];exact q1 k v hk
   cases hs:syl c with
   | true=>
    simp only [if_true];have hnone:=z2B hd hs;have hpt:∀e∈hdE c,n.Decomp.find? (isF e)=none∧syl e=false:=by
     intro e he;obtain ⟨p1,p2⟩:=zT8 hs he;refine ⟨?_,p1⟩;cases hf2:n.Decomp.find? (isF e) with
     | none=>rfl
     | some m=>obtain ⟨q1,rfl⟩:=zGT hf2;exact absurd (hd.hk m q1) p2
    refine fin (hdE c) (by have:=zOD c;omega) (fun e he=>?_) ?_
    obtain ⟨p1,p2⟩:=hpt e he;refine .inr ⟨p1,p2,?_⟩;rcases hn with ⟨k,_,h⟩ | ⟨_,h,_⟩;omega;rw [hs] at h;cases h;have h1:fu n.Decomp b c=hdE c:=by rw [zRH hD,zIX hnone]
    rw [h1];have:∀L:List Int,(∀e∈L,n.Decomp.find? (isF e)=none∧syl e=false)→L.flatMap (fu n.Decomp b)=L:=by
     intro L
     induction L with
     | nil=>intro _;rfl
     | cons x L ihL=>
      intro h;obtain ⟨p1,p2⟩:=h x (by simp);have hx:fu n.Decomp b x= [x]:=by rw [zRH hD,zIX p1];show hdE x= [x];unfold hdE;rw [if_neg (by simp [p2])]
      rw [List.flatMap_cons,hx,ihL fun e he=>h e (by simp [he])];rfl
    exact this _ hpt
   | false=>
    simp only [Bool.false_eq_true,if_false];cases hf:fnB n.Decomp b c with
    | none=>
     simp only [Option.getD_none,Option.isSome_none,Bool.not_false,cond_true];refine ⟨m,?_,hm⟩;rw [zRH hD,hf];have:hdE c= [c]:=by unfold hdE;rw [if_neg (by simp [hs])]
     simp only [this]
    | some to=>
     simp only [Option.getD_some,Option.isSome_some];obtain ⟨mm,h1,rfl,_⟩:=zKJ hf;obtain ⟨h2,_⟩:=zGT h1;refine fin mm.To (hd.len mm h2) (fun e he=>?_) (by rw [zRH hD c,hf]);rcases hn with ⟨k,hk,h⟩ | ⟨h,_,_⟩
     cases k with
     | zero=>have:n.Decomp.find? (isF c)=none:=hk;rw [this] at h1;cases h1
     | succ k=>exact .inl ⟨k,hk mm h1 e he,by omega⟩
     rw [h] at h1;cases h1
end
noncomputable def usN (n:Norm):Norm:=open Classical in if VD0 n then n else {Classes:=[],Decomp:=[],Excluded:={Ranges:=[]}}
structure GN (n:Norm):Prop where
 ds:DS n.Decomp
 cv:CV n.Classes
 H:∀m∈n.Decomp,WW n.Decomp m.From
 w:∀m∈n.Decomp,wt n.Decomp true m.From≤64
 cl:n.Classes.length≤40
 de:n.Decomp.length≤40
 ok:∀x∈n.Classes,okSpan x
theorem zYY {n:Norm} (hs:NSm n) (hok:vZ n):GN (usN n):=by
 unfold usN;split;rename_i h;obtain ⟨h1,h2⟩:=(yCY h.ds (by have:=hs.de;omega)).1 h.ms
 exact ⟨h.ds,h.cv,h1,h2,hs.cl,hs.de,hok.1.2⟩;exact ⟨⟨fun k hk=>(by cases hk),fun m hm=>(by cases hm),fun m hm=>(by cases hm)⟩,yC1,fun m hm=>(by cases hm),fun m hm=>(by cases hm),by simp,by simp,fun x hx=>by cases hx⟩
theorem GN.dd {n:Norm} (h:GN n):∀c,DD n.Decomp n.Decomp.length c:=zUB h.ds h.H
theorem GN.len {n:Norm} (h:GN n) (b:Bool) (c:Int):(fu n.Decomp b c).length≤64:=yJ6 h.ds (yJ7 h.ds h.H h.w) b c
theorem GN.ex {n:Norm} (h:GN n) {b:Bool} (c:Int) (m:List (Int×List Int)) (hm:XOk n.Decomp b m):∃m',kK 100 c m n b=some (fu n.Decomp b c,m')∧XOk n.Decomp b m':=
 yMH h.ds (by have:=h.de;omega) h.dd (h.len b) 100 c m hm (.inl ⟨_,h.dd c,by have:=h.de;omega⟩)
theorem yGX {n:Norm} (hs:NSm n) (hok:vZ n):zAF n=some (usN n):=by obtain ⟨e,he,hv⟩:=yCS hs hok;unfold zAF usN;rw [he,zA];by_cases hz:e=0;rw [if_pos (hv.1 hz)];simp [hz];rw [if_neg (fun h=>hz (hv.2 h))];simp [hz]
theorem z2H {f:Int→List Int} {k:Nat} (h:∀e,(f e).length≤k):∀L:List Int,(L.flatMap f).length≤k*L.length
 | []=>by simp
 | x::L=>by have:=z2H h L;have:=h x;rw [List.flatMap_cons,List.length_append,List.length_cons,Nat.mul_succ];omega
theorem z9B {n:Norm} (h:GN n) {b:Bool} {text:List Int} (ht:text.length≤2000):∀(d i:Nat) (acc:List Int) (m:List (Int×List Int)),text.length - i=d→i≤text.length→acc.length≤64*i→XOk n.Decomp b m→
  zE (fun (x:Int×(List Int)×(List (Int×(List Int))))=>j9 text n b x.1 x.2.1 x.2.2) ((i:Int),acc,m)=some (acc++(text.drop i).flatMap (fu n.Decomp b)):=by
 intro d
 induction d with
 | zero=>
  intro i acc m h1 h2 h3 h4;refine zL ?_;rw [List.drop_of_length_le (show text.length≤i by omega)];simp only [j9,kO (show text.length≤i by omega),cond_false,List.flatMap_nil,List.append_nil]
 | succ d ih=>
  intro i acc m h1 h2 h3 h4;have hi:i < text.length:=by omega
  obtain ⟨m1,hr,r1⟩:=h.ex (b:=b) text[i] m h4;have hw1:=h.len b text[i];have ha:app acc (fu n.Decomp b text[i])=some (acc++fu n.Decomp b text[i]):=xN (by omega);rw [zR (x':=(((i+1:Nat):Int),acc++fu n.Decomp b text[i],m1)) (by
   simp only [j9,yV hi,cond_true,zU hi,zA,hr,ha,zO (k:=i) (by omega)])]
  rw [ih (i+1) (acc++fu n.Decomp b text[i]) m1 (by omega) (by omega) (by rw [List.length_append];omega) r1,List.drop_eq_getElem_cons hi,List.flatMap_cons,List.append_assoc]
noncomputable def zIY (n:Norm) (b:Bool) (text:List Int):List Int:=text.flatMap (fu (usN n).Decomp b)
theorem yGY {n:Norm} (hs:NSm n) (hok:vZ n) {text:List Int} (ht:text.length≤2000) (b:Bool):wN n text b=zBK (usN n).Classes (zIY n b text):=by have h:=zYY hs hok;unfold wN zCS;have hu:zAF {Classes:=n.Classes,Decomp:=n.Decomp,Excluded:={Ranges:=n.Excluded.Ranges}}=some (usN n):=yGX hs hok;have hlp:=z9B h (b:=b) ht text.length 0 [] [] (by omega) (by omega) (by simp) (fun k v h=>by cases h);rw [List.drop_zero,List.nil_append] at hlp;have hlp':zE (fun (x:Int×(List Int)×(List (Int×(List Int))))=>j9 text (usN n) b x.1 x.2.1 x.2.2) (0,[],[])=some (zIY n b text):=hlp;rw [hu,zA,zA,hlp',zA];cases zBK (usN n).Classes (zIY n b text) <;> rfl
end Go.M
namespace Go.M
open Go.AV
section
variable (key:Int→Int)
def ltK (a b:Int):Bool:=decide (key a < key b)
def ltC (a b:Int):Bool:=decide (0 < key a)&&decide (key a < key b)
def srt (l:List Int):List Int:=wJ (ltK key) l []
def csE (l:List Int):List Int:=wJ (ltC key) l []
def rsE:List Int→List Int→List Int
 | [],run=>srt key run
 | x::t,run=>if key x=0 then srt key run++x::rsE t [] else rsE t (run++ [x])
end
section
variable {key:Int→Int}
theorem yC6 (l:List Int) (x:Int):srt key (l++ [x])=vU (ltK key) (srt key l).reverse x []:=by unfold srt wJ;rw [List.foldl_append];rfl
theorem z6O (l:List Int):Flt key l (srt key l):=by have:=zND (key:=key) l [];exact this
theorem z6P (l:List Int):(srt key l).length=l.length:=(z6O l).len.symm
theorem z6Q {x:Int} (hx:0 < key x):∀(r q s:List Int),(∀y,q.head? =some y→key y=0)→vU (ltC key) (r++q) x s=q.reverse++vU (ltK key) r x s
 | [],q,s,hq=>by
  cases q with
  | nil=>rfl
  | cons y q=>
   have:ltC key x y=false:=by unfold ltC;rw [hq y rfl];simp;omega
   show vU (ltC key) (y::q) x s=_;simp only [vU,this,Bool.false_eq_true,if_false]
 | y::r,q,s,hq=>by
  have e:ltC key x y=ltK key x y:=by unfold ltC ltK;simp [hx]
  show vU (ltC key) (y::(r++q)) x s=q.reverse++vU (ltK key) (y::r) x s;simp only [vU,e];cases ltK key x y with
  | true=>simp only [if_true];exact z6Q hx r q (y::s) hq
  | false=>simp
theorem yC7 (hnn:∀x,0≤key x):∀(t run p:List Int),(∀y,p.reverse.head? =some y→key y=0)→wJ (ltC key) t (p++srt key run)=p++rsE key t run
  | [],run,p,_=>rfl
  | x::t,run,p,hp=>by
    show wJ (ltC key) t (vU (ltC key) (p++srt key run).reverse x [])=p++rsE key (x::t) run;by_cases h0:key x=0
    · have e:∀r:List Int,vU (ltC key) r x []=r.reverse++ [x]:=by
        intro r;cases r with
        | nil=>rfl
        | cons y r=>
          have:ltC key x y=false:=by unfold ltC;rw [h0];simp
          simp [vU,this]
      have ih:=yC7 hnn t [] (p++srt key run++ [x]) (fun y hy=>by simp at hy;rw [←hy];exact h0)
      have e2:srt key []= []:=rfl;rw [e2,List.append_nil] at ih;rw [e,List.reverse_reverse,ih];simp [rsE,h0]
    · have hx:0 < key x:=by have:=hnn x;omega
      rw [List.reverse_append,z6Q hx _ _ _ hp,List.reverse_reverse,←yC6,yC7 hnn t (run++ [x]) p hp];simp [rsE,h0]
theorem yKE (hnn:∀x,0≤key x) (t:List Int):csE key t=rsE key t []:=by have:=yC7 hnn t [] [] (fun y hy=>by cases hy);exact this
theorem yC8 (t:List Int):(csE key t).Perm t:=by have:=zIV (ltC key) t [];rw [List.nil_append] at this;exact this
theorem yG0 (t:List Int):(csE key t).length=t.length:=(yC8 t).length_eq
theorem z2I {f:List Int→Option (List Int)} {P run T r:List Int} (hpos:0 < run.length) (hf:f run=some r):zLF f (P++run++T) (P.length:Int) ((P.length+run.length:Nat):Int)=some (P++r++T):=by
 unfold zLF;have a1:((P.length:Int)).toNat=P.length:=by simp
 have a2:(((P.length+run.length:Nat):Int)).toNat=P.length+run.length:=by omega
 rw [a1,a2,if_pos ⟨by omega,by omega,by rw [List.length_append,List.length_append];omega⟩]
 have e1:((P++run++T).drop P.length).take (P.length+run.length - P.length)=run:=by
  rw [List.append_assoc,List.drop_left,show P.length+run.length - P.length=run.length by omega,List.take_left]
 have d1:(P++run++T).take P.length=P:=by rw [List.append_assoc,List.take_left]
 have d2:(P++run++T).drop (P.length+run.length)=T:=by rw [←List.length_append,List.drop_left]
 rw [e1,d1,d2,hf];rfl
theorem z6R {f:List Int→Option (List Int)} {st:Int→Bool} (hst:∀x,st x=decide (key x=0)) (hf:∀l,l.length≤2000→f l=some (srt key l)):∀(t run P:List Int) (s:Int),P.length+run.length+t.length≤2000→(run= []∧s= -1∨run≠[]∧s=(P.length:Int))→
    zAL f Range.Lo Range.Hi (P++run++t) (xB st t ((P.length+run.length:Nat):Int) s)=some (P++rsE key t run)
  | [],run,P,s,hl,hs=>by
    rcases hs with ⟨rfl,rfl⟩ | ⟨hne,rfl⟩
    · simp only [xB,show ¬(0:Int)≤ -1 by decide,if_false]
      show some (P++ []++ [])=some (P++ []);simp
    · have h0:(0:Int)≤(P.length:Int):=by omega
      simp only [xB,h0,if_true];have hpos:0 < run.length:=List.length_pos_iff.2 hne;show (some (P++run++ [])).bind (fun l=>zLF f l (P.length:Int) ((P.length+run.length:Nat):Int))=_;rw [zA,z2I hpos (hf run (by simp at hl;omega))]
      simp [rsE]
  | x::t,run,P,s,hl,hs=>by
    have hl':P.length+run.length+t.length+1≤2000:=by simp only [List.length_cons] at hl;omega
    by_cases h0:key x=0
    · have hsx:st x=true:=by rw [hst];simp [h0]
      rcases hs with ⟨rfl,rfl⟩ | ⟨hne,rfl⟩
      · have e:xB st (x::t) ((P.length+([]:List Int).length:Nat):Int) (-1)=xB st t (((P++ [x]).length+([]:List Int).length:Nat):Int) (-1):=by
          simp only [xB,hsx];simp
        have ih:=z6R hst hf t [] (P++ [x]) (-1) (by simp only [List.length_append,List.length_singleton,List.length_nil];simp at hl';omega) (.inl ⟨rfl,rfl⟩)
        rw [e,show P++ []++x::t=P++ [x]++ []++t by simp,ih];have e2:srt key []= []:=rfl;simp [rsE,h0,e2]
      · have h00:(0:Int)≤(P.length:Int):=by omega
        have hpos:0 < run.length:=List.length_pos_iff.2 hne;have e:xB st (x::t) ((P.length+run.length:Nat):Int) (P.length:Int)= {Lo:=(P.length:Int),Hi:=((P.length+run.length:Nat):Int)}::xB st t (((P++srt key run++ [x]).length+([]:List Int).length:Nat):Int) (-1):=by
          have e3:(((P++srt key run++ [x]).length+([]:List Int).length:Nat):Int)=((P.length+run.length:Nat):Int)+1:=by simp [z6P];omega
          rw [e3];simp only [xB,hsx,Bool.not_true,Bool.false_and,Bool.false_eq_true,if_false,Bool.true_and,h00,decide_true,if_true]
        have ih:=z6R hst hf t [] (P++srt key run++ [x]) (-1) (by simp [z6P];omega) (.inl ⟨rfl,rfl⟩)
        have e4:zLF f (P++run++x::t) (P.length:Int) ((P.length+run.length:Nat):Int)=some (P++srt key run++ [x]++ []++t):=by
          rw [z2I hpos (hf run (by omega))];simp
        have e5:zAL f Range.Lo Range.Hi (P++run++x::t) ({Lo:=(P.length:Int),Hi:=((P.length+run.length:Nat):Int)}::xB st t (((P++srt key run++ [x]).length+([]:List Int).length:Nat):Int) (-1))=zAL f Range.Lo Range.Hi (P++srt key run++ [x]++ []++t) (xB st t (((P++srt key run++ [x]).length+([]:List Int).length:Nat):Int) (-1)):=by
          unfold zAL;rw [List.foldl_cons,zA,e4]
        rw [e,e5,ih];simp [rsE,h0]
    · have hsx:st x=false:=by rw [hst];simp [h0]
      have e:xB st (x::t) ((P.length+run.length:Nat):Int) s=xB st t ((P.length+(run++ [x]).length:Nat):Int) (P.length:Int):=by
        have e3:((P.length+(run++ [x]).length:Nat):Int)=((P.length+run.length:Nat):Int)+1:=by simp;omega
        rw [e3];rcases hs with ⟨rfl,rfl⟩ | ⟨hne,rfl⟩
        · simp [xB,hsx]
        · have:¬((P.length:Int) < 0):=by omega
          simp only [xB,hsx,Bool.not_false,Bool.true_and,this,decide_false,Bool.false_eq_true,if_false,Bool.false_and]
      have ih:=z6R hst hf t (run++ [x]) P (P.length:Int) (by simp;omega) (.inr ⟨by simp,rfl⟩)
      rw [e,show P++run++x::t=P++(run++ [x])++t by simp,ih];simp [rsE,h0]
end
theorem yC9 {l:List Span} (h:CV l) (hl:l.length≤2000) (x y:Int):wW x y l=some (sg (clE l x) (clE l y)):=by unfold wW;simp only [zIW h hl,zA,z84];unfold sg;rfl
theorem yKF {l:List Span} (h:CV l) (hl:l.length≤2000) (hok:∀x∈l,okSpan x) {text:List Int} (ht:text.length≤2000):zBK l text=some (csE (clE l) text):=by
 have hnn:∀x,0≤clE l x:=yMG h;unfold zBK zBB;have hst:∀x,(kZ l x==some 0)=decide (clE l x=0):=fun x=>by rw [zIW h hl];by_cases hx:clE l x=0 <;> simp [hx]
 rw [zWY hl hok h,zA,yJV ht,zA,z18 h hl ht hst rfl,zA];have:=z6R (key:=clE l) (f:=fun p=>yP p (fun x0 x1=>wW x0 x1 l)) (st:=fun c=>kZ l c==some 0) hst (fun p hp=>by
  obtain ⟨r,r1,r2,r3⟩:=z9A (key:=clE l) (f:=fun x0 x1=>wW x0 x1 l) (fun x y=>yC9 h hl x y) p hp;rw [r1];have:=z2D (key:=clE l) r2 (zQP (key:=clE l) p) (r3.symm.trans (z6O p));rw [this];rfl) text [] [] (-1) (by simpa using ht) (.inl ⟨rfl,rfl⟩)
 rw [yKE hnn];exact this
noncomputable def zDI (n:Norm) (b:Bool) (text:List Int):List Int:=csE (clE (usN n).Classes) (zIY n b text)
theorem zKK (n:Norm) (b:Bool) (text:List Int):(zDI n b text).length=(zIY n b text).length:=yG0 _
theorem z9C {n:Norm} (hs:NSm n) (hok:vZ n) (b:Bool) (text:List Int):(zIY n b text).length≤64*text.length:=z2H ((zYY hs hok).len b) text
theorem z2J {n:Norm} (hs:NSm n) (hok:vZ n) {text:List Int} {b:Bool} (ht:text.length≤2000) (hf:(zIY n b text).length≤2000):wN n text b=some (zDI n b text):=by
 have h:=zYY hs hok;rw [yGY hs hok ht,yKF h.cv (by have:=h.cl;omega) h.ok hf]
 rfl
end Go.M
namespace Go.M
open Go.AV
noncomputable def wkE (c:Collation) (l:List Span):Nat→List Int→List Element×Bool
 | 0,_=>([],true)
 | k+1,text=>if text= [] then ([],true) else ((stE c l text).2.2++(wkE c l k (stE c l text).2.1).1,decide (uV (yT c).Entries text≠0)&&(wkE c l k (stE c l text).2.1).2)
theorem yDA {c:Collation} {l:List Span} {text:List Int} (h0:text≠[]):1≤(stE c l text).1∧(stE c l text).1+((stE c l text).2.1.length:Int)=(text.length:Int):=by have hpos:0 < text.length:=List.length_pos_iff.2 h0;unfold stE;split;refine ⟨by simp,?_⟩;show (1:Int)+((text.drop 1).length:Int)=_;rw [List.length_drop];omega;rename_i hz;have hle:uV (yT c).Entries text≤text.length:=zPQ _ _;have hinv:=zPR (fd:=fun q=>(zD9 (yT c).Entries q).2) (cl:=clE l) (text.drop (uV (yT c).Entries text)) (text.take (uV (yT c).Entries text)) [] 0;generalize zEE (fun q=>(zD9 (yT c).Entries q).2) (clE l) (text.drop (uV (yT c).Entries text)) (text.take (uV (yT c).Entries text)) [] 0=q at*;obtain ⟨i1,i2,_⟩:=hinv;rw [List.length_take,Nat.min_eq_left hle] at i1 i2;rw [List.length_drop] at i2;simp only [List.length_nil] at i2;constructor;show (1:Int)≤(q.1.length:Int);omega;show (q.1.length:Int)+(q.2.length:Int)=_;omega
theorem z2K {c:Collation} {l:List Span} {text:List Int} (h0:text≠[]):(stE c l text).2.1.length < text.length:=by have:=yDA (c:=c) (l:=l) h0;omega
theorem yDB {c:Collation} (hs:Sm c) {l:List Span} (text:List Int):(stE c l text).2.2.length≤2000:=by unfold stE;split;exact yGF _ _;exact yGE (z4X hs) _
theorem z6S {c:Collation} {l:List Span}:∀(k j:Nat) (text:List Int),text.length≤k→text.length≤j→wkE c l k text=wkE c l j text
 | 0,j,text,h,_=>by
  have:text= []:=List.eq_nil_of_length_eq_zero (by omega);subst this;cases j with
  | zero=>rfl
  | succ j=>simp [wkE]
 | k+1,j,text,h,hj=>by
  by_cases h0:text= [];subst h0;cases j <;> simp [wkE];have hpos:0 < text.length:=List.length_pos_iff.2 h0;cases j with
  | zero=>omega
  | succ j=>
   have hlt:=z2K (c:=c) (l:=l) h0;simp only [wkE,h0,if_false];rw [z6S k j _ (by omega) (by omega)]
noncomputable def wk (c:Collation) (l:List Span) (text:List Int):List Element×Bool:=wkE c l text.length text
theorem zQR (c:Collation) (l:List Span):wk c l []=([],true):=rfl
theorem zYZ {c:Collation} {l:List Span} {text:List Int} (h0:text≠[]):wk c l text=((stE c l text).2.2++(wk c l (stE c l text).2.1).1,decide (uV (yT c).Entries text≠0)&&(wk c l (stE c l text).2.1).2):=by
 have hlt:=z2K (c:=c) (l:=l) h0;unfold wk;obtain ⟨k,hk⟩:∃k,text.length=k+1:=⟨text.length - 1,by have:=List.length_pos_iff.2 h0;omega⟩
 rw [hk];simp only [wkE,h0,if_false];rw [z6S k (stE c l text).2.1.length _ (by omega) (by omega)]
theorem yKG {c:Collation} (hs:Sm c) {l:List Span}:∀(k:Nat) (text:List Int),text.length≤k→(wk c l text).1.length≤2000*text.length:=by
 intro k
 induction k with
 | zero=>
  intro text h;have:text= []:=List.eq_nil_of_length_eq_zero (by omega);subst this;rw [zQR];simp
 | succ k ih=>
  intro text h;by_cases h0:text= [];subst h0;rw [zQR];simp;have hlt:=z2K (c:=c) (l:=l) h0;have h1:=ih _ (show (stE c l text).2.1.length≤k by omega);have h2:=yDB hs (l:=l) text;rw [zYZ h0];show ((stE c l text).2.2++(wk c l (stE c l text).2.1).1).length≤_;rw [List.length_append];omega
section
variable {c:Collation} (hs:Sm c) {l:List Span} (hcv:CV l) (hl:l.length≤2000)
include hs hcv hl
theorem yG2:∀(k:Nat) (text:List Int) (acc:List Element),text.length≤k→text.length≤2000→acc.length+2000*text.length≤100000000→zE (fun (x:(List Element)×(List Int))=>j8 (zMV c l) x.1 x.2) (acc,text)=some (acc++(wk c l text).1):=by
 intro k
 induction k with
 | zero=>
  intro text acc h _ _;have:text= []:=List.eq_nil_of_length_eq_zero (by omega);subst this;refine zL ?_;simp [j8,zQR]
 | succ k ih=>
  intro text acc h ht ha;by_cases h0:text= [];subst h0;refine zL ?_;simp [j8,zQR];have hpos:0 < text.length:=List.length_pos_iff.2 h0;have hlt:=z2K (c:=c) (l:=l) h0;have h2:=yDB hs (l:=l) text;obtain ⟨seq,m1,m2⟩:=yC4 hs hcv hl ht h0;have e0:decide ((0:Int) < (text.length:Int))=true:=by simp;omega
  have ea:app acc (stE c l text).2.2=some (acc++(stE c l text).2.2):=xN (by omega);rw [zR (x':=(acc++(stE c l text).2.2,(stE c l text).2.1)) (by simp only [j8,e0,cond_true,m1,zA,ea,m2])];rw [ih _ _ (by omega) (by omega) (by rw [List.length_append];omega),zYZ h0,List.append_assoc]
end
theorem zUE (n:Norm):xH n=(usN n).Classes:=by unfold xH usN;split <;> rfl
section
variable {n:Norm} {c:Collation} (hn:NSm n) (hok:vZ n) (hs:Sm c) (hg:∀g∈c.Groups,g.Name.length≤MX) {text:List Int} (ht:text.length≤2000) (hf:(zIY n false text).length≤2000)
include hn hok hs hg ht hf
theorem zRI:jJ n c text=some (wk c (xH n) (zDI n false text)).1:=by
 unfold jJ;have hl:(xH n).length≤2000:=by have:=zQQ hn;omega
 have hd:(zDI n false text).length≤2000:=by rw [zKK];exact hf
 rw [yGB hs hg,zA,yGW hn hok,zA,z2J hn hok ht hf,zA,yG2 hs (z2G n) hl _ _ [] (Nat.le_refl _) hd (by simp;omega)]
 rfl
end
theorem zY0 {n:Norm} {c:Collation} (hs:Sm c) {text:List Int} (hd:(zDI n false text).length≤2000):(wk c (xH n) (zDI n false text)).1.length≤1000000000:=by have:=yKG hs (l:=xH n) _ (zDI n false text) (Nat.le_refl _);omega
end Go.M
namespace Go.M
open Go.AV
theorem z6T {f:Int→List Int}:∀{L:List Int},(∀e∈L,f e= [e])→L.flatMap f=L
 | [],_=>rfl
 | x::L,h=>by rw [List.flatMap_cons,h x (by simp),z6T fun e he=>h e (by simp [he])];rfl
end Go.M
namespace Go.M
open Go.AV
end Go.M
namespace Go.M
open Go.AV
theorem yMI (a0:List Span) (v6:Nat) (hv:v6 < a0.length) (H:List Range) (hH:H= [{Lo:=4352,Hi:=4370},{Lo:=4449,Hi:=4469},{Lo:=4520,Hi:=4546},{Lo:=44032,Hi:=55203}]):
    (zE (fun (x:Int)=>uD H a0 (v6:Int) x) 0=some (.inl ())∧hgOk (nth a0 v6))∨(zE (fun (x:Int)=>uD H a0 (v6:Int) x) 0=some (.inr 11)∧¬hgOk (nth a0 v6)):=by
  have h:=jC (body:=fun (x:Int)=>uD H a0 (v6:Int) x) H.length (fun k=> ¬((nth a0 v6).Lo≤(nth H k).Hi∧(nth H k).Lo≤(nth a0 v6).Hi)) (fun y=>y=11) (fun k hk=>by
    have hl:H.length=4:=by rw [hH];rfl
    simp only [uD,yV hk,cond_true,z5 hv,z5 hk,zA,zQ,zO (k:=k) (by omega)];by_cases h1:(nth a0 v6).Lo≤(nth H k).Hi
    · simp only [h1,decide_true,xC,zA,Bool.true_and,true_and]
      exact zAQ (by simp) rfl
    · simp only [h1,decide_false,vB,zA,Bool.false_and,cond_false,false_and]
      exact .inl ⟨by simp,trivial⟩) (fun k hk=>by simp only [uD,kO hk,cond_false])
  have e:(∀j,j < H.length→¬((nth a0 v6).Lo≤(nth H j).Hi∧(nth H j).Lo≤(nth a0 v6).Hi))↔hgOk (nth a0 v6):=by
    subst hH;unfold hgOk;constructor
    · intro h;exact ⟨h 0 (by decide),h 1 (by decide),h 2 (by decide),h 3 (by decide)⟩
    · rintro ⟨h0,h1,h2,h3⟩ j hj
      have hj':j < 4:=hj
      match j,hj' with
      | 0,_=>exact h0
      | 1,_=>exact h1
      | 2,_=>exact h2
      | 3,_=>exact h3
  rw [e] at h;rcases h with h | ⟨y,rfl,h⟩
  · exact .inl h
  · exact .inr h
theorem yDC {l:List Span} (hl:l.length≤2000):Ver (zE4 l) (CV l):=by
 have h0:=jC (body:=fun (x:Int)=>zB9 l x) l.length (fun k=>spOk (nth l k)) (fun y=>y≠0) (fun k hk=>by
  simp only [zB9,yV hk,cond_true,z5 hk,zA,zQ,zE5,zO (k:=k) (by omega),spOk,vld];generalize nth l k=q;by_cases h1:0≤q.Lo <;> by_cases h2:q.Lo≤1114111 <;> by_cases h3:0≤q.Hi <;> by_cases h4:q.Hi≤1114111 <;> by_cases h5:q.Hi < q.Lo <;> by_cases h6:q.Value < 1 <;> by_cases h7:254 < q.Value <;> simp [h1,h2,h3,h4,h5,h6,h7,xC,vB,zA] <;> omega) (fun k hk=>by simp only [zB9,kO hk,cond_false])
 unfold zE4 Ver;rcases h0 with ⟨h0,p0⟩ | ⟨y,hy,h0,p0⟩
 rw [h0];simp only [zA,Sum.elim_inl];have h1:=zNA (body:=fun (x:Int)=>zCA l x) l.length (fun k=>adOk (nth l k) (nth l (k+1))) (fun y=>y≠0) (fun k hk=>by
  have hk':k < l.length:=by omega
  have w:=(p0 k hk').2.1;have w0:=(p0 k hk').1;have w1:=(p0 k hk').2.2.1;simp only [zCA,yV hk,cond_true,z5 hk,zA,zQ,zO (k:=k+1) (by omega),zCX (k:=k) (by omega),z5 hk'];by_cases a1:(nth l (k+1)).Lo≤(nth l k).Hi;simp only [a1,decide_true,Bool.not_true,vB,zA,Bool.false_and,Bool.true_or,cond_true];exact .inr ⟨by unfold adOk;omega,4,by decide,rfl⟩
  simp only [a1,decide_false,Bool.not_false,xC,zA,Bool.true_and,Bool.false_or];rw [xS (n:=(nth l k).Hi+1) (by omega) (by omega)];by_cases a2:(nth l (k+1)).Lo=(nth l k).Hi+1;simp only [a2,decide_true,xC,zA,Bool.true_and];exact zAQ (by unfold adOk;simp only [decide_eq_true_eq];omega) (by decide)
  simp only [a2,decide_false,vB,zA,Bool.false_and,cond_false];exact .inl ⟨by unfold adOk;omega,trivial⟩) (fun k hk=>by simp only [zCA,kO hk,cond_false])
 rcases h1 with ⟨h1,p1⟩ | ⟨y,hy,h1,p1⟩;rw [h1];simp only [zA,Sum.elim_inl,zH0];have h2:=jC (body:=fun (x:Int)=>zCB l [{Lo:=4352,Hi:=4370},{Lo:=4449,Hi:=4469},{Lo:=4520,Hi:=4546},{Lo:=44032,Hi:=55203}] x) l.length (fun k=>hgOk (nth l k)) (fun y=>y≠0) (fun k hk=>by
  simp only [zCB,yV hk,cond_true,zO (k:=k) (by omega)];rcases yMI l k hk _ rfl with ⟨h,p⟩ | ⟨h,p⟩
  rw [h];exact .inl ⟨p,rfl⟩;rw [h];exact .inr ⟨p,11,by decide,rfl⟩) (fun k hk=>by simp only [zCB,kO hk,cond_false])
 rcases h2 with ⟨h2,p2⟩ | ⟨y,hy,h2,p2⟩;rw [h2];exact ⟨0,rfl,by simp only [true_iff];exact ⟨p0,p1,p2⟩⟩
 rw [h2];exact ⟨y,rfl,by simp only [hy,false_iff];exact fun h=>p2 h.hg⟩
 rw [h1];exact ⟨y,rfl,by simp only [hy,false_iff];exact fun h=>p1 h.ad⟩
 rw [h0];exact ⟨y,rfl,by simp only [hy,false_iff];exact fun h=>p0 h.sp⟩
theorem zIZ {l:List Span} (hl:l.length≤2000) (h:CV l) (c:Int):zBD l c=some (clE l c):=by
 obtain ⟨e,he,hp⟩:=yDC hl;unfold zBD;rw [he,zA,hp.2 h];simp only [decide_true,Bool.not_true,cond_false];have hb:∀k,k < l.length→wQ l c (k:Int)=if zR5 c (nth l k) then some (.done (.inr (nth l k).Value)) else some (.next ((k+1:Nat):Int)):=fun k hk=>by
  simp only [wQ,yV hk,cond_true,z5 hk,zA,zQ,zO (k:=k) (by omega),zR5];by_cases h1:(nth l k).Lo≤c
  · by_cases h2:c≤(nth l k).Hi <;> simp [h1,h2,xC]
  · simp [h1,vB]
 have key:∀(d k:Nat),l.length - k=d→k≤l.length→(∀j,j < k→zR5 c (nth l j)=false)→(zE (fun (x:Int)=>wQ l c x) (k:Int)).bind (fun y=>y.elim (fun _=>some 0) fun y=>some y)=some (clE l c):=by
  intro d
  induction d with
  | zero=>
   intro k h1 h2 h3;have:k=l.length:=by omega
   subst this;rw [zL (y:= .inl ()) (by simp only [wQ,kO (Nat.le_refl _),cond_false])];unfold clE;rw [zYT h3];rfl
  | succ d ih=>
   intro k h1 h2 h3;have hk:k < l.length:=by omega
   cases hi:zR5 c (nth l k) with
   | true=>
    rw [zL (y:= .inr (nth l k).Value) (by show wQ l c (k:Int)=_;rw [hb k hk,hi];rfl)]
    unfold clE;rw [zPO hk h3 hi];rfl
   | false=>
    rw [zR (x':=((k+1:Nat):Int)) (by show wQ l c (k:Int)=_;rw [hb k hk,hi];rfl)]
    refine ih (k+1) (by omega) (by omega) fun j hj=>?_;by_cases e:j=k
    · subst e;exact hi
    · exact h3 j (by omega)
 exact key l.length 0 (by omega) (by omega) (fun j hj=>by omega)
theorem zOF {l:List Span} (hl:l.length≤2000) (h:CV l) (c:Int):zEQ l c=some (decide (clE l c=0)):=by unfold zEQ;rw [zIZ hl h];rfl
end Go.M
namespace Go.M
open Go.AV
theorem yKH {a b c:Mapping} (h1:mlt a b) (h2:mlt b c):mlt a c:=by
 unfold mlt at*;rcases h1 with h1 | ⟨h1,t1⟩
 rcases h2 with h2 | ⟨h2,t2⟩;exact .inl (by omega);exact .inl (by omega);rcases h2 with h2 | ⟨h2,t2⟩;exact .inl (by omega);exact .inr ⟨by omega,List.lt_trans t1 t2⟩
theorem yG3 {a b:Mapping} (h:mlt a b):¬(a.From=b.From∧a.Tag=b.Tag):=by
 rintro ⟨h1,h2⟩
 unfold mlt at h;rcases h with h | ⟨_,h⟩
 omega;rw [h2] at h;exact List.lt_irrefl _ h
theorem z6U {l:List Mapping} (h:∀k,k+1 < l.length→mlt (nth l k) (nth l (k+1))):∀(d i:Nat),i+d+1 < l.length→mlt (nth l i) (nth l (i+d+1))
 | 0,i,hi=>h i hi
 | d+1,i,hi=>by
  have h1:=z6U h d i (by omega);have h3:=h (i+d+1) (by omega);have:i+(d+1)+1=i+d+1+1:=by omega
  rw [this];exact yKH h1 h3
theorem yMJ (x y:Str):(x==y)=decide (x=y):=by rw [Bool.eq_iff_iff];simp
section
variable {l:List Mapping} (hl:l.length≤2000) (hto:∀m∈l,m.To.length≤2000) (htg:∀m∈l,m.Tag.length≤MX)
include hl hto htg
omit hl hto htg in
theorem yDD {m:Mapping} (hm:m.To.length≤2000):∃b,zG3 m=some b∧(b=true↔codesOk m):=by
 unfold zG3;have h:=jC (body:=fun (x:Int)=>zCC m x) m.To.length (fun j=>vld (nth m.To j)=true) (fun y=>y=false) (fun j hj=>by
  simp only [zCC,yV hj,cond_true,z5 hj,zA,zE5,zO (k:=j) (by omega)];exact zAQ (by simp) rfl) (fun j hj=>by simp only [zCC,kO hj,cond_false])
 rw [zCY (p:=fun c=>vld c=true)] at h;rcases h with ⟨h,p⟩ | ⟨y,rfl,h,p⟩
 rw [h];simp only [zA,Sum.elim_inl,zE5];exact ⟨_,rfl,⟨fun a=>⟨a,p⟩,fun a=>a.1⟩⟩;rw [h];exact ⟨false,rfl,by simp only [Bool.false_eq_true,false_iff];exact fun a=>p a.2⟩
omit hto htg in
theorem yDE:∃b,zG4 l=some b∧(b=true→¬∀k,k+1 < l.length→mlt (nth l k) (nth l (k+1)))∧(b=false→True):=by
 unfold zG4;have inner:∀i,i < l.length→(zE (fun (x:Int)=>uE (i:Int) l x) 0=some (.inl ())∧∀j,j < i→¬((nth l i).From=(nth l j).From∧(nth l i).Tag=(nth l j).Tag))∨(∃y,y=true∧zE (fun (x:Int)=>uE (i:Int) l x) 0=some (.inr y)∧¬∀j,j < i→¬((nth l i).From=(nth l j).From∧(nth l i).Tag=(nth l j).Tag)):=by
  intro i hi;refine jC (body:=fun (x:Int)=>uE (i:Int) l x) i _ (fun y=>y=true) (fun j hj=>?_) (fun j hj=>by simp only [uE,kO hj,cond_false]);have hj':j < l.length:=by omega
  simp only [uE,yV hj,cond_true,z5 hi,z5 hj',zA,zQ,zO (k:=j) (by omega),yMJ];by_cases a:(nth l i).From=(nth l j).From;simp only [a,decide_true,xC,zA,Bool.true_and,true_and];exact zAQ (by simp) rfl;simp only [a,decide_false,vB,zA,Bool.false_and,cond_false,false_and];exact .inl ⟨by simp,trivial⟩
 have h:=jC (body:=fun (x:Int)=>zCD l x) l.length (fun i=> ∀j,j < i→¬((nth l i).From=(nth l j).From∧(nth l i).Tag=(nth l j).Tag)) (fun y=>y=true) (fun k hk=>by
  simp only [zCD,yV hk,cond_true,zO (k:=k) (by omega)];rcases inner k hk with ⟨h,p⟩ | ⟨y,hy,h,p⟩
  rw [h];exact .inl ⟨p,rfl⟩;rw [h];exact .inr ⟨p,y,hy,rfl⟩) (fun j hj=>by simp only [zCD,kO hj,cond_false])
 rcases h with ⟨h,p⟩ | ⟨y,rfl,h,p⟩;rw [h];exact ⟨false,rfl,fun h=>(by cases h),fun _=>trivial⟩;rw [h];refine ⟨true,rfl,fun _ hh=>p fun i hi j hj=>?_,fun _=>trivial⟩;have:=z6U hh (i - j - 1) j (by omega);rw [show j+(i - j - 1)+1=i by omega] at this;have:=yG3 this;exact fun ⟨a,b⟩=>this ⟨a.symm,b.symm⟩
theorem yKI:∃e,zDU l=some e∧(e=0→(∀m∈l,codesOk m)∧(∀m∈l,m.To.length≤64)∧∀m∈l,tagOk m)∧(e≠0→¬MV l):=by
 unfold zDU;have h0:=jC (body:=fun (x:Int)=>uO l x) l.length (fun k=>codesOk (nth l k)) (fun y=>y≠0) (fun k hk=>by
  obtain ⟨b,hb,hp⟩:=yDD (hto _ (w7 hk));simp only [uO,yV hk,cond_true,z5 hk,zA,hb,zO (k:=k) (by omega)];exact zAQ (by rw [←hp];simp) (by decide)) (fun k hk=>by simp only [uO,kO hk,cond_false])
 rw [zCY (p:=codesOk)] at h0;rcases h0 with ⟨h0,p0⟩ | ⟨y,hy,h0,p0⟩
 case inr=>rw [h0];exact ⟨y,rfl,fun h=>absurd h hy,fun _ h=>p0 h.co⟩
 rw [h0];simp only [zA,Sum.elim_inl];have h1:=jC (body:=fun (x:Int)=>uP l x) l.length (fun k=>(nth l k).To.length≤64) (fun y=>y≠0) (fun k hk=>by
  simp only [uP,yV hk,cond_true,z5 hk,zA,zO (k:=k) (by omega)];exact zAQ (by simp only [decide_eq_true_eq];omega) (by decide)) (fun k hk=>by simp only [uP,kO hk,cond_false])
 rw [zCY (p:=fun (m:Mapping)=>m.To.length≤64)] at h1;rcases h1 with ⟨h1,p1⟩ | ⟨y,hy,h1,p1⟩
 case inr=>rw [h1];exact ⟨y,rfl,fun h=>absurd h hy,fun _ h=>p1 h.sz⟩
 rw [h1];simp only [zA,Sum.elim_inl];have h2:=jC (body:=fun (x:Int)=>uQ l x) l.length (fun k=>tagOk (nth l k)) (fun y=>y≠0) (fun k hk=>by
  simp only [uQ,yV hk,cond_true,z5 hk,zA,zQ,zO (k:=k) (by omega),tagOk,yMJ];by_cases ht:(nth l k).Tag= []
  ·
   simp only [ht,decide_true,Bool.not_true,vB,zA,Bool.false_and,cond_false];exact .inl ⟨.inl trivial,trivial⟩
  ·
   simp only [ht,decide_false,Bool.not_false,xC,zA,z56 (htg _ (w7 hk)),Bool.true_and,false_or];exact zAQ (by simp) (by decide)) (fun k hk=>by simp only [uQ,kO hk,cond_false])
 rw [zCY (p:=tagOk)] at h2;rcases h2 with ⟨h2,p2⟩ | ⟨y,hy,h2,p2⟩
 case inr=>rw [h2];exact ⟨y,rfl,fun h=>absurd h hy,fun _ h=>p2 h.tg⟩
 rw [h2];simp only [zA,Sum.elim_inl];obtain ⟨b,hb,hp,_⟩:=yDE hl;rw [hb,zA];cases b with
 | true=>exact ⟨5,rfl,fun h=>absurd h (by decide),fun _ h=>hp rfl h.lt⟩
 | false=>exact ⟨0,rfl,fun _=>⟨p0,p1,p2⟩,fun h=>absurd rfl h⟩
theorem yKJ:Ver (zG5 l) (MV l):=by
 obtain ⟨e,he,h0,h1⟩:=yKI hl hto htg;unfold zG5;rw [he,zA];by_cases hz:e=0
 case neg=>
  have:(!decide (e=0))=true:=by simp [hz]
  rw [this,cond_true];exact ⟨e,rfl,by simp only [hz,false_iff];exact h1 hz⟩
 obtain ⟨p0,p1,p2⟩:=h0 hz;rw [hz];simp only [decide_true,Bool.not_true,cond_false];have h3:=zNA (body:=fun (x:Int)=>zCE l x) l.length (fun k=>mlt (nth l k) (nth l (k+1))) (fun y=>y≠0) (fun k hk=>by
  have hk':k < l.length:=by omega
  simp only [zCE,yV hk,cond_true,z5 hk,zA,zO (k:=k+1) (by omega),zCX (k:=k) (by omega),z5 hk',zH1,zQ,yCH];exact zAQ (by unfold mlt;simp only [Bool.not_eq_true',Bool.or_eq_false_iff,Bool.and_eq_false_iff,decide_eq_false_iff_not,not_or,Classical.not_and_iff_not_or_not]) (by decide)) (fun k hk=>by simp only [zCE,kO hk,cond_false])
 rcases h3 with ⟨h3,p3⟩ | ⟨y,hy,h3,p3⟩
 · rw [h3];exact ⟨0,rfl,by simp only [true_iff];exact ⟨p0,p1,p2,p3⟩⟩
 · rw [h3];exact ⟨y,rfl,by simp only [hy,false_iff];exact fun h=>p3 h.lt⟩
end
end Go.M
namespace Go.M
open Go.AV
section
variable {β:Type} [Inhabited β] (upd:List β→Nat→β)
def zPS:Nat→Nat→List β→List β
 | 0,_,out=>out
 | d+1,i,out=>zPS d (i+1) (out.set i (upd out i))
def zI0 (n:Nat):Nat→List β→List β
 | 0,out=>out
 | k+1,out=>zI0 n k (zPS upd n 0 out)
end
section
variable {β:Type} [Inhabited β] {upd:List β→Nat→β} {n:Nat} {Inv:List β→Prop}
theorem zSJ {out:List β} {i j:Nat} {x: β} (hi:i < out.length):nth (out.set i x) j=if j=i then x else nth out j:=by unfold nth;rw [List.getD_eq_getElem?_getD,List.getD_eq_getElem?_getD,List.getElem?_set];by_cases h:i=j;subst h;simp [hi];rw [if_neg h,if_neg (fun e=>h e.symm)]
theorem yG4 {out:List β} {i:Nat} (hi:i < out.length):out.set i (nth out i)=out:=by rw [zCN hi];simp
omit [Inhabited β] in
theorem zSK:∀(d i:Nat) (out:List β),(zPS upd d i out).length=out.length
 | 0,_,_=>rfl
 | d+1,i,out=>by rw [zPS,zSK d];simp
omit [Inhabited β] in
theorem zSL (hi:∀i out,i < n→out.length=n→Inv out→Inv (out.set i (upd out i))):∀(d i:Nat) (out:List β),i+d=n→out.length=n→Inv out→Inv (zPS upd d i out)
 | 0,_,_,_,_,h=>h
 | d+1,i,out,hd,hl,h=>by
  rw [zPS];exact zSL hi d (i+1) _ (by omega) (by simp [hl]) (hi i out (by omega) hl h)
omit [Inhabited β] in
theorem zY1 (hi:∀i out,i < n→out.length=n→Inv out→Inv (out.set i (upd out i))):∀(k:Nat) (out:List β),out.length=n→Inv out→Inv (zI0 upd n k out)∧(zI0 upd n k out).length=n
 | 0,_,hl,h=>⟨h,hl⟩
 | k+1,out,hl,h=>by
  rw [zI0];exact zY1 hi k _ (by rw [zSK,hl]) (zSL hi n 0 out (by omega) hl h)
theorem yDF {R R':Nat→Prop} {t:Nat→β} (hm:∀j,R j→R' j) (hi:∀i out,i < n→out.length=n→Inv out→Inv (out.set i (upd out i)))
    (hs:∀out i,i < n→out.length=n→Inv out→(∀j,j < n→R j→nth out j=t j)→R' i→upd out i=t i):
    ∀(d i:Nat) (out:List β),i+d=n→out.length=n→Inv out→(∀j,j < n→R j→nth out j=t j)→(∀j,j < i→R' j→nth out j=t j)→∀j,j < n→R' j→nth (zPS upd d i out) j=t j
  | 0,i,out,hd,hl,h,h1,h2,j,hj,hr=>h2 j (by omega) hr
  | d+1,i,out,hd,hl,h,h1,h2,j,hj,hr=>by
    have hin:i < n:=by omega
    have hu:R' i→upd out i=t i:=hs out i hin hl h h1;rw [zPS];refine yDF hm hi hs d (i+1) _ (by omega) (by simp [hl]) (hi i out hin hl h) (fun j hj hr=>?_) (fun j hj hr=>?_) j hj hr
    · rw [zSJ (by omega)]
      split
      · rename_i e;subst e;exact hu (hm _ hr)
      · exact h1 j hj hr
    · rw [zSJ (by omega)]
      split
      · rename_i e;subst e;exact hu hr
      · exact h2 j (by omega) hr
theorem zY2 {R:Nat→Nat→Prop} {t:Nat→β} (hm:∀r j,R r j→R (r+1) j) (hi:∀i out,i < n→out.length=n→Inv out→Inv (out.set i (upd out i)))
  (hs:∀r out i,i < n→out.length=n→Inv out→(∀j,j < n→R r j→nth out j=t j)→R (r+1) i→upd out i=t i):
  ∀(k r:Nat) (out:List β),out.length=n→Inv out→(∀j,j < n→R r j→nth out j=t j)→∀j,j < n→R (r+k) j→nth (zI0 upd n k out) j=t j
 | 0,_,_,_,_,h,j,hj,hr=>h j hj hr
 | k+1,r,out,hl,h,h1,j,hj,hr=>by
  rw [zI0];have:=yDF (R:=R r) (R':=R (r+1)) (hm r) hi (hs r) n 0 out (by omega) hl h h1 (fun j hj=>by omega);refine zY2 hm hi hs k (r+1) _ (by rw [zSK,hl]) (zSL hi n 0 out (by omega) hl h) this j hj ?_;rw [show r+1+k=r+(k+1) by omega];exact hr
omit [Inhabited β] in
theorem zPT {X Y:Type} (mk:Nat→List β→X) {body:X→Option (Stp X Y)} (fin:List β→Y)
  (hb:∀i out,i < n→out.length=n→Inv out→body (mk i out)=some (.next (mk (i+1) (out.set i (upd out i)))))
  (hi:∀i out,i < n→out.length=n→Inv out→Inv (out.set i (upd out i)))
  (he:∀out,body (mk n out)=some (.done (fin out))):∀(d i:Nat) (out:List β),i+d=n→out.length=n→Inv out→zE body (mk i out)=some (fin (zPS upd d i out))
 | 0,i,out,hd,hl,h=>by
  have:i=n:=by omega
  subst this;exact zL (he out)
 | d+1,i,out,hd,hl,h=>by
  rw [zR (hb i out (by omega) hl h),zPS];exact zPT mk fin hb hi he d (i+1) _ (by omega) (by simp [hl]) (hi i out (by omega) hl h)
omit [Inhabited β] in
theorem zPU {X Y:Type} (mk:Nat→List β→X) {body:X→Option (Stp X Y)} (fin:List β→Y) {N:Nat}
  (hb:∀r out,r < N→out.length=n→Inv out→body (mk r out)=some (.next (mk (r+1) (zPS upd n 0 out))))
  (hi:∀i out,i < n→out.length=n→Inv out→Inv (out.set i (upd out i)))
  (he:∀out,body (mk N out)=some (.done (fin out))):∀(k r:Nat) (out:List β),r+k=N→out.length=n→Inv out→zE body (mk r out)=some (fin (zI0 upd n k out))
 | 0,r,out,hd,hl,h=>by
  have:r=N:=by omega
  subst this;exact zL (he out)
 | k+1,r,out,hd,hl,h=>by
  rw [zR (hb r out (by omega) hl h),zI0];exact zPU mk fin hb hi he k (r+1) _ (by omega) (by rw [zSK,hl]) (zSL hi n 0 out (by omega) hl h)
end
theorem z2L {A Y:Type} {p:Nat→A→Option Y}:∀{l:List A} {k:Nat} {y:Y},chk p l k=some y→∃j,∃h:j < l.length,p (k+j) l[j]=some y
 | [],_,_,h=>by cases h
 | x::l,k,y,h=>by
  unfold chk at h;cases hp:p k x with
  | some z=>
   rw [hp] at h;exact ⟨0,by simp,by simpa [hp] using h⟩
  | none=>
   rw [hp] at h;obtain ⟨j,hj,e⟩:=z2L h;exact ⟨j+1,by simpa using hj,by rw [show k+(j+1)=k+1+j by omega];simpa using e⟩
theorem zW4 {A Y:Type} {p:Nat→A→Option Y}:∀{l:List A} {k j:Nat} (h:j < l.length),p (k+j) l[j]≠none→∃i,∃hi:i < l.length,i≤j∧chk p l k=p (k+i) l[i]
 | [],_,_,h,_=>by cases h
 | x::l,k,j,h,hp=>by
  unfold chk;cases hx:p k x with
  | some z=>exact ⟨0,by simp,Nat.zero_le _,by simp [hx]⟩
  | none=>
   cases j with
   | zero=>exact absurd (by simpa using hx) hp
   | succ j=>
    obtain ⟨i,hi,hij,e⟩:=zW4 (p:=p) (l:=l) (k:=k+1) (j:=j) (by simpa using h) (by rw [show k+1+j=k+(j+1) by omega];simpa using hp)
    exact ⟨i+1,by simpa using hi,by omega,by rw [show k+(i+1)=k+1+i by omega];simpa using e⟩
def pM (c:Int) (b:Bool) (k:Nat) (m:Mapping):Option Nat:=if m.From=c∧(b ||(m.Tag== []))=true then some k else none
def fi (l:List Mapping) (c:Int) (b:Bool):Option Nat:=chk (pM c b) l 0
theorem zJS {l:List Mapping} {c:Int} {b:Bool} {i:Nat} (h:fi l c b=some i):i < l.length∧(nth l i).From=c∧(b ||((nth l i).Tag== []))=true:=by
 obtain ⟨j,hj,e⟩:=z2L h;unfold pM at e;split at e;rename_i hp;injection e with e;have:i=j:=by omega
 subst this;rw [zCN hj];exact ⟨hj,hp⟩;cases e
theorem z6V {l:List Mapping} {c:Int} {b:Bool} (h:fi l c b=none):∀m∈l,¬(m.From=c∧(b ||(m.Tag== []))=true):=by intro m hm hp;obtain ⟨j,hj,rfl⟩:=List.getElem_of_mem hm;have:=zMS h j hj;unfold pM at this;rw [if_pos hp] at this;cases this
theorem zW5 {l:List Mapping} (hd:DS l) (c:Int) (b:Bool):(∃i,fi l c b=some i∧i < l.length∧(nth l i).From=c∧fnB l b c=some (nth l i).To)∨(fi l c b=none∧fnB l b c=none):=by
 cases hf:fi l c b with
 | some i=>
  obtain ⟨h1,h2,h3⟩:=zJS hf;refine .inl ⟨i,rfl,h1,h2,?_⟩;have:=zEA hd (w7 h1);rw [h2] at this;unfold fnB;rw [this];simp only [h3,if_true]
 | none=>
  refine .inr ⟨rfl,?_⟩;cases hn:fnB l b c with
  | none=>rfl
  | some to=>
   obtain ⟨m,h1,_,h3⟩:=zKJ hn;obtain ⟨h4,h5⟩:=zGT h1;exact absurd ⟨h5,h3⟩ (z6V hf m h4)
def fiI (l:List Mapping) (c:Int) (b:Bool):Int:=match fi l c b with
 | some i=>(i:Int)
 | none=> -1
end Go.M
namespace Go.M
open Go.AV
section
variable {l:List Mapping} (hd:DS l)
def zOG (l:List Mapping) (out:List Bool) (i:Nat):Bool:=(nth l i).To.all fun e=>match fi l e true with
 | some m=>nth out m
 | none=>true
def z9D (l:List Mapping) (out:List Bool):Prop:= ∀j,j < l.length→nth out j=true→WW l (nth l j).From
include hd
theorem yG6 {out:List Bool} (h:z9D l out) {i:Nat} (hi:i < l.length) (hu:zOG l out i=true):WW l (nth l i).From:=by
 refine z2A fun e he=>?_;rw [z19 hd (w7 hi)] at he;have:=List.all_eq_true.1 hu e he;rcases zW5 hd e true with ⟨m,h1,h2,h3,_⟩ | ⟨h1,h2⟩
 rw [h1] at this;have:=h m h2 this;rw [h3] at this;exact this;cases hs:syl e with
 | true=>exact yJ1 hd hs
 | false=>
  refine zYV ?_;unfold dep;rw [if_neg (by simp [hs])];rw [zUC] at h2;cases hf:l.find? (isF e) with
  | none=>rfl
  | some m=>rw [hf] at h2;cases h2
theorem zW6 (i:Nat) (out:List Bool) (hi:i < l.length) (hl:out.length=l.length) (h:z9D l out):z9D l (out.set i (zOG l out i)):=by intro j hj hn;rw [zSJ (by omega)] at hn;split at hn;rename_i e;subst e;exact yG6 hd h hi hn;exact h j hj hn
theorem yG7 (r:Nat) (out:List Bool) (i:Nat) (hi:i < l.length) (_hl:out.length=l.length) (h1:∀j,j < l.length→DD l r (nth l j).From→nth out j=true) (hr:DD l (r+1) (nth l i).From):zOG l out i=true:=by
 refine List.all_eq_true.2 fun e he=>?_;have:=hr (nth l i) (zEA hd (w7 hi)) e he;rcases zW5 hd e true with ⟨m,e1,e2,e3,_⟩ | ⟨e1,_⟩
 rw [e1];exact h1 m e2 (by rw [e3];exact this)
 rw [e1]
theorem yDG:(∀j,j < l.length→nth (zI0 (zOG l) l.length l.length (List.replicate l.length false)) j=true)↔∀m∈l,WW l m.From:=by
 have h0:z9D l (List.replicate l.length false):=by
  intro j hj hn;rw [zCN (by simpa using hj)] at hn;simp at hn
 constructor;intro h;have hv:=(zY1 (upd:=zOG l) (n:=l.length) (Inv:=z9D l) (zW6 hd) l.length _ (by simp) h0).1;rw [←zCY (p:=fun m:Mapping=>WW l m.From)];exact fun k hk=>hv k hk (h k hk);intro H j hj;have hp:=yCT hd H;refine zY2 (upd:=zOG l) (n:=l.length) (Inv:=z9D l) (R:=fun r j=>j < l.length∧DD l r (nth l j).From) (t:=fun _=>true) (fun r j h=>⟨h.1,zLB h.2⟩) (zW6 hd) (fun r out i hi hl _ h1 hr=>yG7 hd r out i hi hl (fun j hj hr=>h1 j hj ⟨hj,hr⟩) hr.2) l.length 0 _ (by simp) h0 (fun j hj hr=>?_) j hj ⟨hj,by rw [Nat.zero_add];exact hp _ (w7 hj)⟩
 have:l.find? (isF (nth l j).From)=none:=hr.2;rw [zEA hd (w7 hj)] at this;cases this
end
section
variable {l:List Mapping} (hd:DS l) (hD:∀c,DD l l.length c) {b:Bool}
def lenOf (l:List Mapping) (b:Bool) (out:List Int) (e:Int):Int:=match fi l e b with
 | some m=>nth out m
 | none=>((hdE e).length:Int)
def updL (l:List Mapping) (b:Bool) (out:List Int) (i:Nat):Int:=if (b ||((nth l i).Tag== []))=true then min (max (((nth l i).To.map (lenOf l b out)).sum) 1) 65 else 1
def zY3 (out:List Int):Prop:= ∀x∈out,0≤x∧x≤65
theorem yG8 (out:List Int) (i:Nat):0≤updL l b out i∧updL l b out i≤65:=by unfold updL;split <;> omega
theorem zQS (i:Nat) (out:List Int) (_hi:i < l.length) (_hl:out.length=l.length) (h:zY3 out):zY3 (out.set i (updL l b out i)):=by
 intro x hx;rcases List.mem_or_eq_of_mem_set hx with hx | rfl
 exact h x hx;exact yG8 out i
include hd hD
theorem yG9 {i:Nat} (hi:i < l.length):wt l b (nth l i).From=if (b ||((nth l i).Tag== []))=true then min (max (((nth l i).To.map (wt l b)).sum) 1) 65 else 1:=by
 rw [zW0 hD];unfold fnB;rw [zEA hd (w7 hi)];by_cases ht:(b ||((nth l i).Tag== []))=true;simp only [ht,if_true];have hs:=zUA hd (w7 hi);have e1:hdE (nth l i).From= [(nth l i).From]:=by unfold hdE;rw [if_neg (by simp [hs])]
 rw [if_neg ht];simp only [e1];rw [if_neg ht];rfl
omit hD in
theorem yDH {out:List Int} {e:Int} (hD':fnB l b e=none→wt l b e=((hdE e).length:Int)) (h:∀m,m < l.length→(nth l m).From=e→nth out m=wt l b e):lenOf l b out e=wt l b e:=by
 unfold lenOf;rcases zW5 hd e b with ⟨m,e1,e2,e3,_⟩ | ⟨e1,e2⟩
 rw [e1];exact h m e2 e3;rw [e1,hD' e2]
theorem yHA (r:Nat) (out:List Int) (i:Nat) (hi:i < l.length) (h1:∀j,j < l.length→DD l r (nth l j).From→nth out j=wt l b (nth l j).From) (hr:DD l (r+1) (nth l i).From):updL l b out i=wt l b (nth l i).From:=by
  rw [yG9 hd hD hi];unfold updL;split
  · have:(nth l i).To.map (lenOf l b out)=(nth l i).To.map (wt l b):=List.map_congr_left fun e he=>by
      have hde:=hr (nth l i) (zEA hd (w7 hi)) e he;exact yDH hd (fun hn=>by rw [zW0 hD,hn]) fun m hm hf=>by rw [←hf];exact h1 m hm (by rw [hf];exact hde)
    rw [this]
  · rfl
theorem z6W (j:Nat) (hj:j < l.length):nth (zI0 (updL l b) l.length l.length (List.replicate l.length 0)) j=wt l b (nth l j).From:=by
 have h0:zY3 (List.replicate l.length 0):=fun x hx=>by rw [(List.mem_replicate.1 hx).2];omega
 refine zY2 (upd:=updL l b) (n:=l.length) (Inv:=zY3) (R:=fun r j=>j < l.length∧DD l r (nth l j).From) (t:=fun j=>wt l b (nth l j).From) (fun r j h=>⟨h.1,zLB h.2⟩) zQS (fun r out i hi hl _ h1 hr=>yHA hd hD r out i hi (fun j hj hr=>h1 j hj ⟨hj,hr⟩) hr.2) l.length 0 _ (by simp) h0 (fun j hj hr=>?_) j hj ⟨hj,by rw [Nat.zero_add];exact hD _⟩
 have:l.find? (isF (nth l j).From)=none:=hr.2;rw [zEA hd (w7 hj)] at this;cases this
end
section
variable {l:List Mapping} (hd:DS l) (hD:∀c,DD l l.length c) {b:Bool}
def zHJ (l:List Mapping) (b:Bool) (out:List (List Int)) (e:Int):List Int:=match fi l e b with
 | some m=>nth out m
 | none=>hdE e
def zUF (l:List Mapping) (b:Bool) (out:List (List Int)) (i:Nat):List Int:=if (b ||((nth l i).Tag== []))=true then (nth l i).To.flatMap (zHJ l b out) else nth out i
def zVO (l:List Mapping) (b:Bool) (out:List (List Int)):Prop:= ∀j,j < l.length→(nth out j).length≤(fu l b (nth l j).From).length
include hd hD
theorem z6X {i:Nat} (hi:i < l.length) (ht:(b ||((nth l i).Tag== []))=true):fu l b (nth l i).From=(nth l i).To.flatMap (fu l b):=by rw [zRH hD];unfold fnB;rw [zEA hd (w7 hi)];simp only [ht,if_true]
theorem z6Y {out:List (List Int)} (h:zVO l b out) (e:Int):(zHJ l b out e).length≤(fu l b e).length:=by
 unfold zHJ;rcases zW5 hd e b with ⟨m,e1,e2,e3,_⟩ | ⟨e1,e2⟩
 rw [e1];have:=h m e2;rw [e3] at this;exact this;rw [e1,zRH hD,e2];exact Nat.le_refl _
omit hd hD in
theorem z2M {f g:Int→List Int} (h:∀e,(f e).length≤(g e).length):∀L:List Int,(L.flatMap f).length≤(L.flatMap g).length
 | []=>Nat.le_refl _
 | x::L=>by have:=z2M h L;have:=h x;simp only [List.flatMap_cons,List.length_append];omega
theorem yDI {out:List (List Int)} (h:zVO l b out) {i:Nat} (hi:i < l.length):(zUF l b out i).length≤(fu l b (nth l i).From).length:=by unfold zUF;split;rename_i ht;rw [z6X hd hD hi ht];exact z2M (z6Y hd hD h) _;exact h i hi
theorem zQT (i:Nat) (out:List (List Int)) (hi:i < l.length) (hl:out.length=l.length) (h:zVO l b out):zVO l b (out.set i (zUF l b out i)):=by intro j hj;rw [zSJ (by omega)];split;rename_i e;subst e;exact yDI hd hD h hi;exact h j hj
omit hD in
theorem yHB (hD:∀c,DD l l.length c) (r:Nat) (out:List (List Int)) (i:Nat) (hi:i < l.length) (h1:∀j,j < l.length→(b ||((nth l j).Tag== []))=true→DD l r (nth l j).From→nth out j=fu l b (nth l j).From) (ht:(b ||((nth l i).Tag== []))=true) (hr:DD l (r+1) (nth l i).From):zUF l b out i=fu l b (nth l i).From:=by
 rw [z6X hd hD hi ht];unfold zUF;rw [if_pos ht];refine zOE fun e he=>?_;have hde:=hr (nth l i) (zEA hd (w7 hi)) e he;unfold zHJ;cases hf:fi l e b with
 | some m=>
  obtain ⟨e1,e2,e3⟩:=zJS hf;show nth out m=_;rw [h1 m e1 e3 (by rw [e2];exact hde),e2]
 | none=>
  rcases zW5 hd e b with ⟨m,e1,_⟩ | ⟨_,e2⟩;rw [hf] at e1;cases e1;show hdE e=_;rw [zRH hD,e2]
def z2N (l:List Mapping) (b:Bool):List (List Int):=zI0 (zUF l b) l.length l.length (List.replicate l.length [])
omit hd hD in
theorem yIK:zVO l b (List.replicate l.length []):=by intro j hj;rw [zCN (by simpa using hj)];simp
theorem yKK (j:Nat) (hj:j < l.length) (ht:(b ||((nth l j).Tag== []))=true):nth (z2N l b) j=fu l b (nth l j).From:=by
 refine zY2 (upd:=zUF l b) (n:=l.length) (Inv:=zVO l b) (R:=fun r j=>j < l.length∧(b ||((nth l j).Tag== []))=true∧DD l r (nth l j).From) (t:=fun j=>fu l b (nth l j).From) (fun r j h=>⟨h.1,h.2.1,zLB h.2.2⟩) (zQT hd hD) (fun r out i hi hl _ h1 hr=>yHB hd hD r out i hi (fun j hj ht hr=>h1 j hj ⟨hj,ht,hr⟩) hr.2.1 hr.2.2) l.length 0 _ (by simp) yIK (fun j hj hr=>?_) j hj ⟨hj,ht,by rw [Nat.zero_add];exact hD _⟩
 have:l.find? (isF (nth l j).From)=none:=hr.2.2;rw [zEA hd (w7 hj)] at this;cases this
theorem yHC (e:Int):zHJ l b (z2N l b) e=fu l b e:=by
 unfold zHJ;cases hf:fi l e b with
 | some m=>
  obtain ⟨e1,e2,e3⟩:=zJS hf;show nth (z2N l b) m=_;rw [yKK hd hD m e1 e3,e2]
 | none=>
  rcases zW5 hd e b with ⟨m,e1,_⟩ | ⟨_,e2⟩;rw [hf] at e1;cases e1;show hdE e=_;rw [zRH hD,e2]
end
end Go.M
namespace Go.M
open Go.AV
def plF (n:Int):Bool→List Int→Bool×List Int
 | true,l=>(true,l)
 | false,[]=>(false,[])
 | false,x::l=>if n≤x then (true,if n < x then n::x::l else x::l) else ((plF n false l).1,x::(plF n false l).2)
def plE (n:Int):List Int→List Int
 | []=>[n]
 | x::l=>if n≤x then (if n < x then n::x::l else x::l) else x::plE n l
theorem yIL (n:Int):∀l:List Int,(if (plF n false l).1=true then (plF n false l).2 else (plF n false l).2++ [n])=plE n l
 | []=>rfl
 | x::l=>by
  have:=yIL n l;unfold plF plE;by_cases h:n≤x;simp [h];simp only [h,if_false];rw [←this];split <;> simp
theorem z44 {l:List Int} {n:Int} (hl:l.length≤2000):∀(d k:Nat) (b:Bool) (out:List Int),l.length - k=d→k≤l.length→out.length≤2*k→
    zE (fun (x:Bool×Int×(List Int))=>jP l n x.1 x.2.1 x.2.2) (b,(k:Int),out)=some ((plF n b (l.drop k)).1,out++(plF n b (l.drop k)).2):=by
  intro d
  induction d with
  | zero=>
    intro k b out h1 h2 h3;rw [List.drop_of_length_le (show l.length≤k by omega)];refine zL ?_;simp only [jP,kO (show l.length≤k by omega),cond_false];cases b <;> simp [plF]
  | succ d ih=>
    intro k b out h1 h2 h3;have hk:k < l.length:=by omega
    have ha:∀{o:List Int} (x:Int),o.length≤2*k+1→app o [x]=some (o++ [x]):=fun {o} x ho=>xN (by simp;omega)
    rw [List.drop_eq_getElem_cons hk];have nx:∀(b':Bool) (o':List Int),o'.length≤2*(k+1)→jP l n b (k:Int) out=some (.next (b',((k+1:Nat):Int),o'))→(plF n b' (l.drop (k+1))).1=(plF n b (l[k]::l.drop (k+1))).1→o'++(plF n b' (l.drop (k+1))).2=out++(plF n b (l[k]::l.drop (k+1))).2→
        zE (fun (x:Bool×Int×(List Int))=>jP l n x.1 x.2.1 x.2.2) (b,(k:Int),out)=some ((plF n b (l[k]::l.drop (k+1))).1,out++(plF n b (l[k]::l.drop (k+1))).2):=by
      intro b' o' ho hb e1 e2;rw [zR (body:=fun (x:Bool×Int×(List Int))=>jP l n x.1 x.2.1 x.2.2) (x:=(b,(k:Int),out)) hb,ih (k+1) b' o' (by omega) (by omega) ho,e1,e2]
    cases b with
    | true=>
      refine nx true (out++ [l[k]]) (by simp;omega) ?_ ?_ ?_
      · simp only [jP,yV hk,cond_true,zQ,Bool.not_true,vB,zA,Bool.false_and,cond_false,zU hk,ha _ (show out.length≤2*k+1 by omega),zO (k:=k) (by omega)]
      · simp [plF]
      · simp [plF]
    | false=>
      by_cases h4:n≤l[k]
      · by_cases h5:n < l[k]
        · refine nx true (out++ [n]++ [l[k]]) (by simp;omega) ?_ ?_ ?_
          · simp only [jP,yV hk,cond_true,zQ,Bool.not_false,xC,zA,Bool.true_and,zU hk,h4,h5,decide_true,ha _ (show out.length≤2*k+1 by omega),ha _ (show (out++ [n]).length≤2*k+1 by simp;omega),zO (k:=k) (by omega)]
          · simp [plF,h4]
          · simp [plF,h4,h5]
        · refine nx true (out++ [l[k]]) (by simp;omega) ?_ ?_ ?_
          · simp only [jP,yV hk,cond_true,zQ,Bool.not_false,xC,zA,Bool.true_and,zU hk,h4,h5,decide_true,decide_false,cond_false,ha _ (show out.length≤2*k+1 by omega),zO (k:=k) (by omega)]
          · simp [plF,h4]
          · simp [plF,h4,h5]
      · refine nx false (out++ [l[k]]) (by simp;omega) ?_ ?_ ?_
        · simp only [jP,yV hk,cond_true,zQ,Bool.not_false,xC,zA,Bool.true_and,zU hk,h4,decide_false,cond_false,ha _ (show out.length≤2*k+1 by omega),zO (k:=k) (by omega)]
        · simp [plF,h4]
        · simp [plF,h4]
theorem z6Z (n:Int):∀l:List Int,(plF n false l).2.length≤l.length+1
 | []=>by simp [plF]
 | x::l=>by
  have:=z6Z n l;unfold plF;by_cases h:n≤x;by_cases h5:n < x <;> simp [h,h5];simp only [h,if_false,List.length_cons];omega
theorem zPV {l:List Int} (hl:l.length≤2000) (n:Int):zDV l n=some (plE n l):=by
 unfold zDV;have h:=z44 (n:=n) hl l.length 0 false [] (by omega) (by omega) (by simp);have hlen:=z6Z n l;rw [List.drop_zero,List.nil_append] at h;have h':zE (fun (x:Bool×Int×(List Int))=>jP l n x.1 x.2.1 x.2.2) (false,0,[])=some ((plF n false l).1,(plF n false l).2):=h;rw [h',zA,←yIL];cases (plF n false l).1 with
 | true=>rfl
 | false=>simp only [Bool.not_false,cond_true,xN (show (plF n false l).2.length+ [n].length≤4294967296 by simp;omega),zA];rfl
def Gd (l:List Int):Prop:=l.Pairwise (· < ·)∧∀x∈l,0≤x∧x≤1114111
theorem zY4 (n:Int):∀{l:List Int} {x:Int},x∈plE n l→x=n∨x∈l
 | [],x,h=>by simp [plE] at h;exact .inl h
 | y::l,x,h=>by
  unfold plE at h;split at h;split at h;rcases List.mem_cons.1 h with h | h
  exact .inl h;exact .inr h;exact .inr h;rcases List.mem_cons.1 h with h | h
  exact .inr (by simp [h]);rcases zY4 n h with h | h
  exact .inl h;exact .inr (by simp [h])
theorem z60 (n:Int):∀{l:List Int},l.Pairwise (· < ·)→(plE n l).Pairwise (· < ·)
 | [],_=>by simp [plE]
 | y::l,h=>by
  obtain ⟨h1,h2⟩:=List.pairwise_cons.1 h;unfold plE;split;split;rename_i hn;refine List.pairwise_cons.2 ⟨fun z hz=>?_,h⟩;rcases List.mem_cons.1 hz with rfl | hz;exact hn;have:=h1 z hz;omega;exact h;rename_i hn;refine List.pairwise_cons.2 ⟨fun z hz=>?_,z60 n h2⟩;rcases zY4 n hz with rfl | hz;omega;exact h1 z hz
theorem zQU {n:Int} (hn:0≤n∧n≤1114111) {l:List Int} (h:Gd l):Gd (plE n l):=by
 refine ⟨z60 n h.1,fun x hx=>?_⟩;rcases zY4 n hx with rfl | hx
 exact hn;exact h.2 x hx
theorem zNF (n:Int):∀l:List Int,(plE n l).length≤l.length+1
 | []=>by simp [plE]
 | x::l=>by
  have:=zNF n l;unfold plE;split;split <;> simp;simp only [List.length_cons];omega
theorem zY5 {n:Int}:∀{l:List Int},(∀x∈l,x < n)→plE n l=l++ [n]
 | [],_=>rfl
 | y::l,h=>by
  have hy:=h y (by simp);unfold plE;rw [if_neg (by omega),zY5 fun x hx=>h x (by simp [hx])];rfl
def cuS (c:List Int) (r:Range):List Int:=if 0≤r.Hi∧r.Hi < 1114111 then plE (r.Hi+1) (if vld r.Lo=true then plE r.Lo c else c) else (if vld r.Lo=true then plE r.Lo c else c)
theorem z61 (c:List Int) (r:Range):(cuS c r).length≤c.length+2:=by
 have h1:=zNF r.Lo c;unfold cuS;split
 ·
  have h2:=zNF (r.Hi+1) (if vld r.Lo=true then plE r.Lo c else c);split at h2 <;> split <;> simp_all <;> omega
 · split <;> omega
theorem yKL {c:List Int} {r:Range} (h:Gd c):Gd (cuS c r):=by
 have h1:Gd (if vld r.Lo=true then plE r.Lo c else c):=by
  split;rename_i hv;unfold vld at hv;simp only [Bool.and_eq_true,decide_eq_true_eq] at hv;exact zQU hv h;exact h
 unfold cuS;split;exact zQU (by omega) h1;exact h1
def cuE (l:List Range) (c:List Int):List Int:=l.foldl cuS c
theorem zY6:∀(l:List Range) {c:List Int},Gd c→Gd (cuE l c)
 | [],_,h=>h
 | r::l,_,h=>zY6 l (yKL h)
theorem zY7:∀(l:List Range) (c:List Int),(cuE l c).length≤c.length+2*l.length
 | [],c=>by simp [cuE]
 | r::l,c=>by
  have h1:=zY7 l (cuS c r);have h2:=z61 c r;show (cuE l (cuS c r)).length≤_;simp only [List.length_cons];omega
theorem z9F {s:Set} (hl:s.Ranges.length≤12):∀(d k:Nat) (c:List Int),s.Ranges.length - k=d→k≤s.Ranges.length→c.length≤100+2*k→
    zE (fun (x:(List Int)×Int)=>vO s x.1 x.2) (c,(k:Int))=some (cuE (s.Ranges.drop k) c):=by
  intro d
  induction d with
  | zero=>
    intro k c h1 h2 h3;rw [List.drop_of_length_le (show s.Ranges.length≤k by omega)];refine zL ?_;simp only [vO,kO (show s.Ranges.length≤k by omega),cond_false];rfl
  | succ d ih=>
    intro k c h1 h2 h3;have hk:k < s.Ranges.length:=by omega
    have hs:=z61 c s.Ranges[k];have hb:vO s c (k:Int)=some (.next (cuS c s.Ranges[k],((k+1:Nat):Int))):=by
      have hp:=zNF s.Ranges[k].Lo c;simp only [vO,yV hk,cond_true,zU hk,zA,zE5,zQ,zO (k:=k) (by omega),zPV (show c.length≤2000 by omega)];unfold cuS;by_cases hv:vld s.Ranges[k].Lo=true
      · simp only [hv,cond_true,zA,if_true]
        by_cases ha:0≤s.Ranges[k].Hi
        · by_cases hc:s.Ranges[k].Hi < 1114111
          · simp only [ha,hc,decide_true,Bool.and_self,cond_true,and_self,if_true]
            rw [xS (n:=s.Ranges[k].Hi+1) (by omega) (by omega),zPV (by omega)];rfl
          · simp [ha,hc]
        · simp [ha]
      · simp only [hv,Bool.false_eq_true,if_false,cond_false,zA]
        by_cases ha:0≤s.Ranges[k].Hi
        · by_cases hc:s.Ranges[k].Hi < 1114111
          · simp only [ha,hc,decide_true,Bool.and_self,cond_true,and_self,if_true]
            rw [xS (n:=s.Ranges[k].Hi+1) (by omega) (by omega),zPV (by omega)];rfl
          · simp [ha,hc]
        · simp [ha]
    rw [zR (body:=fun (x:(List Int)×Int)=>vO s x.1 x.2) (x:=(c,(k:Int))) hb,ih (k+1) _ (by omega) (by omega) (by omega),List.drop_eq_getElem_cons hk];rfl
theorem z62 {s:Set} (hl:s.Ranges.length≤12) {c:List Int} (hc:c.length≤100):zF0 c s=some (plE 0 (cuE s.Ranges c)):=by unfold zF0;have h:=z9F hl s.Ranges.length 0 c (by omega) (by omega) (by omega);rw [List.drop_zero] at h;have h':zE (fun (x:(List Int)×Int)=>vO s x.1 x.2) (c,0)=some (cuE s.Ranges c):=h;have:=zY7 s.Ranges c;rw [h',zA,zPV (by omega)];rfl
def zGK (l:List Range) (c:Int):Bool:=l.any fun r=>vld c&&decide (r.Lo≤c)&&decide (c≤r.Hi)
theorem yDJ {s:Set} (hl:s.Ranges.length≤2000) (c:Int):zF1 s c=some (zGK s.Ranges c):=by
 unfold zF1;have h:=jC (body:=fun (x:Int)=>zD4 s c x) s.Ranges.length (fun k=> ¬(vld c&&decide ((nth s.Ranges k).Lo≤c)&&decide (c≤(nth s.Ranges k).Hi))=true) (fun y=>y=true) (fun k hk=>by
  simp only [zD4,yV hk,cond_true,zE5,zA,zQ,z5 hk,zO (k:=k) (by omega)];cases hv:vld c with
  | false=>simp only [vB,zA,Bool.false_and,cond_false];exact .inl ⟨by simp,trivial⟩
  | true=>
   simp only [xC,zA,Bool.true_and];by_cases h1:(nth s.Ranges k).Lo≤c;simp only [h1,decide_true,xC,zA,Bool.true_and];exact zAQ (by simp) rfl;simp only [h1,decide_false,vB,zA,Bool.false_and,cond_false];exact .inl ⟨by simp,trivial⟩) (fun k hk=>by simp only [zD4,kO hk,cond_false])
 rw [zCY (p:=fun r:Range=> ¬(vld c&&decide (r.Lo≤c)&&decide (c≤r.Hi))=true)] at h;rcases h with ⟨h,p⟩ | ⟨y,rfl,h,p⟩
 rw [h];have:zGK s.Ranges c=false:=by unfold zGK;rw [List.any_eq_false];exact p
 rw [this];rfl;rw [h];have:zGK s.Ranges c=true:=by
  cases he:zGK s.Ranges c with
  | true=>rfl
  | false=>exfalso;apply p;unfold zGK at he;rw [List.any_eq_false] at he;exact he
 rw [this];rfl
def nxt:List Int→Int
 | []=>1114111
 | d::_=>d - 1
def coF (has:Int→Bool):List Int→Bool→List Range→List Range
 | [],_,o=>o
 | c::cs,op,o=>if has c=true then (if op=true then coF has cs true (match o with
   | q::o'=>{q with Hi:=nxt cs}::o'
   | []=>[]) else coF has cs true ({Lo:=c,Hi:=nxt cs}::o)) else coF has cs false o
theorem yHD {C:List Int} {s:Set} (hl:s.Ranges.length≤12) (hC:C.length≤200) (hg:Gd C):∀(d k:Nat) (op:Bool) (o:List Range),C.length - k=d→k≤C.length→o.length≤k→(op=true→o≠[])→
    zE (fun (x:Bool×Int×(List Range))=>jF C s {Ranges:=[]} 1 x.1 x.2.1 x.2.2) (op,(k:Int),o.reverse)=some (coF (zGK s.Ranges) (C.drop k) op o).reverse:=by
  intro d
  induction d with
  | zero=>
    intro k op o h1 h2 h3 h4;rw [List.drop_of_length_le (show C.length≤k by omega)];refine zL ?_;simp only [jF,kO (show C.length≤k by omega),cond_false];rfl
  | succ d ih=>
    intro k op o h1 h2 h3 h4;have hk:k < C.length:=by omega
    have he:zF1 {Ranges:=[]} C[k]=some false:=by rw [yDJ (by simp)];rfl
    have hnx:(cond (decide (((k+1:Nat):Int) < (C.length:Int))) ((z7 C ((k+1:Nat):Int)).bind fun t31=>some (wi (t31 - 1))) (some 1114111):Option Int)=some (nxt (C.drop (k+1))):=by
      by_cases hk1:k+1 < C.length
      · have:=hg.2 _ (List.getElem_mem hk1)
        rw [yV hk1,cond_true,zU hk1,zA,xS (by omega) (by omega),List.drop_eq_getElem_cons hk1];rfl
      · rw [kO (by omega),cond_false,List.drop_of_length_le (by omega)]
        rfl
    rw [List.drop_eq_getElem_cons hk];have nx:∀(op':Bool) (o':List Range),o'.length≤k+1→(op'=true→o'≠[])→jF C s {Ranges:=[]} 1 op (k:Int) o.reverse=some (.next (op',((k+1:Nat):Int),o'.reverse))→coF (zGK s.Ranges) (C.drop (k+1)) op' o'=coF (zGK s.Ranges) (C[k]::C.drop (k+1)) op o→
        zE (fun (x:Bool×Int×(List Range))=>jF C s {Ranges:=[]} 1 x.1 x.2.1 x.2.2) (op,(k:Int),o.reverse)=some (coF (zGK s.Ranges) (C[k]::C.drop (k+1)) op o).reverse:=by
      intro op' o' ho hne hb e;rw [zR (body:=fun (x:Bool×Int×(List Range))=>jF C s {Ranges:=[]} 1 x.1 x.2.1 x.2.2) (x:=(op,(k:Int),o.reverse)) hb,ih (k+1) op' o' (by omega) (by omega) ho hne,e]
    have hb0:jF C s {Ranges:=[]} 1 op (k:Int) o.reverse=((cond (zGK s.Ranges C[k]&&op) ((z7 o.reverse (wi ((o.reverse.length:Int) - 1))).bind fun t59=>(u7 o.reverse (wi ((o.reverse.length:Int) - 1)) ({t59 with Hi:=nxt (C.drop (k+1))})).bind fun r4160_4=>some r4160_4) (some o.reverse)).bind fun (y3:List Range)=>
        (cond (zGK s.Ranges C[k]&& !op) ((app y3 [({Lo:=C[k],Hi:=nxt (C.drop (k+1))}:Range)]).bind fun r=>some r) (some y3)).bind fun (y5:List Range)=>some (Stp.next (zGK s.Ranges C[k],((k+1:Nat):Int),y5))):=by
      unfold jF;simp only [zO (k:=k) (show k+1≤9223372036854775807 by omega),yV hk,cond_true,hnx,zA,zU hk,yDJ (show s.Ranges.length≤2000 by omega),he,zJG,decide_true,zQ,Bool.or_false]
    cases hh:zGK s.Ranges C[k] with
    | false=>
      refine nx false o (by omega) (fun h=>by cases h) ?_ ?_
      · rw [hb0,hh];rfl
      · simp [coF,hh]
    | true=>
      cases op with
      | false=>
        refine nx true ({Lo:=C[k],Hi:=nxt (C.drop (k+1))}::o) (by simp;omega) (fun _=>by simp) ?_ ?_
        · rw [hb0,hh]
          simp only [Bool.and_false,cond_false,zA,Bool.not_false,Bool.and_self,cond_true,xN (show o.reverse.length+ [({Lo:=C[k],Hi:=nxt (C.drop (k+1))}:Range)].length≤4294967296 by simp;omega)]
          simp
        · simp [coF,hh]
      | true=>
        cases o with
        | nil=>exact absurd rfl (h4 rfl)
        | cons q o=>
          refine nx true ({q with Hi:=nxt (C.drop (k+1))}::o) (by simp only [List.length_cons] at h3 ⊢;omega) (fun _=>by simp) ?_ ?_
          · rw [hb0,hh]
            have e1:wi (((q::o).reverse.length:Int) - 1)=((o.length:Nat):Int):=by
              simp only [List.length_cons] at h3;have hL:((q::o).reverse.length:Int)=(o.length:Int)+1:=by simp
              rw [hL,xS (by omega) (by omega)];omega
            have e2:(q::o).reverse=o.reverse++q:: []:=by simp
            rw [e1,e2,wT (by simp),zA,uZ (by simp)];simp
          · simp [coF,hh]
theorem yDK {l:List Range} (hl:l.length≤12):zII l=some {Ranges:=(coF (zGK l) (plE 0 (plE 0 (cuE l []))) false []).reverse}:=by unfold zII zGP;have h1:=zY7 l [];have h2:=zNF 0 (cuE l []);have h3:=zNF 0 (plE 0 (cuE l []));simp only [List.length_nil] at h1;have e0:cuE ([]:List Range) (plE 0 (cuE l []))=plE 0 (cuE l []):=rfl;have hg:Gd (plE 0 (plE 0 (cuE l []))):=zQU (by omega) (zQU (by omega) (zY6 l ⟨.nil,fun x hx=>by cases hx⟩));rw [z62 (s:={Ranges:=l}) hl (by simp),zA,z62 (s:={Ranges:=[]}) (by simp) (show (plE 0 (cuE l [])).length≤100 by omega)];rw [zA];have h:=yHD (s:={Ranges:=l}) hl (by omega) hg _ 0 false [] rfl (by omega) (by simp) (fun h=>by cases h);rw [List.drop_zero] at h;have h':zE (fun (x:Bool×Int×(List Range))=>jF (plE 0 (plE 0 (cuE l []))) {Ranges:=l} {Ranges:=[]} 1 x.1 x.2.1 x.2.2) (false,0,[])=some (coF (zGK l) (plE 0 (plE 0 (cuE l []))) false []).reverse:=h;change ((zE (fun (x:Bool×Int×(List Range))=>jF (plE 0 (plE 0 (cuE l []))) {Ranges:=l} {Ranges:=[]} 1 x.1 x.2.1 x.2.2) (false,0,[])).bind fun y1=>some ({Ranges:=y1}:Set)).bind (fun t6=>some t6)=_;rw [h'];rfl
end Go.M
namespace Go.M
open Go.AV
theorem zSN {has:Int→Bool}:∀(C:List Int) (op:Bool) (o:List Range),Gd C→CanR o→(op=true→∀c,C.head? =some c→∃q o',o=q::o'∧q.Hi=c - 1∧q.Lo≤c)→(op=false→∀c q,C.head? =some c→o.head? =some q→q.Hi+1 < c)→(op=true→o≠[])→CanR (coF has C op o)
 | [],_,_,_,h,_,_,_=>h
 | c::cs,op,o,hg,ho,h1,h2,h3=>by
  obtain ⟨ha,hb⟩:=List.pairwise_cons.1 hg.1;have hgs:Gd cs:=⟨hb,fun x hx=>hg.2 x (by simp [hx])⟩;have hc:=hg.2 c (by simp);have hnx:c≤nxt cs∧nxt cs≤1114111∧∀d,cs.head? =some d→nxt cs=d - 1∧c < d:=by
   cases cs with
   | nil=>exact ⟨hc.2,Int.le_refl _,fun d hd=>by cases hd⟩
   | cons d cs=>
    have h5:=ha d (by simp);have h6:=hg.2 d (by simp);refine ⟨show c≤d - 1 by omega,show d - 1≤1114111 by omega,fun e he=>?_⟩;simp only [List.head?_cons,Option.some.injEq] at he;subst he;exact ⟨rfl,h5⟩
  unfold coF;split;split;rename_i hop;obtain ⟨q,o',rfl,e1,e2⟩:=h1 hop c rfl;refine zSN cs true _ hgs ?_ (fun _ d hd=>⟨_,_,rfl,(hnx.2.2 d hd).1,?_⟩) (fun h=>by cases h) (fun _=>by simp);have hq:=ho.head;unfold zCZ at hq;cases o' with
  | nil=>show zCZ _;unfold zCZ;simp only;omega
  | cons z o'=>exact ⟨by unfold zCZ;simp only;omega,ho.2.1,ho.2.2⟩
  have:=(hnx.2.2 d hd).2;show q.Lo≤d;omega;rename_i hop;simp only [Bool.not_eq_true] at hop;refine zSN cs true _ hgs ?_ (fun _ d hd=>⟨_,_,rfl,(hnx.2.2 d hd).1,?_⟩) (fun h=>by cases h) (fun _=>by simp);cases o with
  | nil=>show zCZ _;unfold zCZ;simp only;omega
  | cons z o'=>exact ⟨by unfold zCZ;simp only;omega,h2 hop c z rfl rfl,ho⟩
  have:=(hnx.2.2 d hd).2;show c≤d;omega;refine zSN cs false o hgs ho (fun h=>by cases h) (fun _ d q hd hq=>?_) (fun h=>by cases h);have h7:=(hnx.2.2 d hd).2;cases op with
  | true=>
   obtain ⟨q',o',rfl,e1,_⟩:=h1 rfl c rfl;simp only [List.head?_cons,Option.some.injEq] at hq;subst hq;omega
  | false=>
   have:=h2 rfl c q rfl hq;omega
def zLV (l:List Range):List Int:=l.flatMap fun r=>r.Lo::if r.Hi < 1114111 then [r.Hi+1] else []
theorem yDL:∀(l:List Range) (c:List Int),Can l→(∀x∈c,∀r,l.head? =some r→x < r.Lo)→cuE l c=c++zLV l
 | [],c,_,_=>by simp [cuE,zLV]
 | r::l,c,h,hc=>by
  have hr:=h.head;unfold zCZ at hr;have hv:vld r.Lo=true:=by unfold vld;simp;omega
  have e1:plE r.Lo c=c++ [r.Lo]:=zY5 fun x hx=>hc x hx r rfl;have e2:cuS c r=c++(r.Lo::if r.Hi < 1114111 then [r.Hi+1] else []):=by
   unfold cuS;rw [if_pos hv,e1];by_cases hm:r.Hi < 1114111;rw [if_pos ⟨by omega,hm⟩,if_pos hm,zY5];simp;intro x hx;rcases List.mem_append.1 hx with hx | hx
   have:=hc x hx r rfl;omega;simp only [List.mem_singleton] at hx;omega;rw [if_neg (fun h=>hm h.2),if_neg hm]
  show cuE l (cuS c r)=_;rw [yDL l (cuS c r) h.tail,e2];simp [zLV];intro x hx q hq;have hg:r.Hi+1 < q.Lo:=h.gap q (by cases l with | nil=>cases hq | cons a l=>simp only [List.head?_cons,Option.some.injEq] at hq;simp [hq])
  rw [e2] at hx;rcases List.mem_append.1 hx with hx | hx
  have:=hc x hx r rfl;omega;rcases List.mem_cons.1 hx with rfl | hx
  omega;split at hx;simp only [List.mem_singleton] at hx;omega;cases hx
theorem yKM {l:List Range} (h:Can l) {r:Range} (hr:r∈l):zGK l r.Lo=true:=by have:=h.ok r hr;unfold zCZ at this;unfold zGK;refine List.any_eq_true.2 ⟨r,hr,?_⟩;unfold vld;simp;omega
theorem yDM:∀{l:List Range},Can l→∀{r:Range},r∈l→zGK l (r.Hi+1)=false
 | [],_,r,hr=>by cases hr
 | a::l,h,r,hr=>by
  unfold zGK;rw [List.any_eq_false];intro q hq;have no:∀(c:Int) (q:Range),(c < q.Lo∨q.Hi < c)→¬(vld c&&decide (q.Lo≤c)&&decide (c≤q.Hi))=true:=by
   intro c q hc;simp only [Bool.and_eq_true,decide_eq_true_eq];omega
  rcases List.mem_cons.1 hr with rfl | hr';refine no _ _ ?_;rcases List.mem_cons.1 hq with rfl | hq;omega;have:=h.gap q hq;omega;rcases List.mem_cons.1 hq with rfl | hq;refine no _ _ ?_;have h1:=h.gap r hr';have h2:=h.tail.ok r hr';unfold zCZ at h2;omega;have:=yDM h.tail hr';unfold zGK at this;rw [List.any_eq_false] at this;exact this q hq
theorem z63 {has:Int→Bool}:∀(l:List Range) (o:List Range),Can l→(∀r∈l,has r.Lo=true∧(r.Hi < 1114111→has (r.Hi+1)=false))→coF has (zLV l) false o=l.reverse++o
  | [],o,_,_=>by simp [zLV,coF]
  | r::l,o,h,hh=>by
    obtain ⟨h1,h2⟩:=hh r (by simp);have ih:=z63 (has:=has) l (r::o) h.tail fun q hq=>hh q (by simp [hq]);have hr:=h.head;unfold zCZ at hr;by_cases hm:r.Hi < 1114111
    · have e:zLV (r::l)=r.Lo::(r.Hi+1)::zLV l:=by simp [zLV,hm]
      have en:nxt ((r.Hi+1)::zLV l)=r.Hi:=by show r.Hi+1 - 1=r.Hi;omega
      rw [e];unfold coF;rw [if_pos h1,if_neg (by simp),en];unfold coF;rw [if_neg (by rw [h2 hm];simp),ih]
      simp
    · have hl:l= []:=by
        cases l with
        | nil=>rfl
        | cons q l=>
          have:=h.2.1;have h3:=h.tail.head;unfold zCZ at h3;omega
      subst hl;have e:zLV [r]= [r.Lo]:=by simp [zLV,hm]
      rw [e];unfold coF;rw [if_pos h1,if_neg (by simp)];unfold coF;have:nxt []=r.Hi:=by show (1114111:Int)=r.Hi;omega
      rw [this];rfl
theorem yDN {l:List Int} (h:Gd l):plE 0 (plE 0 l)=plE 0 l:=by
 cases l with
 | nil=>rfl
 | cons x l=>
  have:=h.2 x (by simp);by_cases hx:0 < x;have e:plE 0 (x::l)=0::x::l:=by unfold plE;rw [if_pos (by omega),if_pos hx]
  rw [e];unfold plE;rw [if_pos (by omega),if_neg (by omega)];have e:plE 0 (x::l)=x::l:=by unfold plE;rw [if_pos (by omega),if_neg hx]
  rw [e,e]
theorem yDO {l:List Range} (h:Can l):(coF (zGK l) (plE 0 (plE 0 (cuE l []))) false []).reverse=l:=by
 rw [yDN (zY6 l ⟨.nil,fun x hx=>by cases hx⟩),yDL l [] h (fun x hx=>by cases hx),List.nil_append];have hw:=z63 (has:=zGK l) l [] h fun r hr=>⟨yKM h hr,fun _=>yDM h hr⟩;rw [List.append_nil] at hw;have h0:plE 0 (zLV l)=zLV l∨(plE 0 (zLV l)=0::zLV l∧zGK l 0=false):=by
  cases l with
  | nil=>exact .inr ⟨rfl,rfl⟩
  | cons r l=>
   have hr:=h.head;unfold zCZ at hr;have e:zLV (r::l)=r.Lo::((if r.Hi < 1114111 then [r.Hi+1] else [])++zLV l):=by simp [zLV]
   rw [e];by_cases hx:0 < r.Lo;refine .inr ⟨by unfold plE;rw [if_pos (by omega),if_pos hx],?_⟩
   unfold zGK;rw [List.any_eq_false];intro q hq;simp only [Bool.and_eq_true,decide_eq_true_eq];rcases List.mem_cons.1 hq with rfl | hq
   omega;have:=h.gap q hq;omega;exact .inl (by unfold plE;rw [if_pos (by omega),if_neg hx])
 rcases h0 with h0 | ⟨h0,h1⟩;rw [h0,hw,List.reverse_reverse];rw [h0];unfold coF;rw [if_neg (by rw [h1];simp),hw,List.reverse_reverse]
theorem z9H (l:List Range):Can (coF (zGK l) (plE 0 (plE 0 (cuE l []))) false []).reverse:=by have hg:Gd (plE 0 (plE 0 (cuE l []))):=zQU (by omega) (zQU (by omega) (zY6 l ⟨.nil,fun x hx=>by cases hx⟩));have:=zSN (has:=zGK l) _ false [] hg trivial (fun h=>by cases h) (fun _ c q _ hq=>by cases hq) (fun h=>by cases h);have h2:=zYS _ [] this trivial (fun _ _ _ h=>by cases h);simpa using h2
theorem yHE {a b:Set} (ha:a.Ranges.length≤2000):zIJ a b=some (decide (a.Ranges=b.Ranges)):=by
 unfold zIJ;by_cases hl:a.Ranges.length=b.Ranges.length;have e:(!decide ((a.Ranges.length:Int)=(b.Ranges.length:Int)))=false:=by simp [hl]
 rw [e,cond_false];have h:=jC (body:=fun (x:Int)=>zDB a b x) a.Ranges.length (fun k=>nth a.Ranges k=nth b.Ranges k) (fun y=>y=false) (fun k hk=>by
  simp only [zDB,yV hk,cond_true,z5 hk,z5 (show k < b.Ranges.length by omega),zA,zO (k:=k) (by omega)];exact zAQ (by simp) rfl) (fun k hk=>by simp only [zDB,kO hk,cond_false])
 have he:(∀j,j < a.Ranges.length→nth a.Ranges j=nth b.Ranges j)↔a.Ranges=b.Ranges:=by
  constructor;intro h;refine List.ext_getElem hl fun i h1 h2=>?_;have:=h i h1
  rwa [zCN h1,zCN h2] at this
  intro h j _;rw [h]
 rw [he] at h;rcases h with ⟨h,p⟩ | ⟨y,rfl,h,p⟩
 rw [h];simp [p];rw [h];simp [p];have e:(!decide ((a.Ranges.length:Int)=(b.Ranges.length:Int)))=true:=by simp;omega
 rw [e,cond_true];have:a.Ranges≠b.Ranges:=fun h=>hl (by rw [h]);simp [this]
theorem yKN {s:Set} (hl:s.Ranges.length≤12):∃b,zG6 s=some b∧(b=true↔Can s.Ranges):=by unfold zG6;rw [yDK hl,zA,yHE (by omega),zA];refine ⟨_,rfl,?_⟩;simp only [decide_eq_true_eq];constructor;intro h;rw [h];exact z9H _;intro h;rw [yDO h]
end Go.M
namespace Go.M
open Go.AV
theorem zY8 {l:List Mapping} (hl:l.length≤2000) (c:Int) (b:Bool):zDW l c b=some (fiI l c b):=by
 unfold zDW;have h:zE (fun (x:Int)=>zDC l c b x) 0=some (toS (chk (fun k m=>(pM c b k m).map fun (i:Nat)=>(i:Int)) l 0)):=by
  refine j7 l _ (fun k hk=>?_) (fun k hk=>?_);simp only [zDC,yV hk,cond_true,zU hk,zA,zQ,zO (k:=k) (by omega),pM];by_cases h1:l[k].From=c;cases b with
  | true=>simp [h1,vB,stp]
  | false=>
   cases ht:(l[k].Tag== []) with
   | true=>simp only [h1,decide_true,Bool.not_false,Bool.and_self,xC,zA,Bool.false_or,ht,Bool.true_and,cond_true,and_self,if_true,Option.map_some,stp]
   | false=>simp only [h1,decide_true,Bool.not_false,Bool.and_self,xC,zA,Bool.false_or,ht,Bool.true_and,cond_false,Bool.false_eq_true,and_false,if_false,Option.map_none,stp]
  simp [h1,vB,stp];simp only [zDC,kO hk,cond_false]
 rw [h,zA,jR];have e:∀(L:List Mapping) (k:Nat),chk (fun k m=>(pM c b k m).map fun (i:Nat)=>(i:Int)) L k=(chk (pM c b) L k).map fun (i:Nat)=>(i:Int):=by
  intro L
  induction L with
  | nil=>intro k;rfl
  | cons x L ih=>
   intro k;unfold chk;cases pM c b k x with
   | none=>exact ih (k+1)
   | some y=>rfl
 rw [e];unfold fiI fi;cases chk (pM c b) l 0 <;> rfl
theorem yDP (c:Int):zF2 c=some (hkE c):=by
 unfold zF2 hkE;simp only [zQ];by_cases h1:4352≤c∧c < 4371;rw [if_pos h1];have:(decide (4352≤c)&&decide (c≤4370))=true:=by simp;omega
 rw [this];rfl;rw [if_neg h1];have e1:(decide (4352≤c)&&decide (c≤4370))=false:=by simp only [Bool.and_eq_false_iff,decide_eq_false_iff_not];omega
 rw [e1,cond_false];by_cases h2:4449≤c∧c < 4470;rw [if_pos h2];have:(decide (4449≤c)&&decide (c≤4469))=true:=by simp;omega
 rw [this];rfl;rw [if_neg h2];have e2:(decide (4449≤c)&&decide (c≤4469))=false:=by simp only [Bool.and_eq_false_iff,decide_eq_false_iff_not];omega
 rw [e2,cond_false];by_cases h3:4520≤c∧c < 4547;rw [if_pos h3];have:(decide (4520≤c)&&decide (c≤4546))=true:=by simp;omega
 rw [this];rfl;rw [if_neg h3];have e3:(decide (4520≤c)&&decide (c≤4546))=false:=by simp only [Bool.and_eq_false_iff,decide_eq_false_iff_not];omega
 rw [e3,cond_false];by_cases h4:c < 44032∨55204≤c;rw [if_pos h4];have:(decide (44032≤c)&&decide (c≤55203))=false:=by simp only [Bool.and_eq_false_iff,decide_eq_false_iff_not];omega
 rw [this];rfl;rw [if_neg h4];have e4:(decide (44032≤c)&&decide (c≤55203))=true:=by simp;omega
 rw [e4,cond_true,xS (n:=c - 44032) (by omega) (by omega)];have er:zI2 (c - 44032) 28=some ((c - 44032) % 28):=by
  unfold zI2;rw [if_neg (by decide),Int.tmod_eq_emod_of_nonneg (by omega)]
 rw [er,zA];by_cases h5:(c - 44032) % 28=0 <;> simp [h5]
theorem yIM (c:Int):zA2 c=some (hdE c):=by
 unfold zA2;rw [yDP,zA];cases hs:syl c with
 | false=>
  have:decide (hkE c < 4)=true:=by
   simp only [decide_eq_true_eq];have:¬4≤hkE c:=fun h=>by have:=(zH4 c).2 h;rw [hs] at this;cases this
   omega
  rw [this,cond_true];unfold hdE;rw [if_neg (by simp [hs])]
 | true=>
  have h4:=(zH4 c).1 hs;have:decide (hkE c < 4)=false:=by simp only [decide_eq_false_iff_not];omega
  rw [this,cond_false];have hr:44032≤c∧c≤55203:=by unfold syl at hs;simpa using hs
  rw [xS (n:=c - 44032) (by omega) (by omega)];have d1:zL7 wi (c - 44032) 28=some ((c - 44032) / 28):=by
   unfold zL7;rw [if_neg (by decide),Int.tdiv_eq_ediv_of_nonneg (by omega),xS (by omega) (by omega)]
  have d2:zL7 wi ((c - 44032) / 28) 21=some ((c - 44032) / 28 / 21):=by
   unfold zL7;rw [if_neg (by decide),Int.tdiv_eq_ediv_of_nonneg (by omega),xS (by omega) (by omega)]
  have d3:zI2 ((c - 44032) / 28) 21=some ((c - 44032) / 28 % 21):=by
   unfold zI2;rw [if_neg (by decide),Int.tmod_eq_emod_of_nonneg (by omega)]
  have d4:zI2 (c - 44032) 28=some ((c - 44032) % 28):=by
   unfold zI2;rw [if_neg (by decide),Int.tmod_eq_emod_of_nonneg (by omega)]
  simp only [d1,d2,d3,d4,zA];unfold hdE;rw [if_pos hs,xS (n:=4352+(c - 44032) / 28 / 21) (by omega) (by omega),xS (n:=4449+(c - 44032) / 28 % 21) (by omega) (by omega)];by_cases h0:0 < (c - 44032) % 28;rw [if_pos h0,xS (n:=4520+(c - 44032) % 28) (by omega) (by omega),xS (n:=4520+(c - 44032) % 28 - 1) (by omega) (by omega)];simp only [h0,decide_true,cond_true];rw [xN (by simp)];rfl;rw [if_neg h0];simp only [h0,decide_false,cond_false];rfl
section
variable {l:List Mapping} (hl:l.length≤2000) (hto:∀m∈l,m.To.length≤2000)
include hl hto
theorem yHF {out:List Bool} (ho:out.length=l.length) {i:Nat} (hi:i < l.length):∀(d k:Nat) (b:Bool),(nth l i).To.length - k=d→k≤(nth l i).To.length→
  zE (fun (x:Bool×Int)=>vP l (i:Int) out x.1 x.2) (b,(k:Int))=some (b&&((nth l i).To.drop k).all fun e=>match fi l e true with | some m=>nth out m | none=>true):=by
 have hlen:=hto _ (w7 hi);intro d
 induction d with
 | zero=>
  intro k b h1 h2;rw [List.drop_of_length_le (show (nth l i).To.length≤k by omega)];refine zL ?_;simp only [vP,z5 hi,zA,kO (show (nth l i).To.length≤k by omega),cond_false,List.all_nil,Bool.and_true]
 | succ d ih=>
  intro k b h1 h2;have hk:k < (nth l i).To.length:=by omega
  have hb:vP l (i:Int) out b (k:Int)=some (.next (b&&(match fi l (nth l i).To[k] true with | some m=>nth out m | none=>true),((k+1:Nat):Int))):=by
   simp only [vP,z5 hi,zA,yV hk,cond_true,zU hk,zY8 hl,zQ,zO (k:=k) (by omega)];unfold fiI;cases hf:fi l (nth l i).To[k] true with
   | none=>simp [vB]
   | some m=>
    obtain ⟨h3,_,_⟩:=zJS hf;have e:decide (((m:Nat):Int) < 0)=false:=by simp
    simp only [e,Bool.not_false,Bool.and_true,Bool.false_or];cases b with
    | false=>simp [vB]
    | true=>simp only [xC,z5 (show m < out.length by omega),zA,Bool.true_and]
  rw [zR (body:=fun (x:Bool×Int)=>vP l (i:Int) out x.1 x.2) (x:=(b,(k:Int))) hb,ih (k+1) _ (by omega) (by omega),List.drop_eq_getElem_cons hk,List.all_cons,Bool.and_assoc]
theorem yHG:zIK l=some (zI0 (zOG l) l.length l.length (List.replicate l.length false)):=by
 unfold zIK;rw [zT3 (by omega),zA];have h1:∀(out:List Bool),out.length=l.length→zE (fun (x:Int×(List Bool))=>zBM l x.1 x.2) (0,out)=some (zPS (zOG l) l.length 0 out):=fun out ho=>
  zPT (upd:=zOG l) (n:=l.length) (Inv:=fun _=>True) (body:=fun (x:Int×(List Bool))=>zBM l x.1 x.2) (fun i out=>((i:Int),out)) id (fun i out hi ho _=>by
   have:=yHF hl hto ho hi _ 0 true rfl (by omega);rw [List.drop_zero,Bool.true_and] at this;have h':zE (fun (x:Bool×Int)=>vP l (i:Int) out x.1 x.2) (true,0)=some (zOG l out i):=this;simp only [zBM,yV hi,cond_true,h',zA,z5 (show i < out.length by omega),zFQ (show i < out.length by omega),zO (k:=i) (by omega)]) (fun _ _ _ _ _=>trivial) (fun out=>by simp only [zBM,kO (Nat.le_refl _),cond_false];rfl) l.length 0 out (by omega) ho trivial
 have h2:=zPU (upd:=zOG l) (n:=l.length) (Inv:=fun _=>True) (body:=fun (x:Int×(List Bool))=>zBN l x.1 x.2) (fun i out=>((i:Int),out)) id (N:=l.length) (fun r out hr ho _=>by
  simp only [zBN,yV hr,cond_true,h1 out ho,zA,zO (k:=r) (by omega)]) (fun _ _ _ _ _=>trivial) (fun out=>by simp only [zBN,kO (Nat.le_refl _),cond_false];rfl) l.length 0 (List.replicate l.length false) (by omega) (by simp) trivial
 have h3:zE (fun (x:Int×(List Bool))=>zBN l x.1 x.2) (0,List.replicate l.length false)=some (zI0 (zOG l) l.length l.length (List.replicate l.length false)):=h2;rw [h3];rfl
theorem yHH {b:Bool} {out:List Int} (ho:out.length=l.length) (hv:zY3 out) {i:Nat} (hi:i < l.length):∀(d k:Nat) (n:Int),(nth l i).To.length - k=d→k≤(nth l i).To.length→0≤n→n≤100*(k:Int)→
  zE (fun (x:Int×Int)=>xK l (i:Int) b out x.1 x.2) (n,(k:Int))=some (n+(((nth l i).To.drop k).map (lenOf l b out)).sum):=by
 have hlen:=hto _ (w7 hi);intro d
 induction d with
 | zero=>
  intro k n h1 h2 h3 h4;rw [List.drop_of_length_le (show (nth l i).To.length≤k by omega)];refine zL ?_;simp only [xK,z5 hi,zA,kO (show (nth l i).To.length≤k by omega),cond_false,List.map_nil,List.sum_nil,Int.add_zero]
 | succ d ih=>
  intro k n h1 h2 h3 h4;have hk:k < (nth l i).To.length:=by omega
  have hbd:0≤lenOf l b out (nth l i).To[k]∧lenOf l b out (nth l i).To[k]≤65:=by
   unfold lenOf;cases hf:fi l (nth l i).To[k] b with
   | none=>have:=zOD (nth l i).To[k];simp only [];omega
   | some m=>obtain ⟨h3,_,_⟩:=zJS hf;exact hv _ (w7 (by omega))
  have hb:xK l (i:Int) b out n (k:Int)=some (.next (n+lenOf l b out (nth l i).To[k],((k+1:Nat):Int))):=by
   have hw:wi (n+lenOf l b out (nth l i).To[k])=n+lenOf l b out (nth l i).To[k]:=xS (by omega) (by omega);simp only [xK,z5 hi,zA,yV hk,cond_true,zU hk,zY8 hl,zO (k:=k) (by omega),yIM];rw [←hw];unfold lenOf fiI;cases hf:fi l (nth l i).To[k] b with
   | none=>rfl
   | some m=>
    obtain ⟨h3,_,_⟩:=zJS hf;have e:decide (0≤((m:Nat):Int))=true:=by simp
    simp only [e,cond_true,z5 (show m < out.length by omega),zA]
  rw [zR (body:=fun (x:Int×Int)=>xK l (i:Int) b out x.1 x.2) (x:=(n,(k:Int))) hb,ih (k+1) _ (by omega) (by omega) (by omega) (by omega),List.drop_eq_getElem_cons hk,List.map_cons,List.sum_cons,Int.add_assoc]
theorem z64 (b:Bool):zDD l b=some (zI0 (updL l b) l.length l.length (List.replicate l.length 0)):=by
 unfold zDD;rw [zT3 (by omega),zA];have h0:zY3 (List.replicate l.length 0):=fun x hx=>by rw [(List.mem_replicate.1 hx).2];omega
 have h1:∀(out:List Int),out.length=l.length→zY3 out→zE (fun (x:Int×(List Int))=>vM l b x.1 x.2) (0,out)=some (zPS (updL l b) l.length 0 out):=fun out ho hv=>
  zPT (upd:=updL l b) (n:=l.length) (Inv:=zY3) (body:=fun (x:Int×(List Int))=>vM l b x.1 x.2) (fun i out=>((i:Int),out)) id (fun i out hi ho hv=>by
   have:=yHH hl hto (b:=b) ho hv hi _ 0 0 rfl (by omega) (by omega) (by omega);rw [List.drop_zero,Int.zero_add] at this;have h':zE (fun (x:Int×Int)=>xK l (i:Int) b out x.1 x.2) (0,0)=some (((nth l i).To.map (lenOf l b out)).sum):=this;simp only [vM,yV hi,cond_true,h',zA,z5 (show i < out.length by omega),zFQ (show i < out.length by omega),z5 hi,zQ,zO (k:=i) (by omega)];unfold updL;cases b with
   | true=>simp
   | false=>
    cases ht:((nth l i).Tag== []) with
    | true=>simp
    | false=>simp [z5 (show i < (out.set i (min (max (List.map (lenOf l false out) (nth l i).To).sum 1) 65)).length by simp;omega),zFQ (show i < (out.set i (min (max (List.map (lenOf l false out) (nth l i).To).sum 1) 65)).length by simp;omega)]) zQS (fun out=>by simp only [vM,kO (Nat.le_refl _),cond_false];rfl) l.length 0 out (by omega) ho hv
 have h2:=zPU (upd:=updL l b) (n:=l.length) (Inv:=zY3) (body:=fun (x:Int×(List Int))=>vN l b x.1 x.2) (fun i out=>((i:Int),out)) id (N:=l.length) (fun r out hr ho hv=>by
  simp only [vN,yV hr,cond_true,h1 out ho hv,zA,zO (k:=r) (by omega)]) zQS (fun out=>by simp only [vN,kO (Nat.le_refl _),cond_false];rfl) l.length 0 (List.replicate l.length 0) (by omega) (by simp) h0
 have h3:zE (fun (x:Int×(List Int))=>vN l b x.1 x.2) (0,List.replicate l.length 0)=some (zI0 (updL l b) l.length l.length (List.replicate l.length 0)):=h2;rw [h3];rfl
end
end Go.M
namespace Go.M
open Go.AV
theorem zSO {β:Type} [Inhabited β] {upd:List β→Nat→β} {n k:Nat} {out:List β} (h:out.length=n):(zI0 upd n k out).length=n:=
 (zY1 (upd:=upd) (n:=n) (Inv:=fun _=>True) (fun _ _ _ _ _=>trivial) k out h trivial).2
theorem z2O {l:List Mapping} (h:∀k,k+1 < l.length→(nth l k).From < (nth l (k+1)).From):∀(d i:Nat),i+d+1 < l.length→(nth l i).From < (nth l (i+d+1)).From
 | 0,i,hi=>h i hi
 | d+1,i,hi=>by
  have h1:=z2O h d i (by omega);have h3:=h (i+d+1) (by omega);have:i+(d+1)+1=i+d+1+1:=by omega
  rw [this];omega
theorem z9I {l:List Mapping} (hlt:∀k,k+1 < l.length→mlt (nth l k) (nth l (k+1))):(∀k,k < l.length→¬fiI l (nth l k).From true < (k:Int))↔∀k,k+1 < l.length→(nth l (k+1)).From≠(nth l k).From:=by
 constructor;intro h k hk e;have hk':k < l.length:=by omega
 have hp:pM (nth l (k+1)).From true (0+k) l[k]≠none:=by
  unfold pM;rw [if_pos ⟨by rw [e,zCN hk'],rfl⟩];simp
 obtain ⟨i,hi,hik,hc⟩:=zW4 (p:=pM (nth l (k+1)).From true) (l:=l) (k:=0) hk' hp;have hfi:fi l (nth l (k+1)).From true=some i:=by
  unfold fi;rw [hc];unfold pM;split;simp;rename_i hn;exfalso;have:chk (pM (nth l (k+1)).From true) l 0=none:=by rw [hc];unfold pM;rw [if_neg hn]
  exact hp (zMS this k hk')
 refine h (k+1) hk ?_;unfold fiI;rw [hfi];simp only [];omega;intro h k hk hlt';have hs:∀k,k+1 < l.length→(nth l k).From < (nth l (k+1)).From:=fun k hk=>by
  have a:=hlt k hk;have b:=h k hk;unfold mlt at a;omega
 unfold fiI at hlt';cases hf:fi l (nth l k).From true with
 | none=>exact absurd ⟨rfl,rfl⟩ (z6V hf _ (w7 hk))
 | some i=>
  rw [hf] at hlt';simp only [] at hlt';obtain ⟨h1,h2,_⟩:=zJS hf;have:=z2O hs (k - i - 1) i (by omega);rw [show i+(k - i - 1)+1=k by omega] at this;omega
theorem yKO {n:Norm} (hs:NSm n) (hok:vZ n):Ver (zG7 n) (VD0 n):=by
 obtain ⟨e1,he1,p1⟩:=yDC (l:=n.Classes) (by have:=hs.cl;omega)
 obtain ⟨e2,he2,p2⟩:=yKJ (l:=n.Decomp) (by have:=hs.de;omega) (fun m hm=>by have:=hs.to m hm;omega) (fun m hm=>by have:=hs.tg m hm;unfold MX;omega)
 obtain ⟨e3,he3,p3⟩:=yKN (s:=n.Excluded) hs.ex;have hde:=hs.de;have hl:n.Decomp.length≤2000:=by omega
 have hto:∀m∈n.Decomp,m.To.length≤2000:=fun m hm=>by have:=hs.to m hm;omega
 unfold zG7;rw [he1,zA];by_cases h1:e1=0
 case neg=>
  have:(!decide (e1=0))=true:=by simp [h1]
  rw [this,cond_true];exact ⟨e1,rfl,by simp only [h1,false_iff];exact fun h=>h1 (p1.2 h.cv)⟩
 rw [h1];simp only [decide_true,Bool.not_true,cond_false];have cv:=p1.1 h1;rw [he2,zA];by_cases h2:e2=0
 case neg=>
  have:(!decide (e2=0))=true:=by simp [h2]
  rw [this,cond_true];exact ⟨e2,rfl,by simp only [h2,false_iff];exact fun h=>h2 (p2.2 h.mv)⟩
 rw [h2];simp only [decide_true,Bool.not_true,cond_false];have mv:=p2.1 h2;rw [he3,zA];cases e3 with
 | false=>exact ⟨11,rfl,by simp only [show ((11:Int)=0)=False by simp,false_iff];exact fun h=>by have:=p3.2 h.ca;cases this⟩
 | true=>
 have ca:=p3.1 rfl;simp only [Bool.not_true,cond_false];have l0:=jC (body:=fun (x:Int)=>zCF n x) n.Decomp.length (fun k=> ¬fiI n.Decomp (nth n.Decomp k).From true < (k:Int)) (fun y=>y≠0) (fun k hk=>by
  simp only [zCF,yV hk,cond_true,z5 hk,zA,zY8 hl,zO (k:=k) (by omega)];exact zAQ (by simp) (by decide)) (fun k hk=>by simp only [zCF,kO hk,cond_false])
 rw [z9I mv.lt] at l0;rcases l0 with ⟨l0,ne⟩ | ⟨y,hy,l0,ne⟩
 case inr=>rw [l0];exact ⟨y,rfl,by simp only [hy,false_iff];exact fun h=>ne h.ne⟩
 rw [l0];simp only [zA,Sum.elim_inl];have hbt:∀m:Mapping,(m.Tag== [])=decide (m.Tag= []):=fun m=>by cases m.Tag <;> rfl
 have l1:=jC (body:=fun (x:Int)=>zCG n x) n.Decomp.length (fun k=>(nth n.Decomp k).Tag= []→(nth n.Decomp k).To.length=1∨(nth n.Decomp k).To.length=2) (fun y=>y≠0) (fun k hk=>by
  simp only [zCG,yV hk,cond_true,z5 hk,zA,zQ,zO (k:=k) (by omega),hbt];by_cases ht:(nth n.Decomp k).Tag= []
  ·
   simp only [ht,decide_true,xC,zA,Bool.true_and,true_implies];by_cases h5:((nth n.Decomp k).To.length:Int)=1
   ·
    simp only [h5,decide_true,Bool.not_true,vB,zA,Bool.false_and,cond_false];exact .inl ⟨.inl (by omega),trivial⟩
   ·
    simp only [h5,decide_false,Bool.not_false,xC,zA,Bool.true_and];exact zAQ (by simp only [Bool.not_eq_true',decide_eq_false_iff_not];omega) (by decide)
  ·
   simp only [ht,decide_false,vB,zA,Bool.false_and,cond_false,false_implies];exact .inl ⟨trivial,trivial⟩) (fun k hk=>by simp only [zCG,kO hk,cond_false])
 rw [zCY (p:=fun m:Mapping=>m.Tag= []→m.To.length=1∨m.To.length=2)] at l1;rcases l1 with ⟨l1,kd⟩ | ⟨y,hy,l1,kd⟩
 case inr=>rw [l1];exact ⟨y,rfl,by simp only [hy,false_iff];exact fun h=>kd h.kd⟩
 rw [l1];simp only [zA,Sum.elim_inl];have l2:=jC (body:=fun (x:Int)=>zCH n x) n.Decomp.length (fun k=>hkE (nth n.Decomp k).From=0∧((nth n.Decomp k).Tag≠[]→clE n.Classes (nth n.Decomp k).From=0)) (fun y=>y≠0) (fun k hk=>by
  simp only [zCH,yV hk,cond_true,z5 hk,zA,zQ,yDP,zO (k:=k) (by omega),hbt];by_cases h5:hkE (nth n.Decomp k).From=0
  ·
   simp only [h5,decide_true,Bool.not_true,Bool.not_false,xC,zA,Bool.true_and,Bool.false_or,true_and];by_cases ht:(nth n.Decomp k).Tag= []
   ·
    simp only [ht,decide_true,Bool.not_true,vB,zA,Bool.false_and,cond_false];exact .inl ⟨fun h=>absurd rfl h,trivial⟩
   ·
    simp only [ht,decide_false,Bool.not_false,xC,zA,Bool.true_and,zIZ (show n.Classes.length≤2000 by have:=hs.cl;omega) cv]
    exact zAQ (by simp [ht]) (by decide)
  ·
   have:(!decide (hkE (nth n.Decomp k).From=0))=true:=by simp [h5]
   simp only [this,Bool.not_true,vB,zA,Bool.false_and,Bool.true_or,cond_true];exact .inr ⟨fun h=>h5 h.1,11,by decide,rfl⟩) (fun k hk=>by simp only [zCH,kO hk,cond_false])
 rw [zCY (p:=fun m:Mapping=>hkE m.From=0∧(m.Tag≠[]→clE n.Classes m.From=0))] at l2;rcases l2 with ⟨l2,hk⟩ | ⟨y,hy,l2,hk⟩
 case inr=>rw [l2];exact ⟨y,rfl,by simp only [hy,false_iff];exact fun h=>hk fun m hm=>⟨h.hk m hm,h.tc m hm⟩⟩
 rw [l2];simp only [zA,Sum.elim_inl];have hds:DS n.Decomp:=⟨fun k hk'=>by
  have a:=mv.lt k hk';have b:=ne k hk';unfold mlt at a;omega,fun m hm=>(hk m hm).1,fun m hm=>by have:=mv.sz m hm;omega⟩
 have hms:=yCY hds (by omega);rw [yHG hl hto,zA];have l3:=jC (body:=fun (x:Int)=>zCI n (zI0 (zOG n.Decomp) n.Decomp.length n.Decomp.length (List.replicate n.Decomp.length false)) x) n.Decomp.length (fun k=>nth (zI0 (zOG n.Decomp) n.Decomp.length n.Decomp.length (List.replicate n.Decomp.length false)) k=true) (fun y=>y≠0) (fun k hk=>by
  simp only [zCI,yV hk,cond_true,z5 (show k < (zI0 (zOG n.Decomp) n.Decomp.length n.Decomp.length (List.replicate n.Decomp.length false)).length by rw [zSO (by simp)];exact hk),zA,zO (k:=k) (by omega)]
  exact zAQ (by simp) (by decide)) (fun k hk=>by simp only [zCI,kO hk,cond_false])
 rw [yDG hds] at l3;rcases l3 with ⟨l3,H⟩ | ⟨y,hy,l3,H⟩
 case inr=>rw [l3];exact ⟨y,rfl,by simp only [hy,false_iff];exact fun h=>H (hms.1 h.ms).1⟩
 rw [l3];simp only [zA,Sum.elim_inl];have hD:=zUB hds H;rw [z64 hl hto false,zA,z64 hl hto true,zA];have l4:=jC (body:=fun (x:Int)=>zCJ n (zI0 (updL n.Decomp false) n.Decomp.length n.Decomp.length (List.replicate n.Decomp.length 0)) (zI0 (updL n.Decomp true) n.Decomp.length n.Decomp.length (List.replicate n.Decomp.length 0)) x) n.Decomp.length (fun k=>wt n.Decomp true (nth n.Decomp k).From≤64) (fun y=>y≠0) (fun k hk=>by
  have hmo:wt n.Decomp false (nth n.Decomp k).From≤wt n.Decomp true (nth n.Decomp k).From:=z6J hds _ _;simp only [zCJ,yV hk,cond_true,z5 (show k < (zI0 (updL n.Decomp false) n.Decomp.length n.Decomp.length (List.replicate n.Decomp.length 0)).length by rw [zSO (by simp)];exact hk),z5 (show k < (zI0 (updL n.Decomp true) n.Decomp.length n.Decomp.length (List.replicate n.Decomp.length 0)).length by rw [zSO (by simp)];exact hk),zA,zQ,z6W hds hD (b:=false) k hk,z6W hds hD (b:=true) k hk,zO (k:=k) (by omega)]
  by_cases h6:64 < wt n.Decomp false (nth n.Decomp k).From
  ·
   simp only [h6,decide_true,Bool.not_true,vB,zA,Bool.true_or,cond_true];exact .inr ⟨by omega,13,by decide,rfl⟩
  ·
   simp only [h6,decide_false,Bool.not_false,xC,zA,Bool.false_or];exact zAQ (by simp) (by decide)) (fun k hk=>by simp only [zCJ,kO hk,cond_false])
 rw [zCY (p:=fun m:Mapping=>wt n.Decomp true m.From≤64)] at l4;rcases l4 with ⟨l4,W⟩ | ⟨y,hy,l4,W⟩
 ·
  rw [l4];exact ⟨0,rfl,by simp only [true_iff];exact ⟨cv,mv,ca,ne,kd,fun m hm=>(hk m hm).1,fun m hm=>(hk m hm).2,hms.2 ⟨H,W⟩⟩⟩
 · rw [l4];exact ⟨y,rfl,by simp only [hy,false_iff];exact fun h=>W (hms.1 h.ms).2⟩
theorem yDQ {n:Norm} (hs:NSm n) (hok:vZ n):zF3 n=some (usN n):=by obtain ⟨e,he,hv⟩:=yKO hs hok;unfold zF3 usN;rw [he,zA];by_cases hz:e=0;rw [if_pos (hv.1 hz)];simp [hz];rw [if_neg (fun h=>hz (hv.2 h))];simp [hz]
section
variable {c:Collation} (hs:Sm c) {l:List Span} (hcv:CV l) (hl:l.length≤2000)
include hs
theorem z65 (codes:List Int):zDX (yT c) codes=some (zD9 (yT c).Entries codes):=z4Y (z4X hs) (yGD hs) rfl codes
theorem rM0 {text:List Int} (ht:text.length≤2000):∀(d k:Nat),text.length - k=d→k≤text.length→zE (fun (x:Int×Int)=>xL text (yT c) x.1 x.2) (((zJR (pfx (yT c).Entries text) k:Nat):Int),((k+1:Nat):Int))=some ((uV (yT c).Entries text:Nat):Int):=by
 intro d
 induction d with
 | zero=>
  intro k h1 h2;have:k=text.length:=by omega
  subst this;refine zL ?_;have e:decide (((text.length+1:Nat):Int)≤(text.length:Int))=false:=by simp;omega
  simp only [xL,e,cond_false];rfl
 | succ d ih=>
  intro k h1 h2;have e:decide (((k+1:Nat):Int)≤(text.length:Int))=true:=by simp;omega
  have hb:xL text (yT c) ((zJR (pfx (yT c).Entries text) k:Nat):Int) ((k+1:Nat):Int)=some (.next (((zJR (pfx (yT c).Entries text) (k+1):Nat):Int),((k+1+1:Nat):Int))):=by
   simp only [xL,e,cond_true,zEU (show k+1≤text.length by omega),zA,z65 hs,zO (k:=k+1) (by omega)];have el:zJR (pfx (yT c).Entries text) (k+1)=if pfx (yT c).Entries text (k+1)=true then k+1 else zJR (pfx (yT c).Entries text) k:=rfl
   have:(zD9 (yT c).Entries (text.take (k+1))).2=pfx (yT c).Entries text (k+1):=rfl;rw [this,el];cases pfx (yT c).Entries text (k+1) <;> rfl
  rw [zR (body:=fun (x:Int×Int)=>xL text (yT c) x.1 x.2) hb];exact ih (k+1) (by omega) (by omega)
include hcv hl
theorem rM1 {text:List Int}:∀(r p s:List Int) (h:Int) (k:Nat),text.drop k=r→k≤text.length→p.length+s.length+r.length≤2000→text.length≤2000→
    ∃(m:Nat) (q:List Int),zE (fun (x:(List Int)×Int×Int×(List Int))=>wG text l (yT c) x.1 x.2.1 x.2.2.1 x.2.2.2) (p,h,(k:Int),s)=some ((zEE (fun q=>(zD9 (yT c).Entries q).2) (clE l) r p s h).1,(m:Int),q)∧m≤text.length∧q++text.drop m=(zEE (fun q=>(zD9 (yT c).Entries q).2) (clE l) r p s h).2
  | [],p,s,h,k,hd,hk,_,_=>by
    have hge:text.length≤k:=by have:=congrArg List.length hd;simp at this;omega
    refine ⟨k,s,zL ?_,hk,?_⟩
    · simp only [wG,kO hge,zQ,vB,zA,Bool.false_and,cond_false]
      rfl
    · rw [hd];simp [zEE]
  | x::r,p,s,h,k,hd,hk,hn,ht=>by
    have hlt:k < text.length:=by have:=congrArg List.length hd;simp at this;omega
    obtain ⟨hx,hd'⟩:=List.cons_eq_cons.1 ((List.drop_eq_getElem_cons hlt).symm.trans hd);simp only [List.length_cons] at hn;have hj:zF7 p x=some (p++ [x]):=by
      unfold zF7;rw [xN (by simp;omega),zA,List.nil_append,xN (by simp;omega)]
      rfl
    by_cases h0:clE l x=0
    · refine ⟨k,s,zL ?_,hk,?_⟩
      · simp only [wG,yV hlt,zQ,xC,zU hlt,zA,hx,zOF hl hcv,h0,decide_true,Bool.not_true,Bool.and_false,cond_false]
        unfold zEE;rw [if_pos h0]
      · unfold zEE;rw [if_pos h0,hd]
    · unfold zEE
      rw [if_neg h0];cases hb:((zD9 (yT c).Entries (p++ [x])).2&&decide (h < clE l x)) with
      | true=>
        rw [if_pos rfl];obtain ⟨m,q,e1,e2,e3⟩:=rM1 r (p++ [x]) s h (k+1) hd' (by omega) (by simp;omega) ht
        refine ⟨m,q,?_,e2,e3⟩;rw [←e1];refine zR ?_;simp only [wG,yV hlt,zQ,xC,zU hlt,zA,hx,zOF hl hcv,h0,decide_false,Bool.not_false,Bool.and_true,cond_true,zIZ hl hcv,hj,z65 hs,hb,zO (k:=k) (by omega)]
      | false=>
        rw [if_neg (by simp)];obtain ⟨m,q,e1,e2,e3⟩:=rM1 r p (s++ [x]) (max h (clE l x)) (k+1) hd' (by omega) (by simp;omega) ht
        refine ⟨m,q,?_,e2,e3⟩;rw [←e1];refine zR ?_;simp only [wG,yV hlt,zQ,xC,zU hlt,zA,hx,zOF hl hcv,h0,decide_false,Bool.not_false,Bool.and_true,cond_true,cond_false,zIZ hl hcv,hj,z65 hs,hb,xN (show s.length+ [x].length≤4294967296 by simp;omega),zO (k:=k) (by omega)]
noncomputable def mtE (c:Collation) (l:List Span) (text:List Int):List Int×List Int:=zEE (fun q=>(zD9 (yT c).Entries q).2) (clE l) (text.drop (uV (yT c).Entries text)) (text.take (uV (yT c).Entries text)) [] 0
theorem z45 {text:List Int} (ht:text.length≤2000) (h0:text≠[]):zER l (yT c) text=some (if uV (yT c).Entries text=0 then (text.take 1,text.drop 1,false) else ((mtE c l text).1,(mtE c l text).2,true)):=by
 have hpos:0 < text.length:=List.length_pos_iff.2 h0;unfold zER;have h1:=rM0 hs ht text.length 0 (by omega) (by omega);have h1':zE (fun (x:Int×Int)=>xL text (yT c) x.1 x.2) (0,1)=some ((uV (yT c).Entries text:Nat):Int):=h1;rw [h1',zA];by_cases hz:uV (yT c).Entries text=0;have e1:decide (((uV (yT c).Entries text:Nat):Int)=0)=true:=by simp [hz]
 have s1:slc text 0 1=some (text.take 1):=zEU (b:=1) hpos;have s2:slc text 1 (text.length)=some (text.drop 1):=zMQ (a:=1) hpos;rw [e1,cond_true,s1,zA,s2,zA,if_pos hz];have e1:decide (((uV (yT c).Entries text:Nat):Int)=0)=false:=by simp;omega
 have hle:uV (yT c).Entries text≤text.length:=zPQ _ _;rw [e1,cond_false,zEU hle,zA,yJV (by simp;omega),zA,if_neg hz]
 obtain ⟨m,q,r1,r2,r3⟩:=rM1 hs hcv hl (text:=text) (text.drop (uV (yT c).Entries text)) (text.take (uV (yT c).Entries text)) [] 0 (uV (yT c).Entries text) rfl hle (by simp;omega) ht
 have hinv:=zPR (fd:=fun q=>(zD9 (yT c).Entries q).2) (cl:=clE l) (text.drop (uV (yT c).Entries text)) (text.take (uV (yT c).Entries text)) [] 0;have hq:q.length+(text.drop m).length≤4294967296:=by
  have:=congrArg List.length r3;rw [List.length_append] at this;have h2:=hinv.2.1;simp only [List.length_take,List.length_drop,List.length_nil] at h2;omega
 rw [r1,zA];simp only [zMQ r2,zA,xN hq,r3];rfl
end
end Go.M
namespace Go.M
open Go.AV
theorem z66 {l:List Mapping} (hl:l.length≤2000) {b:Bool} {lists:List (List Int)} (hn:lists.length=l.length) (hb:∀e,(zHJ l b lists e).length≤64) {text:List Int} (ht:text.length≤2000):uF l lists text b=some (text.flatMap (zHJ l b lists)):=by
 have key:∀(d k:Nat) (out:List Int),text.length - k=d→k≤text.length→out.length≤64*k→zE (fun (x:Int×(List Int))=>jH text l b lists x.1 x.2) ((k:Int),out)=some (out++(text.drop k).flatMap (zHJ l b lists)):=by
  intro d
  induction d with
  | zero=>
   intro k out h1 h2 h3;rw [List.drop_of_length_le (show text.length≤k by omega)];refine zL ?_;simp only [jH,kO (show text.length≤k by omega),cond_false,List.flatMap_nil,List.append_nil]
  | succ d ih=>
   intro k out h1 h2 h3;have hk:k < text.length:=by omega
   have hbd:=hb text[k];have hb0:jH text l b lists (k:Int) out=some (.next (((k+1:Nat):Int),out++zHJ l b lists text[k])):=by
    have ha:app out (zHJ l b lists text[k])=some (out++zHJ l b lists text[k]):=xN (by omega);simp only [jH,yV hk,cond_true,zU hk,zA,zY8 hl,zO (k:=k) (by omega),yIM];unfold zHJ at ha ⊢;unfold fiI;cases hf:fi l text[k] b with
    | none=>
     rw [hf] at ha;simp only [] at ha;simp only [show decide ((0:Int)≤ -1)=false by decide,cond_false,ha,zA]
    | some m=>
     rw [hf] at ha;simp only [] at ha;obtain ⟨h4,_,_⟩:=zJS hf;have e:decide (0≤((m:Nat):Int))=true:=by simp
     simp only [e,cond_true,z5 (show m < lists.length by omega),zA,ha]
   rw [zR (body:=fun (x:Int×(List Int))=>jH text l b lists x.1 x.2) (x:=((k:Int),out)) hb0,ih (k+1) _ (by omega) (by omega) (by rw [List.length_append];omega),List.drop_eq_getElem_cons hk,List.flatMap_cons,List.append_assoc]
 unfold uF;have h:=key text.length 0 [] (by omega) (by omega) (by simp);rw [List.drop_zero,List.nil_append] at h;have h':zE (fun (x:Int×(List Int))=>jH text l b lists x.1 x.2) (0,[])=some (text.flatMap (zHJ l b lists)):=h;rw [h'];rfl
theorem yKP {n:Norm} (h:GN n) (b:Bool):zHB n.Decomp b=some (z2N n.Decomp b):=by
 have hl:n.Decomp.length≤2000:=by have:=h.de;omega
 have hbd:∀{out:List (List Int)},zVO n.Decomp b out→∀e,(zHJ n.Decomp b out e).length≤64:=fun hv e=>Nat.le_trans (z6Y h.ds h.dd hv e) (h.len b e);unfold zHB;rw [zT3 (by omega),zA];have h1:∀(out:List (List Int)),out.length=n.Decomp.length→zVO n.Decomp b out→zE (fun (x:Int×(List (List Int)))=>zAO n.Decomp b x.1 x.2) (0,out)=some (zPS (zUF n.Decomp b) n.Decomp.length 0 out):=fun out ho hv=>
  zPT (upd:=zUF n.Decomp b) (n:=n.Decomp.length) (Inv:=zVO n.Decomp b) (body:=fun (x:Int×(List (List Int)))=>zAO n.Decomp b x.1 x.2) (fun i out=>((i:Int),out)) id (fun i out hi ho hv=>by
   have hr:=z66 hl (b:=b) ho (hbd hv) (text:=(nth n.Decomp i).To) (h.ds.len _ (w7 hi));simp only [zAO,yV hi,cond_true,zQ,z5 hi,z5 (show i < out.length by omega),zA,hr,zFQ (show i < out.length by omega),zO (k:=i) (by omega)];unfold zUF;cases b with
   | true=>simp [vB]
   | false=>
    simp only [Bool.not_false,xC,zA,Bool.false_or];cases ht:((nth n.Decomp i).Tag== []) with
    | true=>simp
    | false=>simp [yG4 (show i < out.length by omega)]) (zQT h.ds h.dd) (fun out=>by simp only [zAO,kO (Nat.le_refl _),cond_false];rfl) n.Decomp.length 0 out (by omega) ho hv
 have h2:=zPU (upd:=zUF n.Decomp b) (n:=n.Decomp.length) (Inv:=zVO n.Decomp b) (body:=fun (x:Int×(List (List Int)))=>zAP n.Decomp b x.1 x.2) (fun i out=>((i:Int),out)) id (N:=n.Decomp.length) (fun r out hr ho hv=>by
  simp only [zAP,yV hr,cond_true,h1 out ho hv,zA,zO (k:=r) (by omega)]) (zQT h.ds h.dd) (fun out=>by simp only [zAP,kO (Nat.le_refl _),cond_false];rfl) n.Decomp.length 0 (List.replicate n.Decomp.length []) (by omega) (by simp) yIK
 have h3:zE (fun (x:Int×(List (List Int)))=>zAP n.Decomp b x.1 x.2) (0,List.replicate n.Decomp.length [])=some (z2N n.Decomp b):=h2;rw [h3];rfl
theorem yHI {n:Norm} (h:GN n) (b:Bool) {text:List Int} (ht:text.length≤2000):zIL n text b=some (text.flatMap (fu n.Decomp b)):=by
 have hl:n.Decomp.length≤2000:=by have:=h.de;omega
 unfold zIL;have e:∀c,zHJ n.Decomp b (z2N n.Decomp b) c=fu n.Decomp b c:=yHC h.ds h.dd;rw [yKP h,zA,z66 (lists:=z2N n.Decomp b) hl (zSO (by simp)) (fun c=>by rw [e];exact h.len b c) ht,zA,show zHJ n.Decomp b (z2N n.Decomp b)=fu n.Decomp b from funext e]
section
variable {l:List Span} (hcv:CV l) (hl:l.length≤2000)
include hcv hl
theorem sIn {text:List Int} {v:Nat} (hv:v < text.length):∀(r s:List Int),r.length≤2000→zE (fun (q:Int×(List Int))=>u5 (clE l text[v]) l text (v:Int) q.1 q.2) ((r.length:Int),r.reverse++text[v]::s)=some (vU (ltC (clE l)) r text[v] s)
  | [],s,_=>by
    refine zL ?_;simp [u5,zQ,vB,zA,vU]
  | y::r,s,hr=>by
    simp only [List.length_cons] at hr;have e0:decide ((0:Int) < ((r.length+1:Nat):Int))=true:=by simp only [decide_eq_true_eq];omega
    have e1:(y::r).reverse++text[v]::s=r.reverse++y::text[v]::s:=by simp
    have i1:z7 (r.reverse++y::text[v]::s) (r.length:Int)=some y:=wT (by simp);have i2:z7 (r.reverse++y::text[v]::s) ((r.length+1:Nat):Int)=some text[v]:=by
      have:=wT (p:=r.reverse++ [y]) (s:=s) (x:=text[v]) (k:=r.length+1) (by simp);simpa using this
    have s1:u7 (r.reverse++y::text[v]::s) ((r.length+1:Nat):Int) y=some (r.reverse++y::y::s):=by
      have:=uZ (p:=r.reverse++ [y]) (s:=s) (x:=text[v]) (y:=y) (k:=r.length+1) (by simp);simpa using this
    have i3:z7 (r.reverse++y::y::s) (r.length:Int)=some y:=wT (by simp);have s2:u7 (r.reverse++y::y::s) (r.length:Int) text[v]=some (r.reverse++text[v]::y::s):=uZ (by simp);rw [e1];show zE _ (((r.length+1:Nat):Int),_)=_;by_cases h0:0 < clE l text[v]
    · by_cases hlt:clE l text[v] < clE l y
      · rw [zR (x':=((r.length:Int),r.reverse++text[v]::(y::s))) (by
          simp only [u5,zQ,e0,h0,decide_true,Bool.and_self,zCX (k:=r.length) (by omega),xC,i1,zA,zIZ hl hcv,hlt,cond_true,i2,s1,zU hv,i3,s2])]
        rw [sIn hv r (y::s) (by omega)];have:ltC (clE l) text[v] y=true:=by unfold ltC;simp [h0,hlt]
        simp [vU,this]
      · refine zL ?_
        have:ltC (clE l) text[v] y=false:=by unfold ltC;simp [hlt]
        simp only [u5,zQ,e0,h0,decide_true,Bool.and_self,zCX (k:=r.length) (by omega),xC,i1,zA,zIZ hl hcv,hlt,decide_false,Bool.and_false,cond_false,vU,this,Bool.false_eq_true,if_false,e1]
    · refine zL ?_
      have:ltC (clE l) text[v] y=false:=by unfold ltC;simp [h0]
      simp only [u5,zQ,e0,h0,decide_false,Bool.and_false,vB,zA,Bool.false_and,cond_false,vU,this,Bool.false_eq_true,if_false,e1]
theorem yHJ {text:List Int} (ht:text.length≤900):zF5 l text=some (csE (clE l) text):=by
 have key:∀(d k:Nat) (out:List Int),text.length - k=d→k≤text.length→out.length=k→zE (fun (x:Int×(List Int))=>vQ text l x.1 x.2) ((k:Int),out)=some (wJ (ltC (clE l)) (text.drop k) out):=by
  intro d
  induction d with
  | zero=>
   intro k out h1 h2 h3;rw [List.drop_of_length_le (show text.length≤k by omega)];refine zL ?_;simp only [vQ,kO (show text.length≤k by omega),cond_false];rfl
  | succ d ih=>
   intro k out h1 h2 h3;have hk:k < text.length:=by omega
   have hi:=sIn hcv hl hk out.reverse [] (by simp;omega)
   rw [List.reverse_reverse,List.length_reverse] at hi;have hb:vQ text l (k:Int) out=some (.next (((k+1:Nat):Int),vU (ltC (clE l)) out.reverse text[k] [])):=by
    have e1:wi (((out++ [text[k]]).length:Int) - 1)=(out.length:Int):=by
     have hL:((out++ [text[k]]).length:Int)=(out.length:Int)+1:=by simp
     rw [hL,xS (by omega) (by omega)];omega
    simp only [vQ,yV hk,cond_true,zU hk,zA,xN (show out.length+ [text[k]].length≤4294967296 by simp;omega),zIZ hl hcv,e1,hi,zO (k:=k) (by omega)]
   rw [zR (body:=fun (x:Int×(List Int))=>vQ text l x.1 x.2) (x:=((k:Int),out)) hb,ih (k+1) _ (by omega) (by omega) (by rw [zT6];simp;omega),List.drop_eq_getElem_cons hk]
   rfl
 unfold zF5;have h:=key text.length 0 [] (by omega) (by omega) rfl;rw [List.drop_zero] at h;have h':zE (fun (x:Int×(List Int))=>vQ text l x.1 x.2) (0,[])=some (csE (clE l) text):=h;rw [h'];rfl
end
theorem yDR {n:Norm} (hs:NSm n) (hok:vZ n) {text:List Int} {b:Bool} (ht:text.length≤2000) (hf:(zIY n b text).length≤900):zF6 n text b=some (zDI n b text):=by
 have h:=zYY hs hok;unfold zF6;rw [yDQ hs hok,zA,yHI h b ht,zA];have e:=yHJ h.cv (by have:=h.cl;omega) hf
 have e':zF5 (usN n).Classes (text.flatMap (fu (usN n).Decomp b))=some (zDI n b text):=e;rw [e'];rfl
section
variable {c:Collation} (hs:Sm c) (hg:∀g∈c.Groups,g.Name.length≤MX) {n:Norm} (hl:(xH n).length≤2000)
include hs hg hl
theorem yMK:∀(k:Nat) (text:List Int) (b:Bool) (acc:List Element),text.length≤k→text.length≤2000→acc.length+2000*text.length≤100000000→
    zE (fun (x:(List Int)×Bool×(List Element))=>vR (usN n) (yT c) c x.1 x.2.1 x.2.2) (text,b,acc)=some (b&&(wk c (xH n) text).2,acc++(wk c (xH n) text).1):=by
  intro k
  induction k with
  | zero=>
    intro text b acc h _ _;have:text= []:=List.eq_nil_of_length_eq_zero (by omega);subst this;refine zL ?_;simp [vR,zQR]
  | succ k ih=>
    intro text b acc h ht ha;by_cases h0:text= []
    · subst h0
      refine zL ?_;simp [vR,zQR]
    · have hpos:0 < text.length:=List.length_pos_iff.2 h0
      have hlt:=z2K (c:=c) (l:=xH n) h0;have h2:=yDB hs (l:=xH n) text;have e0:decide ((0:Int) < (text.length:Int))=true:=by simp;omega
      have hm:=z45 hs (z2G n) hl ht h0;rw [zUE] at hm;have ea:app acc (stE c (xH n) text).2.2=some (acc++(stE c (xH n) text).2.2):=xN (by omega);have hb:vR (usN n) (yT c) c text b acc=some (.next ((stE c (xH n) text).2.1,(b&&decide (uV (yT c).Entries text≠0)),acc++(stE c (xH n) text).2.2)):=by
        unfold vR;rw [e0,cond_true,hm,zA,←zUE];by_cases hz:uV (yT c).Entries text=0
        · have hst:stE c (xH n) text=(1,text.drop 1,zVK (yT c) (nth text 0)):=by unfold stE;rw [if_pos hz]
          rw [hst] at ea ⊢;obtain ⟨y,ys,rfl⟩:=List.exists_cons_of_ne_nil h0;have i0:z7 ((y::ys).take 1) (0:Int)=some (nth (y::ys) 0):=rfl;simp only [] at ea;simp only [hz,if_true,i0,zA,zMT hs hg,cond_false,ea,zQ];simp
        · have hst:stE c (xH n) text=(((mtE c (xH n) text).1.length:Int),(mtE c (xH n) text).2,(zD9 (yT c).Entries (mtE c (xH n) text).1).1):=by unfold stE;rw [if_neg hz];rfl
          have hsl:=(yDA (c:=c) (l:=xH n) h0).1;rw [hst] at ea hsl ⊢;have hne:0 < (mtE c (xH n) text).1.length:=by simp only [] at hsl;omega
          have i0:z7 (mtE c (xH n) text).1 (0:Int)=some (nth (mtE c (xH n) text).1 0):=z5 (k:=0) hne;simp only [] at ea;simp only [hz,if_false,i0,zA,zMT hs hg,cond_true,z65 hs,ea,zQ];simp [hz]
      rw [zR (body:=fun (x:(List Int)×Bool×(List Element))=>vR (usN n) (yT c) c x.1 x.2.1 x.2.2) (x:=(text,b,acc)) hb,ih _ _ _ (by omega) (by omega) (by rw [List.length_append];omega),zYZ h0,List.append_assoc,Bool.and_assoc]
end
theorem zUH {n:Norm} {c:Collation} (hn:NSm n) (hok:vZ n) (hs:Sm c) (hg:∀g∈c.Groups,g.Name.length≤MX) {text:List Int} (ht:text.length≤2000) (hf:(zIY n false text).length≤900):zIM n c text=some (wk c (xH n) (zDI n false text)):=by
 have hl:(xH n).length≤2000:=by have:=zQQ hn;omega
 have hd:(zDI n false text).length≤2000:=by rw [zKK];omega
 unfold zIM;rw [yDQ hn hok,zA,zT5 hs hg,zA,yDR hn hok ht hf,zA,yMK hs hg hl _ _ true [] (Nat.le_refl _) hd (by simp;omega)]
 simp
end Go.M
namespace Go.M
open Go.AV
def ckO (o:Options):Int:=if o.Strength < 1∨4 < o.Strength then 1 else if o.Variable < 1∨3 < o.Variable then 8 else 0
def wZ (o:Options):Options:=if ckO o=0 then o else {Strength:=3,Variable:=1,Backward:=false,Identical:=false}
theorem yKQ (o:Options):zEI o=some (ckO o):=by
 unfold zEI ckO;rw [zQ];by_cases h1:o.Strength < 1∨4 < o.Strength;have:(decide (o.Strength < 1) ||decide (4 < o.Strength))=true:=by simpa using h1
 rw [this,if_pos h1];rfl;have:(decide (o.Strength < 1) ||decide (4 < o.Strength))=false:=by simpa using h1
 rw [this,if_neg h1,cond_false];by_cases v1:o.Variable=1;simp [v1];by_cases v2:o.Variable=2;simp [v2];by_cases v3:o.Variable=3;simp [v3];rw [if_pos (by omega)];simp [v1,v2,v3]
theorem yDS (o:Options):zG2 o=some (ckO o):=by
 unfold zG2 ckO;rw [zQ,zQ];by_cases h1:o.Strength < 1∨4 < o.Strength;have:(decide (o.Strength < 1) ||decide (4 < o.Strength))=true:=by simpa using h1
 rw [this,if_pos h1];rfl;have:(decide (o.Strength < 1) ||decide (4 < o.Strength))=false:=by simpa using h1
 rw [this,if_neg h1,cond_false];by_cases h2:o.Variable < 1∨3 < o.Variable;have:(decide (o.Variable < 1) ||decide (3 < o.Variable))=true:=by simpa using h2
 rw [this,if_pos h2];rfl;have:(decide (o.Variable < 1) ||decide (3 < o.Variable))=false:=by simpa using h2
 rw [this,if_neg h2];rfl
theorem z67 (o:Options):uJ o=some (wZ o):=by unfold uJ wZ;rw [yKQ,zA];by_cases h:ckO o=0 <;> simp [h]
theorem zW7 (o:Options):zDA o=some (wZ o):=by unfold zDA wZ;rw [yDS,zA];by_cases h:ckO o=0 <;> simp [h]
theorem zOH (o:Options):ckO (wZ o)=0:=by unfold wZ;split;assumption;rfl
theorem yDT {o:Options} (h:ckO o=0):wZ o=o:=by unfold wZ;rw [if_pos h]
theorem yHK {o:Options} (h:ckO o=0):1≤o.Strength∧o.Strength≤4∧1≤o.Variable∧o.Variable≤3:=by unfold ckO at h;split at h;cases h;split at h;cases h;omega
def nz (x:Int):List Int:=if x=0 then [] else [x]
def col:Nat→A4Int→Int
 | 0,w=>w.x0
 | 1,w=>w.x1
 | 2,w=>w.x2
 | _,w=>w.x3
def row (k:Nat) (L:List A4Int):List Int:=L.flatMap fun w=>nz (col k w)
def zUI (f:Bool) (e:Element):Bool:=if e.Variable=true∨e.Primary≠0 then e.Variable else f
def zW8 (e:Element):Prop:=e.Primary=0∧e.Secondary=0∧e.Tertiary=0
instance (e:Element):Decidable (zW8 e):=by unfold zW8;infer_instance
def tr1 (v:Int) (f:Bool) (e:Element):A4Int:=
 if v=1 then {x0:=e.Primary,x1:=e.Secondary,x2:=e.Tertiary,x3:=if zW8 e then 0 else 65535}
 else if zUI f e=true then {x0:=0,x1:=0,x2:=0,x3:=if v=3∧e.Variable=true then e.Primary else 0}
 else {x0:=e.Primary,x1:=e.Secondary,x2:=e.Tertiary,x3:=if v=3∧¬zW8 e then 65535 else 0}
def trL (v:Int):Bool→List Element→List A4Int
 | _,[]=>[]
 | f,e::l=>tr1 v f e::trL v (zUI f e) l
theorem zSP (v:Int):∀(l:List Element) (f:Bool),(trL v f l).length=l.length
 | [],_=>rfl
 | e::l,f=>by simp [trL,zSP v l]
theorem yDU {v:Int} (hv:1≤v∧v≤3) (e:Element) (f:Bool):uX e v f=some (tr1 v f e,if v=1 then f else zUI f e):=by obtain ⟨p,s,t,va⟩:=e;unfold uX tr1 zUI zW8;rcases (by omega:v=1∨v=2∨v=3) with rfl | rfl | rfl <;> cases va <;> cases f <;> by_cases hp:p=0 <;> by_cases hs:s=0 <;> by_cases ht:t=0 <;> simp [hp,hs,ht]
theorem yML (f g:Bool) (e:Element):tr1 1 f e=tr1 1 g e:=rfl
theorem yIO:∀(l:List Element) (f g:Bool),trL 1 f l=trL 1 g l
 | [],_,_=>rfl
 | e::l,f,g=>by
  show tr1 1 f e::trL 1 _ l=tr1 1 g e::trL 1 _ l;rw [yML f g,yIO l (zUI f e) (zUI g e)]
theorem z46 (x:Int):(nz x).length≤1:=by unfold nz;split <;> simp
theorem zUJ {r:List Int} {x:Int} (h:r.length+1≤4294967296):(cond (!decide (x=0)) ((app r [x]).bind fun q=>some q) (some r))=some (r++nz x):=by unfold nz;by_cases hx:x=0;simp [hx];simp only [hx,decide_false,Bool.not_false,cond_true,if_false];rw [xN (by simpa using h)];rfl
theorem wl1 (t:A4Int×Bool) {r0 r1 r2 r3:List Int} {n:Nat} (hn:n+1≤4294967296) (h0:r0.length≤n) (h1:r1.length≤n) (h2:r2.length≤n) (h3:r3.length≤n):
  zE (fun (x:Int×(List Int)×(List Int)×(List Int)×(List Int))=>jT t x.1 x.2.1 x.2.2.1 x.2.2.2.1 x.2.2.2.2) (0,r0,r1,r2,r3)=some (r0++nz t.1.x0,r1++nz t.1.x1,r2++nz t.1.x2,r3++nz t.1.x3):=by
 have i0:z7 [t.1.x0,t.1.x1,t.1.x2,t.1.x3] (0:Int)=some t.1.x0:=rfl;have i1:z7 [t.1.x0,t.1.x1,t.1.x2,t.1.x3] (1:Int)=some t.1.x1:=rfl;have i2:z7 [t.1.x0,t.1.x1,t.1.x2,t.1.x3] (2:Int)=some t.1.x2:=rfl;have i3:z7 [t.1.x0,t.1.x1,t.1.x2,t.1.x3] (3:Int)=some t.1.x3:=rfl;rw [zR (x':=(1,r0++nz t.1.x0,r1,r2,r3)) (by
  simp only [jT,i0,zA,zUJ (x:=t.1.x0) (show r0.length+1≤4294967296 by omega)];rfl)]
 rw [zR (x':=(2,r0++nz t.1.x0,r1++nz t.1.x1,r2,r3)) (by
  simp only [jT,i1,zA,zUJ (x:=t.1.x1) (show r1.length+1≤4294967296 by omega)];rfl)]
 rw [zR (x':=(3,r0++nz t.1.x0,r1++nz t.1.x1,r2++nz t.1.x2,r3)) (by
  simp only [jT,i2,zA,zUJ (x:=t.1.x2) (show r2.length+1≤4294967296 by omega)];rfl)]
 rw [zR (x':=(4,r0++nz t.1.x0,r1++nz t.1.x1,r2++nz t.1.x2,r3++nz t.1.x3)) (by
  simp only [jT,i3,zA,zUJ (x:=t.1.x3) (show r3.length+1≤4294967296 by omega)];rfl)]
 exact zL (by simp only [jT];rfl)
theorem wl0 {l:List Element} {o:Options} (hv:1≤o.Variable∧o.Variable≤3) (hl:l.length≤4000000000):∀(m k:Nat) (f:Bool) (r0 r1 r2 r3:List Int),k+m=l.length→r0.length≤k→r1.length≤k→r2.length≤k→r3.length≤k→
    zE (fun (x:Int×Bool×(List Int)×(List Int)×(List Int)×(List Int))=>vK l o x.1 x.2.1 x.2.2.1 x.2.2.2.1 x.2.2.2.2.1 x.2.2.2.2.2) ((k:Int),f,r0,r1,r2,r3)=
      some (r0++row 0 (trL o.Variable f (l.drop k)),r1++row 1 (trL o.Variable f (l.drop k)),r2++row 2 (trL o.Variable f (l.drop k)),r3++row 3 (trL o.Variable f (l.drop k)))
  | 0,k,f,r0,r1,r2,r3,h,_,_,_,_=>by
    rw [List.drop_of_length_le (by omega)];refine zL ?_;simp only [vK,kO (show l.length≤k by omega),cond_false,trL,row,List.flatMap_nil,List.append_nil]
  | m+1,k,f,r0,r1,r2,r3,h,h0,h1,h2,h3=>by
    have hk:k < l.length:=by omega
    have q:∀{r:List Int} (x:Int),r.length≤k→(r++nz x).length≤k+1:=fun x hr=>by rw [List.length_append];have:=z46 x;omega
    rw [zR (x':=(((k+1:Nat):Int),(if o.Variable=1 then f else zUI f l[k]),r0++nz (tr1 o.Variable f l[k]).x0,r1++nz (tr1 o.Variable f l[k]).x1,r2++nz (tr1 o.Variable f l[k]).x2,r3++nz (tr1 o.Variable f l[k]).x3)) (by
      simp only [vK,yV hk,cond_true,zU hk,zA,yDU hv,wl1 _ (n:=k) (by omega) h0 h1 h2 h3,zO (k:=k) (by omega)])]
    rw [wl0 hv hl m (k+1) _ _ _ _ _ (by omega) (q _ h0) (q _ h1) (q _ h2) (q _ h3),List.drop_eq_getElem_cons hk];have e:trL o.Variable (if o.Variable=1 then f else zUI f l[k]) (l.drop (k+1))=trL o.Variable (zUI f l[k]) (l.drop (k+1)):=by
      by_cases h1:o.Variable=1
      · rw [h1];exact yIO _ _ _
      · rw [if_neg h1]
    rw [e];simp [trL,row,col]
theorem yDV:∀(n:Nat) (a m b:List Int),m.length=n→a.length=b.length→a.length+m.length+b.length≤9000000000000000000→
    zE (fun (x:Int×Int×(List Int))=>jS x.1 x.2.1 x.2.2) ((a.length:Int),((a.length+m.length:Nat):Int) - 1,a++m++b)=some (a++m.reverse++b):=by
  intro n
  induction n using Nat.strongRecOn with
  | ind n ih=>
    intro a m b hn hab hb;by_cases h2:m.length≤1
    · have e:decide ((a.length:Int) < ((a.length+m.length:Nat):Int) - 1)=false:=by simp;omega
      refine zL ?_;have hr:m.reverse=m:=by
        match m,h2 with
        | [],_=>rfl
        | [x],_=>rfl
      simp only [jS,e,cond_false,hr]
    · obtain ⟨x,m1,rfl⟩:=List.exists_cons_of_ne_nil (l:=m) (fun e=>by rw [e] at h2;simp at h2)
      have hm1:m1≠[]:=fun e=>by rw [e] at h2;simp at h2
      obtain ⟨m2,y,rfl⟩:∃m2 y,m1=m2++ [y]:=⟨m1.dropLast,m1.getLast hm1,(List.dropLast_concat_getLast hm1).symm⟩;simp only [List.length_cons,List.length_append,List.length_nil] at hn hb h2;have e:decide ((a.length:Int) < ((a.length+(x::(m2++ [y])).length:Nat):Int) - 1)=true:=by simp;omega
      have ej:((a.length+(x::(m2++ [y])).length:Nat):Int) - 1=((a.length+1+m2.length:Nat):Int):=by simp;omega
      have g1:z7 (a++(x::(m2++ [y]))++b) (((a.length+1+m2.length:Nat):Int))=some y:=by
        rw [zU (by simp;omega)];congr 1;rw [List.getElem_append_left (by simp;omega),List.getElem_append_right (by omega)]
        simp only [show a.length+1+m2.length - a.length=m2.length+1 by omega,List.getElem_cons_succ];rw [List.getElem_append_right (by omega)];simp
      have g2:z7 (a++(x::(m2++ [y]))++b) ((a.length:Nat):Int)=some x:=by
        rw [zU (by simp)];congr 1;rw [List.getElem_append_left (by simp),List.getElem_append_right (by omega)];simp
      have s1:u7 (a++(x::(m2++ [y]))++b) ((a.length:Nat):Int) y=some (a++(y::(m2++ [y]))++b):=by
        rw [zFQ (by simp)];congr 1;simp
      have g3:z7 (a++(y::(m2++ [y]))++b) (((a.length+1+m2.length:Nat):Int))=some y:=by
        rw [zU (by simp;omega)];congr 1;rw [List.getElem_append_left (by simp;omega),List.getElem_append_right (by omega)]
        simp only [show a.length+1+m2.length - a.length=m2.length+1 by omega,List.getElem_cons_succ];rw [List.getElem_append_right (by omega)];simp
      have s2:u7 (a++(y::(m2++ [y]))++b) (((a.length+1+m2.length:Nat):Int)) x=some ((a++ [y])++m2++(x::b)):=by
        rw [zFQ (by simp;omega)];congr 1;have e1:a++(y::(m2++ [y]))++b=(a++y::m2)++y::b:=by simp
        rw [e1,show a.length+1+m2.length=(a++y::m2).length by simp;omega,List.set_append_right _ _ (Nat.le_refl _)]
        simp
      rw [zR (x':=(((a++ [y]).length:Int),(((a++ [y]).length+m2.length:Nat):Int) - 1,(a++ [y])++m2++(x::b))) (by
        simp only [jS,e,cond_true];rw [ej];simp only [g1,g2,s1,g3,s2,zA];rw [zO (k:=a.length) (by omega),xS (by omega) (by omega)];simp only [List.length_append,List.length_cons,List.length_nil])]
      rw [ih m2.length (by omega) (a++ [y]) m2 (x::b) rfl (by simp;omega) (by simp;omega)]
      simp
theorem yKS {l:List Int} (h:l.length≤4294967296):xJ l=some l.reverse:=by
 unfold xJ;have:=yDV l.length [] l [] rfl rfl (by simp;omega)
 simp only [List.nil_append,List.append_nil,List.length_nil,Nat.zero_add] at this;rw [xS (by omega) (by omega)];rw [show ((0:Nat):Int)=0 from rfl] at this;rw [this];rfl
def yDW (b:Bool) (l:List Int):List Int:=if b=true then l.reverse else l
def rows (b:Bool) (L:List A4Int):List (List Int):=[row 0 L,yDW b (row 1 L),row 2 L,row 3 L]
def wts (l:List Element) (o:Options):List (List Int):=(rows o.Backward (trL o.Variable false l)).take o.Strength.toNat
theorem zY9 (k:Nat):∀(L:List A4Int),(row k L).length≤L.length
 | []=>by simp [row]
 | w::L=>by
  have:=zY9 k L;have h2:=z46 (col k w);simp only [row,List.flatMap_cons,List.length_append,List.length_cons] at this ⊢;omega
theorem zI1 {l:List Element} (hl:l.length≤4000000000) (o:Options):xY l o=some (wts l (wZ o)):=by
 have hb:=yHK (zOH o);unfold xY wts;have e0:({Strength:=o.Strength,Variable:=o.Variable,Backward:=o.Backward,Identical:=o.Identical}:Options)=o:=rfl;rw [e0,z67,zA];generalize wZ o=q at*;have hw:=wl0 (l:=l) (o:=q) hb.2.2 hl l.length 0 false [] [] [] [] (by omega) (by simp) (by simp) (by simp) (by simp);simp only [List.drop_zero,List.nil_append] at hw;rw [show ((0:Nat):Int)=0 from rfl] at hw;unfold zDJ;rw [zA,hw,zA];have hr:(cond q.Backward ((xJ (row 1 (trL q.Variable false l))).bind fun t45=>some t45) (some (row 1 (trL q.Variable false l))))=some (yDW q.Backward (row 1 (trL q.Variable false l))):=by
  cases q.Backward with
  | false=>rfl
  | true=>
   have:=zY9 1 (trL q.Variable false l);rw [zSP] at this;rw [cond_true,yKS (by omega)];rfl
 simp only [hr,zA];have hs:q.Strength=((q.Strength.toNat:Nat):Int):=by omega
 have hsl:slc [row 0 (trL q.Variable false l),yDW q.Backward (row 1 (trL q.Variable false l)),row 2 (trL q.Variable false l),row 3 (trL q.Variable false l)] 0 q.Strength=some ((rows q.Backward (trL q.Variable false l)).take q.Strength.toNat):=by
  rw [hs,zEU (by simp;omega)];rfl
 rw [hsl,zA,xN (by simp [rows];omega)]
 rfl
end Go.M
namespace Go.M
open Go.AV
theorem yDX {l:List Element} {v:Int} (hv:1≤v∧v≤3) (hl:l.length≤4000000000):∀(m k:Nat) (f:Bool) (acc:List A4Int),k+m=l.length→acc.length≤k→
  zE (fun (x:Bool×Int×(List A4Int))=>zAH l v x.1 x.2.1 x.2.2) (f,(k:Int),acc)=some (acc++trL v f (l.drop k))
 | 0,k,f,acc,h,_=>by
  rw [List.drop_of_length_le (by omega)];refine zL ?_;simp only [zAH,kO (show l.length≤k by omega),cond_false,trL,List.append_nil]
 | m+1,k,f,acc,h,ha=>by
  have hk:k < l.length:=by omega
  rw [zR (x':=(zUI f l[k],((k+1:Nat):Int),acc++ [tr1 v f l[k]])) (by
   simp only [zAH,yV hk,cond_true,zU hk,zA,zQ,zO (k:=k) (by omega)];generalize l[k]=e;have ea:∀w:A4Int,app acc [w]=some (acc++ [w]):=fun w=>xN (by simp;omega)
   obtain ⟨p,s,t,va⟩:=e;unfold tr1 zUI zW8;rcases (by omega:v=1∨v=2∨v=3) with rfl | rfl | rfl <;> cases va <;> cases f <;> by_cases hp:p=0 <;> by_cases hs:s=0 <;> by_cases ht:t=0 <;> simp [hp,hs,ht,ea])]
  rw [yDX hv hl m (k+1) _ _ (by omega) (by simp;omega),List.drop_eq_getElem_cons hk]
  simp [trL]
theorem z47 {l:List Element} {v:Int} (hv:1≤v∧v≤3) (hl:l.length≤4000000000):zES l v=some (trL v false l):=by unfold zES;have:=yDX hv hl l.length 0 false [] (by omega) (by simp);rw [show ((0:Nat):Int)=0 from rfl] at this;rw [this];simp
theorem yOF (w:A4Int) {k:Nat} (hk:k < 4):z7 [w.x0,w.x1,w.x2,w.x3] (k:Int)=some (col k w):=by
 match k,hk with
 | 0,_=>rfl
 | 1,_=>rfl
 | 2,_=>rfl
 | 3,_=>rfl
def zLC (b:Bool) (k:Nat) (L:List A4Int):List A4Int:=if k=1∧b=true then L.reverse else L
theorem z2P (b:Bool) (k:Nat) (L:List A4Int):(zLC b k L).length=L.length:=by unfold zLC;split;exact List.length_reverse;rfl
theorem rw1 {L:List A4Int} {o:Options} {q:Nat} (hq:q < 4) (hl:L.length≤4000000000):∀(m k:Nat) (acc:List Int),k+m=L.length→acc.length≤k→
    zE (fun (x:Int×(List Int))=>zAI L (q:Int) o x.1 x.2) ((k:Int),acc)=some (acc++row q ((zLC o.Backward q L).drop k))
  | 0,k,acc,h,_=>by
    rw [List.drop_of_length_le (by rw [z2P];omega)]
    refine zL ?_;simp only [zAI,kO (show L.length≤k by omega),cond_false,row,List.flatMap_nil,List.append_nil]
  | m+1,k,acc,h,ha=>by
    have hk:k < L.length:=by omega
    have hk2:k < (zLC o.Backward q L).length:=by rw [z2P];exact hk
    have hi:∃j:Nat,j < L.length∧cond (decide ((q:Int)=1)&&o.Backward) (some (wi ((wi ((L.length:Int) - 1)) - (k:Int)))) (some (k:Int))=some (j:Int)∧L[j]? =some (zLC o.Backward q L)[k]:=by
      unfold zLC;by_cases h1:q=1∧o.Backward=true
      · have e:(decide ((q:Int)=1)&&o.Backward)=true:=by simp [h1.1,h1.2]
        refine ⟨L.length - 1 - k,by omega,?_,?_⟩
        · rw [e,cond_true,xS (n:=(L.length:Int) - 1) (by omega) (by omega),xS (by omega) (by omega)]
          congr 1;omega
        · simp only [h1,and_self,if_true]
          rw [List.getElem_reverse,List.getElem?_eq_getElem (by omega)]
      · have e:(decide ((q:Int)=1)&&o.Backward)=false:=by
          cases hb:o.Backward with
          | false=>simp
          | true=>
            have:q≠1:=fun e=>h1 ⟨e,hb⟩;simp;omega
        refine ⟨k,hk,by rw [e,cond_false],?_⟩;simp only [h1,if_false];rw [List.getElem?_eq_getElem hk]
    obtain ⟨j,hj,e1,e2⟩:=hi;rw [List.getElem?_eq_getElem hj] at e2;have e3:z7 L (j:Int)=some (zLC o.Backward q L)[k]:=by rw [zU hj];exact e2
    rw [zR (x':=(((k+1:Nat):Int),acc++nz (col q (zLC o.Backward q L)[k]))) (by
      simp only [zAI,yV hk,cond_true,zQ,e1,zA,e3,yOF _ hq,zUJ (x:=col q (zLC o.Backward q L)[k]) (show acc.length+1≤4294967296 by omega),zO (k:=k) (by omega)])]
    rw [rw1 hq hl m (k+1) _ (by omega) (by rw [List.length_append];have:=z46 (col q (zLC o.Backward q L)[k]);omega),List.drop_eq_getElem_cons hk2]
    simp only [row,List.flatMap_cons,List.append_assoc]
theorem yKT (x:Int):(nz x).reverse=nz x:=by unfold nz;split <;> rfl
theorem z68 (k:Nat):∀(L:List A4Int),row k L.reverse=(row k L).reverse
 | []=>rfl
 | w::L=>by
  have:=z68 k L;simp only [row] at this ⊢;simp [this,yKT]
theorem yDY (b:Bool) (L:List A4Int) {q:Nat} (hq:q < 4):(rows b L)[q]? =some (row q (zLC b q L)):=by
 match q,hq with
 | 0,_=>simp [rows,zLC]
 | 1,_=>cases b <;> simp [rows,zLC,yDW,z68]
 | 2,_=>simp [rows,zLC]
 | 3,_=>simp [rows,zLC]
theorem rw0 {L:List A4Int} {o:Options} (hs:1≤o.Strength∧o.Strength≤4) (hl:L.length≤4000000000):∀(m k:Nat) (acc:List (List Int)),k+m=o.Strength.toNat→acc.length=k→
  zE (fun (x:Int×(List (List Int)))=>zAJ o L x.1 x.2) ((k:Int),acc)=some (acc++((rows o.Backward L).take o.Strength.toNat).drop k)
 | 0,k,acc,h,_=>by
  rw [List.drop_of_length_le (by simp [rows];omega)]
  have e:decide ((k:Int) < o.Strength)=false:=by simp;omega
  refine zL ?_;simp only [zAJ,e,cond_false,List.append_nil]
 | m+1,k,acc,h,ha=>by
  have e:decide ((k:Int) < o.Strength)=true:=by simp;omega
  have hk4:k < 4:=by omega
  have hr:=rw1 (o:=o) hk4 hl L.length 0 [] (by omega) (by simp);rw [show ((0:Nat):Int)=0 from rfl,List.drop_zero,List.nil_append] at hr;rw [zR (x':=(((k+1:Nat):Int),acc++ [row k (zLC o.Backward k L)])) (by
   simp only [zAJ,e,cond_true,hr,zA,xN (show acc.length+ [row k (zLC o.Backward k L)].length≤4294967296 by simp;omega),zO (k:=k) (by omega)])]
  rw [rw0 hs hl m (k+1) _ (by omega) (by simp;omega)]
  have hlt:k < ((rows o.Backward L).take o.Strength.toNat).length:=by simp [rows];omega
  rw [List.drop_eq_getElem_cons hlt,List.append_assoc];have hg:=yDY o.Backward L hk4;have:((rows o.Backward L).take o.Strength.toNat)[k]=row k (zLC o.Backward k L):=by
   have h2:((rows o.Backward L).take o.Strength.toNat)[k]? =some (row k (zLC o.Backward k L)):=by rw [List.getElem?_take,if_pos (by omega)];exact hg
   rw [List.getElem?_eq_getElem hlt] at h2;exact Option.some.inj h2
  rw [this];rfl
theorem zJ2 {l:List Element} (hl:l.length≤4000000000) (o:Options):zBO l o=some (wts l (wZ o)):=by
 have hb:=yHK (zOH o);unfold zBO wts;have e0:({Strength:=o.Strength,Variable:=o.Variable,Backward:=o.Backward,Identical:=o.Identical}:Options)=o:=rfl;rw [e0,zW7,zA];generalize wZ o=q at*;rw [z47 hb.2.2 hl,zA];have:=rw0 (o:=q) ⟨hb.1,hb.2.1⟩ (L:=trL q.Variable false l) (by rw [zSP];exact hl) q.Strength.toNat 0 [] (by omega) rfl
 rw [show ((0:Nat):Int)=0 from rfl] at this;rw [this];simp
theorem zUK {l:List Element} {o:Options} {x:List Int} (h:x∈wts l o):x.length≤l.length:=by
 unfold wts at h;have h:=List.mem_of_mem_take h;have key:∀k,(row k (trL o.Variable false l)).length≤l.length:=fun k=>by have:=zY9 k (trL o.Variable false l);rwa [zSP] at this
 simp only [rows,List.mem_cons,List.not_mem_nil,or_false] at h;rcases h with rfl | rfl | rfl | rfl
 exact key 0;unfold yDW;split;rw [List.length_reverse];exact key 1;exact key 1;exact key 2;exact key 3
theorem zZA {l:List Element} {o:Options} (h:ckO o=0):(wts l o).length=o.Strength.toNat:=by have:=yHK h;unfold wts;simp [rows];omega
end Go.M
namespace Go.M
open Go.AV
def jn:Nat→List Int→List (List Int)→List Int
 | _,acc,[]=>acc
 | k,acc,x::xs=>jn (k+1) ((if 0 < k then acc++ [0] else acc)++x) xs
theorem zZB {N:Nat}:∀(l:List (List Int)) (k:Nat) (acc:List Int),(∀x∈l,x.length≤N)→(jn k acc l).length≤acc.length+l.length*(N+1)
 | [],_,acc,_=>by simp [jn]
 | x::xs,k,acc,h=>by
  have h1:=h x (by simp);have h2:=zZB xs (k+1) ((if 0 < k then acc++ [0] else acc)++x) (fun y hy=>h y (by simp [hy]));have h3:((if 0 < k then acc++ [0] else acc)++x).length≤acc.length+1+N:=by
   split <;> simp <;> omega
  simp only [jn,List.length_cons,Nat.add_mul];omega
theorem yMM {acc:List Int} {k:Nat} (h:acc.length+1≤4294967296):(cond (decide ((0:Int) < (k:Int))) ((app acc [0]).bind fun q=>some q) (some acc))=some (if 0 < k then acc++ [0] else acc):=by
 by_cases hk:0 < k;have e:decide ((0:Int) < (k:Int))=true:=by simp;omega
 rw [e,cond_true,xN (by simpa using h),if_pos hk];rfl;have e:decide ((0:Int) < (k:Int))=false:=by simp;omega
 rw [e,cond_false,if_neg hk]
section
variable {l:List (List Int)} {N:Nat} (hN:∀x∈l,x.length≤N) (hl:l.length≤1000000)
include hN hl
theorem yMN:∀(m k:Nat) (acc:List Int),k+m=l.length→acc.length+m*(N+1)≤4294967296→zE (fun (x:Int×(List Int))=>zB6 l x.1 x.2) ((k:Int),acc)=some (jn k acc (l.drop k))
 | 0,k,acc,h,_=>by
  rw [List.drop_of_length_le (by omega)];refine zL ?_;simp only [zB6,kO (show l.length≤k by omega),cond_false,jn]
 | m+1,k,acc,h,ha=>by
  have hk:k < l.length:=by omega
  have hx:=hN _ (List.getElem_mem hk);rw [Nat.add_mul] at ha;have h3:(if 0 < k then acc++ [0] else acc).length≤acc.length+1:=by split <;> simp
  rw [zR (x':=(((k+1:Nat):Int),(if 0 < k then acc++ [0] else acc)++l[k])) (by
   simp only [zB6,yV hk,cond_true,zU hk,zA,yMM (k:=k) (show acc.length+1≤4294967296 by omega),xN (show (if 0 < k then acc++ [0] else acc).length+l[k].length≤4294967296 by omega),zO (k:=k) (by omega)])]
  rw [yMN m (k+1) _ (by omega) (by rw [List.length_append];omega),List.drop_eq_getElem_cons hk]
  rfl
theorem yIP:∀(m k:Nat) (acc:List Int),k+m=l.length→acc.length+m*(N+1)≤4294967296→zE (fun (x:Int×(List Int))=>zDF l x.1 x.2) ((k:Int),acc)=some (jn k acc (l.drop k))
 | 0,k,acc,h,_=>by
  rw [List.drop_of_length_le (by omega)];refine zL ?_;simp only [zDF,kO (show l.length≤k by omega),cond_false,jn]
 | m+1,k,acc,h,ha=>by
  have hk:k < l.length:=by omega
  have hx:=hN _ (List.getElem_mem hk);rw [Nat.add_mul] at ha;have h3:(if 0 < k then acc++ [0] else acc).length≤acc.length+1:=by split <;> simp
  rw [zR (x':=(((k+1:Nat):Int),(if 0 < k then acc++ [0] else acc)++l[k])) (by
   simp only [zDF,yV hk,cond_true,zU hk,zA,yMM (k:=k) (show acc.length+1≤4294967296 by omega),xN (show (if 0 < k then acc++ [0] else acc).length+l[k].length≤4294967296 by omega),zO (k:=k) (by omega)])]
  rw [yIP m (k+1) _ (by omega) (by rw [List.length_append];omega),List.drop_eq_getElem_cons hk]
  rfl
end
def idn (t:List Int):List Int:=t.flatMap fun c=>if 0≤c∧c≤1114111 then [c+1] else []
theorem yDZ (c:Int) {acc:List Int} (h:acc.length+1≤4294967296):(cond (decide (0≤c)&&decide (c≤1114111)) ((app acc [wi (c+1)]).bind fun q=>some q) (some acc))=some (acc++if 0≤c∧c≤1114111 then [c+1] else []):=by
  by_cases hc:0≤c∧c≤1114111
  · have e:(decide (0≤c)&&decide (c≤1114111))=true:=by simpa using hc
    rw [e,cond_true,xN (by simpa using h),if_pos hc,xS (by omega) (by omega)];rfl
  · have e:(decide (0≤c)&&decide (c≤1114111))=false:=by
      cases h:(decide (0≤c)&&decide (c≤1114111)) with
      | false=>rfl
      | true=>exact absurd (by simpa using h) hc
    rw [e,cond_false,if_neg hc,List.append_nil]
theorem zZC (c:Int):(if 0≤c∧c≤1114111 then [c+1] else ([]:List Int)).length≤1:=by split <;> simp
theorem yMO {t:List Int} (hl:t.length≤1000000):∀(m k:Nat) (acc:List Int),k+m=t.length→acc.length+m≤4294967296→zE (fun (x:Int×(List Int))=>zB7 t x.1 x.2) ((k:Int),acc)=some (acc++idn (t.drop k))
 | 0,k,acc,h,_=>by
  rw [List.drop_of_length_le (by omega)];refine zL ?_;simp only [zB7,kO (show t.length≤k by omega),cond_false,idn,List.flatMap_nil,List.append_nil]
 | m+1,k,acc,h,ha=>by
  have hk:k < t.length:=by omega
  have h1:=zZC t[k];rw [zR (x':=(((k+1:Nat):Int),acc++if 0≤t[k]∧t[k]≤1114111 then [t[k]+1] else [])) (by
   simp only [zB7,yV hk,cond_true,zU hk,zA,zQ,yDZ t[k] (show acc.length+1≤4294967296 by omega),zO (k:=k) (by omega)])]
  rw [yMO hl m (k+1) _ (by omega) (by rw [List.length_append];omega),List.drop_eq_getElem_cons hk]
  simp only [idn,List.flatMap_cons,List.append_assoc]
def zKL (o:Options) (el:List Element) (t:List Int):List Int:=jn 0 [] (wts el o)++if o.Identical=true then [0]++idn t else []
theorem zSQ (l:List Element) (o:Options):(wts l o).length≤4:=by unfold wts;simp [rows];omega
theorem z69 (o:Options):wZ (wZ o)=wZ o:=yDT (zOH o)
section
variable {n:Norm} {c:Collation} (hn:NSm n) (hok:vZ n) (hs:Sm c) (hg:∀g∈c.Groups,g.Name.length≤MX) {text:List Int} (ht:text.length≤2000) (hf:(zIY n false text).length≤2000)
include hn hok hs hg ht hf
theorem yKU (o:Options):zBC n c o text=some (zKL (wZ o) (wk c (xH n) (zDI n false text)).1 (zDI n false text)):=by
 unfold zBC zKL;have hd:(zDI n false text).length≤2000:=by rw [zKK];exact hf
 have hel:=zY0 (n:=n) hs (text:=text) hd;rw [show ({Strength:=o.Strength,Variable:=o.Variable,Backward:=o.Backward,Identical:=o.Identical}:Options)=o from rfl,z67,zA,zRI hn hok hs hg ht hf,zA,show ({Strength:=(wZ o).Strength,Variable:=(wZ o).Variable,Backward:=(wZ o).Backward,Identical:=(wZ o).Identical}:Options)=wZ o from rfl,zI1 (by omega),z69,zA];generalize (wk c (xH n) (zDI n false text)).1=el at*;have h4:=zSQ el (wZ o);have hN:∀x∈wts el (wZ o),x.length≤1000000000:=fun x hx=>Nat.le_trans (zUK hx) hel;have hk0:=yMN hN (by omega) (wts el (wZ o)).length 0 [] (by omega) (by simp;omega)
 rw [show ((0:Nat):Int)=0 from rfl,List.drop_zero] at hk0;have hjl:=zZB (wts el (wZ o)) 0 [] hN;simp only [List.length_nil] at hjl;rw [hk0,zA];cases hi:(wZ o).Identical with
 | false=>simp
 | true=>
  have h5:(jn 0 [] (wts el (wZ o))).length≤4000000004:=by omega
  rw [Bool.not_true,cond_false,xN (by simp;omega),zA,z2J hn hok ht hf,zA]
  have hk1:=yMO (t:=zDI n false text) (by omega) (zDI n false text).length 0 (jn 0 [] (wts el (wZ o))++ [0]) (by omega) (by simp;omega)
  rw [show ((0:Nat):Int)=0 from rfl,List.drop_zero] at hk1;rw [hk1,zA,if_pos rfl,List.append_assoc]
omit hn hok hg ht in
theorem yD0 (o:Options):(zKL (wZ o) (wk c (xH n) (zDI n false text)).1 (zDI n false text)).length≤4611686018427387904:=by
 have hd:(zDI n false text).length≤2000:=by rw [zKK];exact hf
 have hel:=zY0 (n:=n) hs (text:=text) hd;unfold zKL;generalize (wk c (xH n) (zDI n false text)).1=el at*;have h4:=zSQ el (wZ o);have hjl:=zZB (wts el (wZ o)) 0 [] (N:=1000000000) (fun x hx=>Nat.le_trans (zUK hx) hel);have hid:∀t:List Int,(idn t).length≤t.length:=by
  intro t
  induction t with
  | nil=>simp [idn]
  | cons x t ih=>
   have:=zZC x;simp only [idn,List.flatMap_cons,List.length_append,List.length_cons] at ih ⊢;omega
 have:=hid (zDI n false text);simp only [List.length_nil] at hjl;rw [List.length_append];split <;> simp <;> omega
end
def nZ:Norm:={Classes:=[],Decomp:=[],Excluded:={Ranges:=[]}}
theorem z48:NSm nZ:=⟨by decide,by decide,fun m hm=>(by cases hm),fun m hm=>(by cases hm),by decide⟩
theorem zUL:vZ nZ:=by unfold vZ okSpan z04 nZ;simp
theorem zUM:usN nZ=nZ:=by unfold usN;split <;> rfl
theorem z2Q:xH nZ= []:=by rw [zUE,zUM];rfl
end Go.M
namespace Go.M
open Go.AV
end Go.M
namespace Go.M
open Go.AV
end Go.M
namespace Go.M
open Go.AV
theorem rk1 {t:List Int} (hl:t.length≤1000000):∀(m k:Nat) (acc:List Int),k+m=t.length→acc.length+m≤4294967296→zE (fun (x:Int×(List Int))=>zD6 t x.1 x.2) ((k:Int),acc)=some (acc++idn (t.drop k))
 | 0,k,acc,h,_=>by
  rw [List.drop_of_length_le (by omega)];refine zL ?_;simp only [zD6,kO (show t.length≤k by omega),cond_false,idn,List.flatMap_nil,List.append_nil]
 | m+1,k,acc,h,ha=>by
  have hk:k < t.length:=by omega
  have h1:=zZC t[k];rw [zR (x':=(((k+1:Nat):Int),acc++if 0≤t[k]∧t[k]≤1114111 then [t[k]+1] else [])) (by
   simp only [zD6,wF,yV hk,cond_true,zU hk,zA,zQ,yDZ t[k] (show acc.length+1≤4294967296 by omega),zO (k:=k) (by omega)])]
  rw [rk1 hl m (k+1) _ (by omega) (by rw [List.length_append];omega),List.drop_eq_getElem_cons hk]
  simp only [idn,List.flatMap_cons,List.append_assoc]
section
variable {n:Norm} {c:Collation} (hn:NSm n) (hok:vZ n) (hs:Sm c) (hg:∀g∈c.Groups,g.Name.length≤MX) {text:List Int} (ht:text.length≤2000) (hf:(zIY n false text).length≤900)
include hn hok hs hg ht hf
theorem z9K (o:Options):zF8 n c o text=some (zKL (wZ o) (wk c (xH n) (zDI n false text)).1 (zDI n false text)):=by
 unfold zF8 zKL;have hd:(zDI n false text).length≤2000:=by rw [zKK];omega
 have hel:=zY0 (n:=n) hs (text:=text) hd;have hE:wR n c text=some (wk c (xH n) (zDI n false text)).1:=by
  unfold wR;rw [zUH hn hok hs hg ht hf,zA]
 rw [show ({Strength:=o.Strength,Variable:=o.Variable,Backward:=o.Backward,Identical:=o.Identical}:Options)=o from rfl,zW7,zA,hE,zA,show ({Strength:=(wZ o).Strength,Variable:=(wZ o).Variable,Backward:=(wZ o).Backward,Identical:=(wZ o).Identical}:Options)=wZ o from rfl,zJ2 (by omega),z69,zA];generalize (wk c (xH n) (zDI n false text)).1=el at*;have h4:=zSQ el (wZ o);have hN:∀x∈wts el (wZ o),x.length≤1000000000:=fun x hx=>Nat.le_trans (zUK hx) hel;have hk0:=yIP hN (by omega) (wts el (wZ o)).length 0 [] (by omega) (by simp;omega)
 rw [show ((0:Nat):Int)=0 from rfl,List.drop_zero] at hk0;have hjl:=zZB (wts el (wZ o)) 0 [] hN;simp only [List.length_nil] at hjl;unfold zK2;rw [hk0,zA,zA];cases hi:(wZ o).Identical with
 | false=>simp
 | true=>
  have h5:(jn 0 [] (wts el (wZ o))).length≤4000000004:=by omega
  rw [Bool.not_true,cond_false,xN (by simp;omega),zA,yDR hn hok ht hf,zA]
  have hk1:=rk1 (t:=zDI n false text) (by omega) (zDI n false text).length 0 (jn 0 [] (wts el (wZ o))++ [0]) (by omega) (by simp;omega)
  rw [show ((0:Nat):Int)=0 from rfl,List.drop_zero] at hk1;rw [hk1,zA,if_pos rfl,List.append_assoc]
end
end Go.M
namespace Go.M
open Go.AV
theorem zQV {a b:List Int}:wY a b=0↔a=b:=by rw [zYP];exact (zKH a b 0).2
theorem zNG {a b:List Int}:wY a b < 0↔lx a b:=by rw [zYP];exact (zKH a b 0).1
theorem zZD:∀(a:List Int),¬lx a a
 | [],h=>h
 | x::a,h=>by
  rcases h with h | ⟨_,h⟩;omega;exact zZD a h
theorem zUN:∀(a b:List Int),lx a b∨a=b∨lx b a
 | [],[]=> .inr (.inl rfl)
 | [],_::_=> .inl trivial
 | _::_,[]=> .inr (.inr trivial)
 | x::a,y::b=>by
  rcases Int.lt_trichotomy x y with h | h | h;exact .inl (.inl h);subst h;rcases zUN a b with h | h | h;exact .inl (.inr ⟨rfl,h⟩);exact .inr (.inl (by rw [h]));exact .inr (.inr (.inr ⟨rfl,h⟩));exact .inr (.inr (.inl h))
theorem yIQ {a b:List Int} (h:lx a b) (k:lx b a):False:=zZD a (zPL h k)
theorem yD1 (a b:List Int):wY a b= -1∨wY a b=0∨wY a b=1:=by
 unfold wY;cases hc:chk (fun _ (p:Int×Int)=>if p.1=p.2 then none else some (if p.1 < p.2 then (-1:Int) else 1)) (a.zip b) 0 with
 | none=>simp only [];by_cases h1:a.length < b.length <;> by_cases h2:b.length < a.length <;> simp [h1,h2]
 | some y=>
  have:=zHH (P:=fun y=>y= -1∨y=1) (fun k x y hy=>by
   split at hy;cases hy;simp only [Option.some.injEq] at hy;subst hy;split <;> simp) hc
  simp only [];omega
theorem zSR {a b:List Int}:0 < wY a b↔lx b a:=by
 have h0:=zQV (a:=a) (b:=b);have h1:=zNG (a:=a) (b:=b);rcases zUN a b with h | h | h
 exact ⟨fun k=>by have:=h1.2 h;omega,fun k=>(yIQ h k).elim⟩
 exact ⟨fun k=>by have:=h0.2 h;omega,fun k=>by rw [h] at k;exact (zZD b k).elim⟩
 refine ⟨fun _=>h,fun _=>?_⟩;have n0:¬wY a b=0:=fun e=>by rw [h0.1 e] at h;exact zZD b h
 have n1:¬wY a b < 0:=fun e=>yIQ (h1.1 e) h;omega
theorem zPW (a b:List Int):wY b a= -wY a b:=by
 have v1:=yD1 a b;have v2:=yD1 b a;rcases zUN a b with h | h | h
 have:=zNG.2 h;have:=zSR.2 h;omega;have:=zQV.2 h;have:=zQV.2 h.symm;omega;have:=zNG.2 h;have:=zSR.2 h;omega
theorem z49 {a b c:List Int} (h1:wY a b≤0) (h2:wY b c≤0):wY a c≤0∧(wY a c=0↔wY a b=0∧wY b c=0):=by rcases zUN a b with h | h | h;rcases zUN b c with k | k | k;have:=zNG.2 (zPL h k);have:=zNG.2 h;omega;rw [←k];have:=zNG.2 h;omega;have:=zSR.2 k;omega;rw [h,zQV.2 rfl];omega;have:=zSR.2 h;omega
end Go.M
namespace Go.M
open Go.AV
noncomputable def eLm (n:Norm) (c:Collation) (t:List Int):List Element:=(wk c (xH n) (zDI n false t)).1
noncomputable def sK (n:Norm) (c:Collation) (o:Options) (t:List Int):List Int:=zKL (wZ o) (eLm n c t) (zDI n false t)
noncomputable def cK (n:Norm) (c:Collation) (o:Options) (a b:List Int):Int:=wY (sK n c o a) (sK n c o b)
def TOk (n:Norm) (t:List Int):Prop:=t.length≤2000∧(zIY n false t).length≤900
def fdf:List (List Int)→List (List Int)→Nat→Option Nat
 | x::xs,y::ys,k=>if x=y then fdf xs ys (k+1) else some (k+1)
 | _,_,_=>none
noncomputable def yKW (n:Norm) (c:Collation) (o:Options) (a b:List Int):Int:=match fdf (wts (eLm n c a) (wZ o)) (wts (eLm n c b) (wZ o)) 0 with
 | some i=>(i:Int)
 | none=>if cK n c o a b=0 then 0 else 5
def fdS:Option Nat→Unit⊕Int
 | some i=> .inr (i:Int)
 | none=> .inl ()
theorem yKX {a b:List Int} (ha:a.length≤4611686018427387904):zC5 a b=some (decide (a=b)):=by unfold zC5;rw [zEZ ha,zA];congr 1;rw [Bool.eq_iff_iff,decide_eq_true_eq,decide_eq_true_eq];exact zQV
theorem lv0 {A B:List (List Int)} (hl:A.length=B.length) (h4:A.length≤1000) (hx:∀x∈A,x.length≤4611686018427387904):∀(m k:Nat),k+m=A.length→zE (fun (x:Int)=>vL A B x) (k:Int)=some (fdS (fdf (A.drop k) (B.drop k) k))
 | 0,k,h=>by
  rw [List.drop_of_length_le (by omega),List.drop_of_length_le (by omega)];have e:decide ((k:Int) < min (A.length:Int) (B.length:Int))=false:=by simp;omega
  exact zL (by simp only [vL,e,cond_false,fdf,fdS])
 | m+1,k,h=>by
  have h1:k < A.length:=by omega
  have h2:k < B.length:=by omega
  have e:decide ((k:Int) < min (A.length:Int) (B.length:Int))=true:=by simp;omega
  have he:=yKX (b:=B[k]) (hx _ (List.getElem_mem h1));rw [List.drop_eq_getElem_cons h1,List.drop_eq_getElem_cons h2];simp only [fdf];by_cases hq:A[k]=B[k];rw [if_pos hq,zR (x':=((k+1:Nat):Int)) (by simp only [vL,e,cond_true,zU h1,zU h2,zA,he.trans (congrArg some (decide_eq_true hq)),Bool.not_true,cond_false,zO (k:=k) (by omega)])];exact lv0 hl h4 hx m (k+1) (by omega);rw [if_neg hq];exact zL (by simp only [vL,e,cond_true,zU h1,zU h2,zA,he.trans (congrArg some (decide_eq_false hq)),Bool.not_false,cond_true,zO (k:=k) (by omega),fdS])
section
variable {n:Norm} {c:Collation} (hn:NSm n) (hok:vZ n) (hs:Sm c) (hg:∀g∈c.Groups,g.Name.length≤MX)
include hn hok hs hg
theorem kE (o:Options) {t:List Int} (h:TOk n t):zBC n c o t=some (sK n c o t):=yKU hn hok hs hg h.1 (by have:=h.2;omega) o
theorem rkE (o:Options) {t:List Int} (h:TOk n t):zF8 n c o t=some (sK n c o t):=z9K hn hok hs hg h.1 h.2 o
theorem yHL {t:List Int} (h:TOk n t):jJ n c t=some (eLm n c t):=zRI hn hok hs hg h.1 (by have:=h.2;omega)
theorem yMP {t:List Int} (h:TOk n t):wR n c t=some (eLm n c t):=by unfold wR;rw [zUH hn hok hs hg h.1 h.2,zA];rfl
omit hn hok hg in
theorem elL {t:List Int} (h:TOk n t):(eLm n c t).length≤1000000000:=zY0 hs (by rw [zKK];have:=h.2;omega)
omit hn hok hg in
theorem kL (o:Options) {t:List Int} (h:TOk n t):(sK n c o t).length≤4611686018427387904:=yD0 hs (by have:=h.2;omega) o
theorem cE (o:Options) {a b:List Int} (ha:TOk n a) (hb:TOk n b):uS n c o a b=some (cK n c o a b):=by unfold uS;rw [kE hn hok hs hg o ha,zA,kE hn hok hs hg o hb,zA,zEZ (kL hs o ha),zA];rfl
theorem rcE (o:Options) {a b:List Int} (ha:TOk n a) (hb:TOk n b):zBP n c o a b=some (cK n c o a b):=by unfold zBP;rw [rkE hn hok hs hg o ha,zA,rkE hn hok hs hg o hb,zA,zJ1 (kL hs o ha),zA];rfl
theorem lE (o:Options) {a b:List Int} (ha:TOk n a) (hb:TOk n b):zC9 n c o a b=some (yKW n c o a b):=by
 unfold zC9 yKW;have hA:=elL hs ha;have hB:=elL hs hb;rw [yHL hn hok hs hg ha,zA,zI1 (by omega),zA,yHL hn hok hs hg hb,zA,zI1 (by omega),zA];have hlen:(wts (eLm n c a) (wZ o)).length=(wts (eLm n c b) (wZ o)).length:=by rw [zZA (zOH o),zZA (zOH o)]
 have h4:=zSQ (eLm n c a) (wZ o);have:=lv0 hlen (by omega) (fun x hx=>by have:=zUK hx;omega) _ 0 (Nat.zero_add _)
 rw [show ((0:Nat):Int)=0 from rfl,List.drop_zero,List.drop_zero] at this;rw [this,zA,cE hn hok hs hg o ha hb];cases fdf (wts (eLm n c a) (wZ o)) (wts (eLm n c b) (wZ o)) 0 with
 | some i=>rfl
 | none=>
  simp only [fdS,Sum.elim_inl,zA];by_cases h0:cK n c o a b=0 <;> simp [h0]
end
theorem yMQ:∀(L:List (Int×Int)),∃n b,zLP (fun (s:Bool) (x:Int×Int)=>k8 s x) false L=some (n,b,false)∧n≤L.length∧(b=true→n=L.length∧∀p∈L,p.1=p.2)∧(b=false→0 < n∧∃p∈L,p.1≠p.2)
 | []=>⟨0,true,rfl,Nat.le_refl _,fun _=>⟨rfl,fun p hp=>by cases hp⟩,fun h=>by cases h⟩
 | x::L=>by
  by_cases hx:x.1=x.2;obtain ⟨n,b,h1,h2,h3,h4⟩:=yMQ L;refine ⟨n+1,b,?_,by simp;omega,fun hb=>?_,fun hb=>?_⟩
  simp only [zLP,k8,hx,decide_true,Bool.not_true,cond_false] at h1 ⊢;rw [h1];rfl;obtain ⟨q1,q2⟩:=h3 hb;exact ⟨by simp [q1],fun p hp=>by rcases List.mem_cons.1 hp with rfl | hp;exact hx;exact q2 p hp⟩
  obtain ⟨_,p,hp,hq⟩:=h4 hb;exact ⟨by omega,p,by simp [hp],hq⟩;refine ⟨1,false,?_,by simp,(fun h=>by cases h),(fun _=>⟨by omega,x,by simp,hx⟩)⟩;simp only [zLP,k8,hx,decide_false,Bool.not_false,cond_true]
theorem pr0 {a b:List Int} {n:Nat} {stop:Bool} (ha:a.length≤1000000000) (hn:n≤(wL a b).length) (h0:stop=true→0 < n) (h1:stop=false→n=(wL a b).length):∀(m k:Nat),k+m=n→(stop=true→0 < m)→
    ∃y,zE (fun (x:Int×Nat)=>wA a b ((wL a b).take n) stop x.1 x.2) ((k:Int),k)=some y∧(y= .inl n∨y= .inr n):=by
  have hzl:(wL a b).length=min a.length b.length:=by unfold wL;simp
  intro m
  induction m with
  | zero=>
    intro k hk hm;have hst:stop=false:=by cases stop;rfl;exact absurd (hm rfl) (by omega)
    have:=h1 hst;have e:decide ((k:Int) < min (a.length:Int) (b.length:Int))=false:=by simp;omega
    exact ⟨.inl k,zL (by simp only [wA,e,cond_false]),.inl (by rw [show k=n by omega])⟩
  | succ m ih=>
    intro k hk _;have ka:k < a.length:=by omega
    have kb:k < b.length:=by omega
    have e:decide ((k:Int) < min (a.length:Int) (b.length:Int))=true:=by simp;omega
    have hlt:k < ((wL a b).take n).length:=by rw [List.length_take];omega
    have hy:yM ((wL a b).take n) k (a[k],b[k])=some ():=by
      unfold yM;rw [if_pos];rw [List.getElem?_take,if_pos (by omega)];unfold wL;rw [List.getElem?_eq_getElem (by simp;omega)]
      simp
    have hlen:((wL a b).take n).length=n:=by rw [List.length_take];omega
    by_cases hg:stop=true∧m=0
    · refine ⟨.inr (k+1),zL ?_,.inr (by rw [show k+1=n by omega])⟩
      have hgo:goB stop ((wL a b).take n).length k=false:=by
        rw [hlen];unfold goB;rw [hg.1,show k+1=n by omega];simp [Nat.beq_refl]
      simp only [wA,e,cond_true,zU ka,zU kb,zA,hy,hgo,Bool.not_false]
    · obtain ⟨y,h2,h3⟩:=ih (k+1) (by omega) (fun hs=>by
        rcases Nat.eq_zero_or_pos m with h | h
        · exact absurd ⟨hs,h⟩ hg
        · exact h)
      refine ⟨y,?_,h3⟩;have hgo:goB stop ((wL a b).take n).length k=true:=by
        rw [hlen];unfold goB;cases stop with
        | false=>rfl
        | true=>
          have hb:Nat.beq (k+1) n=false:=by
            cases h:Nat.beq (k+1) n with
            | false=>rfl
            | true=>have:=Nat.eq_of_beq_eq_true h;exact absurd ⟨rfl,by omega⟩ hg
          rw [hb];rfl
      rw [zR (x':=(((k+1:Nat):Int),k+1)) (by simp only [wA,e,cond_true,zU ka,zU kb,zA,hy,hgo,Bool.not_true,cond_false,zO (k:=k) (by omega)])];exact h2
theorem z2R {a b:List Int} {n:Nat} {stop:Bool} (ha:a.length≤1000000000) (hn:n≤(wL a b).length) (h0:stop=true→0 < n) (h1:stop=false→n=(wL a b).length):zC6 ((wL a b).take n) stop a b=some ():=by
 unfold zC6;obtain ⟨y,h2,h3⟩:=pr0 ha hn h0 h1 n 0 (by omega) h0;rw [show ((0:Nat):Int)=0 from rfl] at h2;rw [h2,zA];have hlen:((wL a b).take n).length=n:=by rw [List.length_take];omega
 have he:zTL ((wL a b).take n) n=some ():=by unfold zTL;rw [hlen,if_pos rfl]
 rcases h3 with rfl | rfl;exact he;exact he
theorem z7A:∀{a b:List Int},b.length≤a.length→((∀p∈a.zip b,p.1=p.2)↔a.take b.length=b)
 | _,[],_=>by simp
 | [],y::b,h=>by simp at h
 | x::a,y::b,h=>by
  have ih:=z7A (a:=a) (b:=b) (by simpa using h);simp only [List.zip_cons_cons,List.mem_cons,forall_eq_or_imp,List.length_cons,List.take_succ_cons,List.cons.injEq];rw [ih]
noncomputable def stE0 (n:Norm) (c:Collation) (o:Options) (a b:List Int):Bool:=decide ((row0 b).length≤(row0 a).length∧(row0 a).take (row0 b).length=row0 b) where
 row0 (t:List Int):List Int:=(wts (eLm n c t) (wZ o)).headD []
section
variable {n:Norm} {c:Collation} (hn:NSm n) (hok:vZ n) (hs:Sm c) (hg:∀g∈c.Groups,g.Name.length≤MX)
include hn hok hs hg
omit hn hok hs hg in
theorem w0 (o:Options) (t:List Int):z7 (wts (eLm n c t) (wZ o)) (0:Int)=some (stE0.row0 n c o t)∧(stE0.row0 n c o t).length≤(eLm n c t).length:=by
 unfold stE0.row0;have hl:=zZA (l:=eLm n c t) (zOH o);have hb:=yHK (zOH o);cases hw:wts (eLm n c t) (wZ o) with
 | nil=>rw [hw] at hl;simp at hl;omega
 | cons x xs=>
  refine ⟨rfl,?_⟩;have:x∈wts (eLm n c t) (wZ o):=by rw [hw];simp
  exact zUK this
theorem z5A (o:Options) {a b:List Int} (ha:TOk n a) (hb:TOk n b):wP n c o a b=some (stE0 n c o a b):=by
 unfold wP;have hA:=elL hs ha;have hB:=elL hs hb;obtain ⟨a1,a2⟩:=w0 (n:=n) (c:=c) o a;obtain ⟨b1,b2⟩:=w0 (n:=n) (c:=c) o b;rw [yHL hn hok hs hg ha,zA,zI1 (by omega),zA,a1,zA,yHL hn hok hs hg hb,zA,zI1 (by omega),zA,b1,zA];unfold stE0;generalize stE0.row0 n c o a=x at*;generalize stE0.row0 n c o b=y at*;by_cases hl:x.length < y.length;have e:decide ((x.length:Int) < (y.length:Int))=true:=by simp;omega
 have:¬(y.length≤x.length∧x.take y.length=y):=fun h=>by omega
 rw [e,cond_true];simp [this];have e:decide ((x.length:Int) < (y.length:Int))=false:=by simp;omega
 rw [e,cond_false];obtain ⟨m,f,h1,h2,h3,h4⟩:=yMQ (wL x y);rw [h1,zA];have hz:=z7A (a:=x) (b:=y) (by omega);cases f with
 | true=>
  obtain ⟨q1,q2⟩:=h3 rfl;simp only [Bool.not_true];rw [z2R (by omega) h2 (fun h=>by cases h) (fun _=>q1),zA,cond_true];have:y.length≤x.length∧x.take y.length=y:=⟨by omega,hz.1 q2⟩;simp [this]
 | false=>
  obtain ⟨q1,p,hp,hq⟩:=h4 rfl;simp only [Bool.not_false];rw [z2R (by omega) h2 (fun _=>q1) (fun h=>by cases h),zA,cond_false];have:¬(y.length≤x.length∧x.take y.length=y):=fun h=>hq (hz.2 h.2 p hp);simp [this]
theorem yHM (o:Options) {a b:List Int} (ha:TOk n a) (hb:TOk n b):zFL n c o a b=some (stE0 n c o a b):=by
 unfold zFL;have hA:=elL hs ha;have hB:=elL hs hb;obtain ⟨a1,a2⟩:=w0 (n:=n) (c:=c) o a;obtain ⟨b1,b2⟩:=w0 (n:=n) (c:=c) o b;rw [yMP hn hok hs hg ha,zA,zJ2 (by omega),zA,yMP hn hok hs hg hb,zA,zJ2 (by omega),zA,b1,zA,a1,zA,zQ];unfold stE0;generalize stE0.row0 n c o a=x at*;generalize stE0.row0 n c o b=y at*;by_cases hl:y.length≤x.length;have e:decide ((y.length:Int)≤(x.length:Int))=true:=by simp;omega
 have he:=zPN (a:=x.take y.length) (b:=y) (by rw [List.length_take];omega)
 simp only [e,xC,zA,zEU hl,he,hl,true_and,Bool.true_and];have e:decide ((y.length:Int)≤(x.length:Int))=false:=by simp;omega
 simp only [e,vB,zA,Bool.false_and,hl,false_and,decide_false]
end
end Go.M
namespace Go.M
open Go.AV
def zBS (n:Nat):List Int:=(List.range n).map fun (i:Nat)=>(i:Int)
def kI (K:List (List Int)) (i:Int):List Int:=K.getD i.toNat []
def ltI (K:List (List Int)) (i j:Int):Bool:=decide (wY (kI K i) (kI K j) < 0)
theorem yD2 {K:List (List Int)} {i:Int} (h:0≤i∧i < K.length):z7 K i=some (kI K i):=by
 have e:i=((i.toNat:Nat):Int):=by omega
 have hlt:i.toNat < K.length:=by omega
 rw [e,zU hlt];unfold kI;rw [Int.toNat_natCast,List.getD_eq_getElem?_getD,List.getElem?_eq_getElem hlt];rfl
theorem zGL (n:Nat):(zBS n).length=n:=by simp [zBS]
theorem z5B {n:Nat} {x:Int} (h:x∈zBS n):0≤x∧x < n:=by obtain ⟨i,hi,rfl⟩:=List.mem_map.1 h;have:=List.mem_range.1 hi;omega
theorem so0 {n:Nat} {z:List Int} (hz:z.length=n) (hn:n≤1000):∀(m k:Nat) (r:List Int),k+m=n→r.length=n→r.take k=zBS k→zE (fun (x:Int×(List Int))=>zA1 z x.1 x.2) ((k:Int),r)=some (zBS n)
 | 0,k,r,h,hr,hk=>by
  have e:r=zBS n:=by
   rw [List.take_of_length_le (by omega)] at hk;rw [hk,show k=n by omega]
  rw [e];exact zL (by simp only [zA1,hz,kO (show n≤k by omega),cond_false])
 | m+1,k,r,h,hr,hk=>by
  have hlt:k < r.length:=by omega
  have e:decide ((k:Int) < (z.length:Int))=true:=by rw [hz];exact yV (by omega)
  rw [zR (x':=(((k+1:Nat):Int),r.set k (k:Int))) (by simp only [zA1,e,cond_true,zU hlt,zFQ hlt,zA,zO (k:=k) (by omega)])];refine so0 hz hn m (k+1) _ (by omega) (by simpa using hr) ?_;rw [List.take_add_one,List.take_set_of_le (Nat.le_refl _),hk];simp [zBS,List.range_succ,hlt]
section
variable {n:Norm} {c:Collation} (hn:NSm n) (hok:vZ n) (hs:Sm c) (hg:∀g∈c.Groups,g.Name.length≤MX)
include hn hok hs hg
theorem ks0 (o:Options) {T:List (List Int)} (hT:∀t∈T,TOk n t) (hl:T.length≤1000):∀(m k:Nat) (r:List (List Int)),k+m=T.length→r.length=T.length→r.take k=(T.map (sK n c o)).take k→
  zE (fun (x:Int×(List (List Int)))=>zA0 T n c o x.1 x.2) ((k:Int),r)=some (T.map (sK n c o))
 | 0,k,r,h,hr,hk=>by
  have e:r=T.map (sK n c o):=by
   rw [List.take_of_length_le (by omega),List.take_of_length_le (by simp;omega)] at hk
   exact hk
  rw [e];exact zL (by simp only [zA0,kO (show T.length≤k by omega),cond_false])
 | m+1,k,r,h,hr,hk=>by
  have h1:k < T.length:=by omega
  have h2:k < r.length:=by omega
  rw [zR (x':=(((k+1:Nat):Int),r.set k (sK n c o T[k]))) (by simp only [zA0,yV h1,cond_true,zU h1,zA,kE hn hok hs hg o (hT _ (List.getElem_mem h1)),zU h2,zFQ h2,zO (k:=k) (by omega)])];refine ks0 o hT hl m (k+1) _ (by omega) (by simpa using hr) ?_;rw [List.take_add_one,List.take_set_of_le (Nat.le_refl _),hk,List.take_add_one];simp [h1,h2]
theorem z7B (o:Options) {T:List (List Int)} (hT:∀t∈T,TOk n t) (hl:T.length≤1000):zD3 n c o T=some (T.map (sK n c o)):=by unfold zD3;rw [zT3 (by omega),zA];have:=ks0 hn hok hs hg o hT hl T.length 0 (List.replicate T.length []) (by omega) (by simp) (by simp);rw [show ((0:Nat):Int)=0 from rfl] at this;rw [this];rfl
theorem z2S (o:Options) {T:List (List Int)} (hT:∀t∈T,TOk n t) (hl:T.length≤19):zCT n c o T=some (wJ (ltI (T.map (sK n c o))) (zBS T.length) []):=by
 unfold zCT;rw [z7B hn hok hs hg o hT (by omega),zA,zT3 (by omega),zA];have h0:=so0 (n:=T.length) (z:=List.replicate T.length (0:Int)) (by simp) (by omega) T.length 0 (List.replicate T.length (0:Int)) (by omega) (by simp) (by simp [zBS]);rw [show ((0:Nat):Int)=0 from rfl] at h0;rw [h0,zA];have hq:∀x y:Int,(0≤x∧x < T.length)→(0≤y∧y < T.length)→∃q,zB8 x y (T.map (sK n c o))=some q∧decide (q < 0)=ltI (T.map (sK n c o)) x y:=fun x y hx hy=>by
  have hx':0≤x∧x < (T.map (sK n c o)).length:=by rw [List.length_map];exact hx
  have hy':0≤y∧y < (T.map (sK n c o)).length:=by rw [List.length_map];exact hy
  have hk:(kI (T.map (sK n c o)) x).length≤4611686018427387904:=by
   have hlt:x.toNat < T.length:=by omega
   unfold kI;rw [List.getD_eq_getElem?_getD,List.getElem?_map,List.getElem?_eq_getElem hlt];exact kL hs o (hT _ (List.getElem_mem hlt))
  refine ⟨wY (kI (T.map (sK n c o)) x) (kI (T.map (sK n c o)) y),?_,rfl⟩;unfold zB8;rw [yD2 hx',zA,yD2 hy',zA,zEZ hk,zA]
 have hI:=yIJ (Q:=fun x=>0≤x∧x < (T.length:Int)) (lt:=ltI (T.map (sK n c o))) (g:=fun x0 x1=>zB8 x0 x1 (T.map (sK n c o))) hq (p:=[]) (m:=zBS T.length) (t:=[]) (a:=0) (b:=(T.length:Int)) rfl (by rw [zGL];simp) (fun y hy=>z5B hy) (by rw [zGL];simp;omega)
 simp only [List.nil_append,List.append_nil] at hI;unfold yP xX;rw [zGL];have e20:decide ((20:Int)≤(T.length:Int))=false:=by simp;omega
 have e21:decide ((20:Int) < (T.length:Int))=false:=by simp;omega
 rw [zL (y:=((0:Int),zBS T.length)) (by simp only [z8,e20,cond_false]),zA,hI,zA,zL (y:=wJ (ltI (T.map (sK n c o))) (zBS T.length) []) (by simp only [yG,e21,cond_false])];rfl
end
def cL:Collation:={Entries:=[{Codes:=[65],Elements:=[{Primary:=5,Secondary:=32,Tertiary:=8,Variable:=false}]},{Codes:=[97],Elements:=[{Primary:=5,Secondary:=32,Tertiary:=2,Variable:=false}]}],Groups:=[],Base:=64448,Second:=32,Third:=2}
def oL:Options:={Strength:=3,Variable:=1,Backward:=false,Identical:=false}
theorem z5C:Sm cL:=⟨by decide,by decide,by decide,by decide⟩
theorem zW9 (t:List Int) (h:∀x∈t,syl x=false):zIY nZ false t=t:=by unfold zIY;rw [zUM];refine z6T fun e he=>?_;have hs:=h e he;unfold fu exF;show hdE e= [e];unfold hdE;rw [hs];rfl
theorem sKL {t:List Int} (h:∀x∈t,syl x=false) (hd:csE (clE []) t=t):sK nZ cL oL t=zKL oL (wk cL [] t).1 t:=by
 unfold sK eLm;have e:zDI nZ false t=t:=by unfold zDI;rw [zW9 t h,zUM];exact hd
 rw [e,z2Q,yDT (o:=oL) rfl]
end Go.M


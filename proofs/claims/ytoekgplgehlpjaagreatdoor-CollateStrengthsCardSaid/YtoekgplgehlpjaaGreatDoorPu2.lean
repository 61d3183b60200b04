/- What the plain counterparts answer. Conditions: none. -/
import Derived.Test.YtoekgplgehlpjaaGreatDoorPu1
set_option linter.unusedSimpArgs false
set_option linter.unusedVariables false
set_option linter.unnecessarySimpa false
namespace Go.M
open Go.AV
open Classical in
noncomputable def zC4 (n:Norm):List Span:=if VD0 n then n.Classes else []
theorem z9R:CV []:=⟨fun k h=>(by cases h),fun k h=>(by cases h),fun k h=>(by cases h)⟩
theorem z9S (n:Norm):CV (zC4 n):=by unfold zC4;split;rename_i h;exact h.cv;exact z9R
theorem zUF {n:Norm} (hs:NSm n):(zC4 n).length≤40:=by unfold zC4;split;exact hs.cl;simp
def zS2 (l:List Span) (t:Int):Int:=l.foldl (fun t s=>max t s.Value) t
def zKT (c:Collation) (l:List Span):Colltable_table:={zOI c with classes:=l,top:=zS2 l 0}
theorem z9T {l:List Span} (hl:l.length≤2000):∀(d k:Nat) (t:Int),l.length - k=d→k≤l.length→zG (fun (x:Int×Int)=>jK l x.1 x.2) ((k:Int),t)=some (zS2 (l.drop k) t):=by
 intro d
 induction d with
 | zero=>
  intro k t h1 h2;rw [List.drop_of_length_le (by omega)];refine zM ?_;simp only [jK,kW (show l.length≤k by omega),cond_false];rfl
 | succ d ih=>
  intro k t h1 h2;have hk:k < l.length:=by omega
  rw [List.drop_eq_getElem_cons hk];rw [zU (x':=(((k+1:Nat):Int),max t l[k].Value)) (by simp only [jK,kK hk,cond_true,zW hk,zA,zP (k:=k) (by omega)])];exact ih (k+1) _ (by omega) (by omega)
theorem yDU {c:Collation} {n:Norm} (hs:NSm n) (hok:wS n):vL (zOI c) n=some (zKT c (zC4 n)):=by
 obtain ⟨e,he,hp⟩:=z9J hs hok;unfold vL;rw [he,zA];have h1:(cond (decide (e=0)) (some n.Classes) (some (zOI c).classes):Option (List Span))=some (zC4 n):=by
  unfold zC4;by_cases h:e=0;rw [if_pos (hp.1 h)];simp [h];rw [if_neg (fun hh=>h (hp.2 hh))];simp [h,zOI]
 rw [h1,zA];have h2:=z9T (l:=zC4 n) (by have:=zUF hs;omega) (zC4 n).length 0 0 (by omega) (by omega)
 rw [List.drop_zero] at h2;have h2':zG (fun (x:Int×Int)=>jK (zC4 n) x.1 x.2) (0,(zOI c).top)=some (zS2 (zC4 n) 0):=h2;rw [h2'];rfl
theorem zKU {c:Collation} (hs:Sm c) {l:List Span} {codes:List Int}:jN (zKT c l) codes=some (zGH (jO c).Entries codes):=yDB hs (codes:=codes)
theorem zK9 {c:Collation} {l:List Span} (h:CV l) (hl:l.length≤2000) (x:Int):wN (zKT c l) x=some (clE l x):=by
 obtain ⟨j,hj,hr,hlo,hhi⟩:=zQB (n:=l.length) hl (body:=fun (q:Int×Int)=>zBH (fun x0=>xW x0 (zKT c l) x) q.1 q.2) (fun k=>decide (x≤(nth l k).Hi))
  (fun k _=>by simp only [zBH,kW (Nat.le_refl _),cond_false])
  (fun lo hi h1 h2=>by
   have hm:(lo+hi) / 2 < l.length:=by omega
   have hi1:yH (zKT c l).classes (((lo+hi) / 2:Nat):Int)=some (nth l ((lo+hi) / 2)):=z3 hm;simp only [zBH,kK h1,cond_true,zKS (show lo+hi≤4611686018427387903 by omega),xW,hi1,zA,zP (k:=(lo+hi) / 2) (by omega)];by_cases hc:x≤(nth l ((lo+hi) / 2)).Hi <;> simp [hc])
  (fun i j hij hj hi=>by
   have:=h.hi hij hj;simp only [decide_eq_true_eq] at hi ⊢;omega)
 simp only [decide_eq_false_iff_not,decide_eq_true_eq] at hlo hhi;unfold wN zHU;have e0:(zKT c l).classes=l:=rfl;rw [e0,hr,yE9 h hj (fun k hk=>by have:=hlo k hk;omega) hhi]
 simp only [zA,zS];by_cases hn:j < l.length;simp only [kK hn,w9,z3 hn,zA,Bool.true_and,hn,true_and];by_cases hc2:(nth l j).Lo≤x <;> simp [hc2];simp only [kW (show l.length≤j by omega),zA5,zA,Bool.false_and,cond_false,hn,false_and,if_false]
theorem z1P:∀(l:List Span) (t:Int),t≤zS2 l t∧∀s∈l,s.Value≤zS2 l t
 | [],t=>⟨Int.le_refl _,fun s h=>by cases h⟩
 | x::l,t=>by
  have ih:=z1P l (max t x.Value);refine ⟨by show t≤zS2 l (max t x.Value);omega,fun s hs=>?_⟩
  show s.Value≤zS2 l (max t x.Value);rcases List.mem_cons.1 hs with rfl | hs
  omega;exact ih.2 s hs
theorem yJV {l:List Span} (x:Int):clE l x≤zS2 l 0:=by
 unfold clE;cases hf:l.find? (zP1 x) with
 | none=>exact (z1P l 0).1
 | some s=>exact (z1P l 0).2 s (List.mem_of_find?_eq_some hf)
theorem yFI {l:List Span} (h:CV l) (x:Int):0≤clE l x:=by
 unfold clE;cases hf:l.find? (zP1 x) with
 | none=>exact Int.le_refl _
 | some s=>
  have:=List.mem_of_find?_eq_some hf;obtain ⟨k,hk,rfl⟩:=List.getElem_of_mem this;have:=h.sp k hk;rw [zBX hk] at this;unfold spOk at this;show 0≤(l[k]).Value;omega
def zNM (p:Nat→Bool):Nat→Nat
 | 0=>0
 | k+1=>if p (k+1) then k+1 else zNM p k
theorem zRW (p:Nat→Bool):∀k,zNM p k≤k
 | 0=>Nat.le_refl _
 | k+1=>by unfold zNM;split;omega;have:=zRW p k;omega
theorem zUG {p : Nat → Bool} {m : Nat} : ∀ {k : Nat}, m ≤ k → (∀ j, m < j → j ≤ k → p j = false) → zNM p k = zNM p m
  | 0, h, _ => by have : m = 0 := by omega
                  rw [this]
  | k + 1, h, hp => by
    by_cases e : m = k + 1
    · rw [e]
    · unfold zNM
      rw [hp (k + 1) (by omega) (Nat.le_refl _)];simp only [Bool.false_eq_true, if_false];rw [zUG (m := m) (by omega) fun j h1 h2 => hp j h1 (by omega)];cases m <;> rfl
def pfx (es:List Entry) (text:List Int) (k:Nat):Bool:=(zGH es (text.take k)).2
def zC5 (es:List Entry) (text:List Int):Nat:=zNM (pfx es text) text.length
def zFW (fd:List Int→Bool) (cl:Int→Int):List Int→List Int→List Int→Int→List Int×List Int
 | [],p,s,_=>(p,s)
 | x::r,p,s,h=>if cl x=0 then (p,s++x::r) else if fd (p++ [x])&&decide (h < cl x) then zFW fd cl r (p++ [x]) s h else zFW fd cl r p (s++ [x]) (max h (cl x))
theorem zUH {fd:List Int→Bool} {cl:Int→Int}:∀(r p s:List Int) (h:Int),(∀x,cl x≤h)→zFW fd cl r p s h=(p,s++r)
 | [],p,s,h,_=>by simp [zFW]
 | x::r,p,s,h,hc=>by
  have hx:=hc x;unfold zFW;split;rfl;have e:decide (h < cl x)=false:=by simp;omega
  rw [e,Bool.and_false,if_neg (by simp),zUH r p (s++ [x]) (max h (cl x)) (fun y=>by have:=hc y;omega)]
  simp
theorem zRX {fd:List Int→Bool} {cl:Int→Int}:∀(r p s:List Int) (h:Int),p.length≤(zFW fd cl r p s h).1.length∧(zFW fd cl r p s h).1.length+(zFW fd cl r p s h).2.length=p.length+s.length+r.length∧((zFW fd cl r p s h).1.length=p.length→zFW fd cl r p s h=(p,s++r))
 | [],p,s,h=>by simp [zFW]
 | x::r,p,s,h=>by
  unfold zFW;split;refine ⟨Nat.le_refl _,by simp;omega,fun _=>rfl⟩
  split;have ih:=zRX (fd:=fd) (cl:=cl) r (p++ [x]) s h;simp only [List.length_append,List.length_cons,List.length_nil] at ih ⊢;exact ⟨by omega,by omega,fun e=>by omega⟩;have ih:=zRX (fd:=fd) (cl:=cl) r p (s++ [x]) (max h (cl x));simp only [List.length_append,List.length_cons,List.length_nil] at ih ⊢;refine ⟨ih.1,by omega,fun e=>?_⟩;rw [ih.2.2 e];simp
section
variable {c:Collation} (hs:Sm c) {l:List Span} (hcv:CV l) (hl:l.length≤2000)
include hs
theorem mL0 {text:List Int} (ht:text.length≤2000):∀k,k≤text.length→zG (fun (x:Int)=>kZ text (zKT c l) x) (k:Int)=some ((zNM (pfx (jO c).Entries text) k:Nat):Int)
 | 0,_=>by
  refine zM ?_;have:decide ((0:Int) < ((0:Nat):Int))=false:=rfl;simp only [kZ,this,cond_false];rfl
 | k+1,hk=>by
  have hd:decide ((0:Int) < ((k+1:Nat):Int))=true:=by simp <;> omega
  have ih:=mL0 ht k (by omega);unfold zNM;cases hp:pfx (jO c).Entries text (k+1) with
  | true=>
   rw [if_pos rfl];refine zM ?_;unfold pfx at hp;simp only [kZ,hd,cond_true,zKP hk,zA,zKU hs,hp]
  | false=>
   rw [if_neg (by simp),←ih];refine zU ?_;unfold pfx at hp;simp only [kZ,hd,cond_true,zKP hk,zA,zKU hs,hp,cond_false,zDF (k:=k) (by omega)]
omit hs in
theorem z9U {text:List Int} {k:Nat} (hk:k≤text.length) (h:zNH (jO c).Entries 0 < (k:Int)):pfx (jO c).Entries text k=false:=by
 have h1:=zVY (jO c).Entries 0;unfold pfx zGH;have:(jO c).Entries.find? (fun x=>decide (x.Codes=text.take k))=none:=by
  rw [List.find?_eq_none];intro x hx;simp only [decide_eq_true_eq];intro e;have h2:=h1.2 x hx;rw [e] at h2;have:(text.take k).length=k:=by simp;omega
  omega
 rw [this]
theorem yHL {text:List Int} (ht:text.length≤2000):zG (fun (x:Int)=>kZ text (zKT c l) x) (min (zKT c l).longest (text.length:Int))=some ((zC5 (jO c).Entries text:Nat):Int):=by have h1:=zVY (jO c).Entries 0;have e:(zKT c l).longest=zNH (jO c).Entries 0:=rfl;rw [e];obtain ⟨m,hm⟩:∃m:Nat,min (zNH (jO c).Entries 0) (text.length:Int)=(m:Int):=⟨(min (zNH (jO c).Entries 0) (text.length:Int)).toNat,by omega⟩;rw [hm,mL0 hs ht m (by omega)];unfold zC5;rw [zUG (p:=pfx (jO c).Entries text) (m:=m) (k:=text.length) (by omega) fun j h2 h3=>z9U h3 (by omega)]
omit hs in
theorem yHM {p s r:List Int} {x:Int}:vS (cpM (p++s++x::r) ((p.length+1:Nat):Int) ((p.length+s.length+1:Nat):Int) (p.length:Int) ((p.length+s.length:Nat):Int)) (p.length:Int) x=some ((p++ [x])++s++r):=by
 have e1:((p++s++x::r).drop p.length).take (p.length+s.length - p.length)=s:=by
  rw [List.append_assoc,List.drop_left];have:p.length+s.length - p.length=s.length:=by omega
  rw [this,List.take_left]
 have e2:min (p.length+s.length - p.length) (p.length+s.length+1 - (p.length+1))=s.length:=by omega
 unfold cpM;simp only [Int.toNat_natCast];rw [e1,e2,List.take_of_length_le (Nat.le_refl _)];cases s with
 | nil=>
  have hx:(p++ []++x::r)=p++x::r:=by simp
  rw [hx];have e3:(p++x::r).take (p.length+1)=p++ [x]:=by
   rw [List.take_append,List.take_of_length_le (by omega)];simp
  have e4:(p++x::r).drop (p.length+1+([]:List Int).length)=r:=by
   rw [List.drop_append,List.drop_of_length_le (by simp)];simp
  rw [e3,e4];have:p++ [x]++ []++r=p++x::r:=by simp
  rw [this,uN rfl]
 | cons y s=>
  have hx:(p++(y::s)++x::r)=p++y::(s++x::r):=by simp
  rw [hx];have e3:(p++y::(s++x::r)).take (p.length+1)=p++ [y]:=by
   rw [List.take_append,List.take_of_length_le (by omega)];simp
  have e4:(p++y::(s++x::r)).drop (p.length+1+(y::s).length)=r:=by
   have:p++y::(s++x::r)=(p++y::(s++ [x]))++r:=by simp
   rw [this,List.drop_left' (by simp;omega)]
  rw [e3,e4];have:p++ [y]++(y::s)++r=p++y::((y::s)++r):=by simp
  rw [this,uN rfl];simp
include hcv hl
theorem mL1:∀(r p s:List Int) (h:Int),p.length+s.length+r.length≤2000→
    zG (fun (x:Int×Int×Int×(List Int))=>yZ (zKT c l) x.1 x.2.1 x.2.2.1 x.2.2.2) ((p.length:Int),h,((p.length+s.length:Nat):Int),p++s++r)=
      some ((((zFW (fun q=>(zGH (jO c).Entries q).2) (clE l) r p s h).1.length:Nat):Int),(zFW (fun q=>(zGH (jO c).Entries q).2) (clE l) r p s h).1++(zFW (fun q=>(zGH (jO c).Entries q).2) (clE l) r p s h).2)
  | [],p,s,h,_=>by
    refine zM ?_;have:decide (((p.length+s.length:Nat):Int) < ((p++s++ []).length:Int))=false:=by simp
    simp only [yZ,zS,this,Bool.false_and,cond_false];simp [zFW]
  | x::r,p,s,h,hn=>by
    simp only [List.length_cons] at hn;have hd:decide (((p.length+s.length:Nat):Int) < ((p++s++x::r).length:Int))=true:=by simp <;> omega
    have hi:yH (p++s++x::r) ((p.length+s.length:Nat):Int)=some x:=wG (by simp);have etop:(zKT c l).top=zS2 l 0:=rfl;by_cases htop:h < zS2 l 0
    · have hd2:decide (h < (zKT c l).top)=true:=by rw [etop];simpa using htop
      by_cases h0:clE l x=0
      · refine zM ?_
        simp only [yZ,zS,hd,hd2,Bool.and_self,cond_true,hi,zA,zK9 hcv hl,h0,decide_true,Sum.elim_inl];unfold zFW;rw [if_pos h0];simp
      · unfold zFW
        rw [if_neg h0];by_cases hk:clE l x≤h
        · have e:decide (h < clE l x)=false:=by simp;omega
          rw [e,Bool.and_false,if_neg (by simp)];rw [zU (x':=((p.length:Int),h,((p.length+(s++ [x]).length:Nat):Int),p++(s++ [x])++r)) (by
            have e2:p++(s++ [x])++r=p++s++x::r:=by simp
            have e3:p.length+(s++ [x]).length=p.length+s.length+1:=by simp;omega
            rw [e2,e3];simp only [yZ,zS,hd,hd2,Bool.and_self,cond_true,hi,zA,zK9 hcv hl,h0,hk,decide_true,decide_false,cond_false,Sum.elim_inr,zP (k:=p.length+s.length) (by omega)])]
          have:=mL1 r p (s++ [x]) h (by simp;omega)
          rw [show max h (clE l x)=h by omega];exact this
        · have e:decide (h < clE l x)=true:=by simp;omega
          rw [e,Bool.and_true];have s1:slc (p++s++x::r) 0 (p.length:Int)=some p:=by
            rw [zKP (by simp)];simp
          have a1:app p [x]=some (p++ [x]):=zAD (by simp;omega)
          cases hf:(zGH (jO c).Entries (p++ [x])).2 with
          | false=>
            rw [if_neg (by simp)];rw [zU (x':=((p.length:Int),clE l x,((p.length+(s++ [x]).length:Nat):Int),p++(s++ [x])++r)) (by
              have e2:p++(s++ [x])++r=p++s++x::r:=by simp
              have e3:p.length+(s++ [x]).length=p.length+s.length+1:=by simp;omega
              rw [e2,e3];simp only [yZ,zS,hd,hd2,Bool.and_self,cond_true,hi,zA,zK9 hcv hl,h0,hk,decide_false,cond_false,s1,a1,zKU hs,hf,Bool.not_false,Sum.elim_inr,zP (k:=p.length+s.length) (by omega)])]
            have:=mL1 r p (s++ [x]) (clE l x) (by simp;omega)
            rw [show max h (clE l x)=clE l x by omega];exact this
          | true=>
            rw [if_pos rfl];have sc1:∃q,slc (p++s++x::r) ((p.length+1:Nat):Int) ((p.length+s.length+1:Nat):Int)=some q:=⟨_,zVV (by omega) (by simp;omega)⟩
            have sc2:∃q,slc (p++s++x::r) (p.length:Int) ((p.length+s.length:Nat):Int)=some q:=⟨_,zVV (by omega) (by simp)⟩;obtain ⟨q1,hq1⟩:=sc1;obtain ⟨q2,hq2⟩:=sc2;have hcp:=yHM (p:=p) (s:=s) (r:=r) (x:=x);obtain ⟨_,_,hlt⟩:=zK0 hcp;have hix:∃q,yH (cpM (p++s++x::r) ((p.length+1:Nat):Int) ((p.length+s.length+1:Nat):Int) (p.length:Int) ((p.length+s.length:Nat):Int)) (p.length:Int)=some q:=⟨_,zW (by simpa using hlt)⟩;obtain ⟨q3,hq3⟩:=hix;rw [zU (x':=(((p++ [x]).length:Int),h,(((p++ [x]).length+s.length:Nat):Int),(p++ [x])++s++r)) (by
              have e3:(p++ [x]).length+s.length=p.length+s.length+1:=by simp;omega
              have e4:(p++ [x]).length=p.length+1:=by simp
              rw [e3,e4];simp only [yZ,zS,hd,hd2,Bool.and_self,cond_true,hi,zA,zK9 hcv hl,h0,hk,decide_false,cond_false,s1,a1,zKU hs,hf,Bool.not_true,zP (k:=p.length+s.length) (by omega),zP (k:=p.length) (by omega),hq1,hq2,hq3,hcp,Sum.elim_inr])]
            exact mL1 r (p++ [x]) s h (by simp;omega)
    · have hd2:decide (h < (zKT c l).top)=false:=by rw [etop];simpa using htop
      have hm:=zUH (fd:=fun q=>(zGH (jO c).Entries q).2) (cl:=clE l) (x::r) p s h (fun y=>by have:=yJV (l:=l) y;omega)
      rw [hm];refine zM ?_;simp only [yZ,zS,hd,hd2,Bool.and_false,cond_false,List.append_assoc]
noncomputable def stE (c:Collation) (l:List Span) (text:List Int):Int×List Int×List Element:=if zC5 (jO c).Entries text=0 then (1,text.drop 1,z1K (jO c) (nth text 0)) else
 ((((zFW (fun q=>(zGH (jO c).Entries q).2) (clE l) (text.drop (zC5 (jO c).Entries text)) (text.take (zC5 (jO c).Entries text)) [] 0).1.length:Nat):Int),(zFW (fun q=>(zGH (jO c).Entries q).2) (clE l) (text.drop (zC5 (jO c).Entries text)) (text.take (zC5 (jO c).Entries text)) [] 0).2,(zGH (jO c).Entries (zFW (fun q=>(zGH (jO c).Entries q).2) (clE l) (text.drop (zC5 (jO c).Entries text)) (text.take (zC5 (jO c).Entries text)) [] 0).1).1)
theorem z9V {text:List Int} (ht:text.length≤2000) (h0:text≠[]):∃seq,wO (zKT c l) text=some ((stE c l text).1,(stE c l text).2.2,decide (zC5 (jO c).Entries text≠0),seq)∧slc seq (stE c l text).1 (seq.length:Int)=some (stE c l text).2.1:=by
 unfold wO;rw [yHL hs ht,zA];have hpos:0 < text.length:=List.length_pos_iff.2 h0;by_cases hz:zC5 (jO c).Entries text=0;have e1:decide (((zC5 (jO c).Entries text:Nat):Int)=0)=true:=by simp [hz]
 have i0:yH text (0:Int)=some (nth text 0):=z3 (k:=0) hpos;have hst:stE c l text=(1,text.drop 1,z1K (jO c) (nth text 0)):=by unfold stE;rw [if_pos hz]
 have him:jZ (zKT c l) (nth text 0)=some (z1K (jO c) (nth text 0)):=zY0 c (nth text 0);rw [e1,cond_true,i0,zA,him,zA,hst];refine ⟨text,?_,?_⟩;simp [hz];exact zYX (l:=text) (a:=1) (by omega);have e1:decide (((zC5 (jO c).Entries text:Nat):Int)=0)=false:=by simp;omega
 rw [e1,cond_false];have hle:zC5 (jO c).Entries text≤text.length:=zRW _ _;have h1:=mL1 hs hcv hl (text.drop (zC5 (jO c).Entries text)) (text.take (zC5 (jO c).Entries text)) [] 0 (by simp;omega)
 have e2:(text.take (zC5 (jO c).Entries text)).length=zC5 (jO c).Entries text:=by simp;omega
 have e3:text.take (zC5 (jO c).Entries text)++ []++text.drop (zC5 (jO c).Entries text)=text:=by simp
 rw [e3,e2] at h1;simp only [List.length_nil,Nat.add_zero] at h1;rw [h1,zA];have hst:stE c l text=((((zFW (fun q=>(zGH (jO c).Entries q).2) (clE l) (text.drop (zC5 (jO c).Entries text)) (text.take (zC5 (jO c).Entries text)) [] 0).1.length:Nat):Int),(zFW (fun q=>(zGH (jO c).Entries q).2) (clE l) (text.drop (zC5 (jO c).Entries text)) (text.take (zC5 (jO c).Entries text)) [] 0).2,(zGH (jO c).Entries (zFW (fun q=>(zGH (jO c).Entries q).2) (clE l) (text.drop (zC5 (jO c).Entries text)) (text.take (zC5 (jO c).Entries text)) [] 0).1).1):=by unfold stE;rw [if_neg hz]
 rw [hst];generalize zFW (fun q=>(zGH (jO c).Entries q).2) (clE l) (text.drop (zC5 (jO c).Entries text)) (text.take (zC5 (jO c).Entries text)) [] 0=q;have s1:slc (q.1++q.2) 0 ((q.1.length:Nat):Int)=some q.1:=by rw [zKP (by simp)];simp
 simp only [s1,zA,zKU hs];refine ⟨q.1++q.2,?_,?_⟩;simp [hz];rw [zYX (by simp)];simp
end
end Go.M
namespace Go.M
open Go.AV
def n0:Norm:={Classes:=[{Lo:=769,Hi:=769,Value:=230},{Lo:=803,Hi:=803,Value:=220}],Decomp:=[],Excluded:={Ranges:=[]}}
def c0:Collation:={Entries:=[{Codes:=[97],Elements:=[{Primary:=7,Secondary:=1,Tertiary:=1,Variable:=false}]},{Codes:=[97,769],Elements:=[{Primary:=8,Secondary:=1,Tertiary:=1,Variable:=false}]}],Groups:=[],Base:=100,Second:=1,Third:=1}
end Go.M
namespace Go.M
open Go.AV
theorem z9W {n:Norm} (h:DS n.Decomp) (hl:n.Decomp.length≤2000) (c:Int) (b:Bool):vK n c b=some (if syl c=true then (hdE c,true) else ((fnB n.Decomp b c).getD [],(fnB n.Decomp b c).isSome)):=by
 unfold vK;rw [zK6,zA];by_cases hs:syl c=true;have e:decide (4≤hkE c)=true:=by simpa using (zGJ c).1 hs
 simp only [e,cond_true,z22 hs,zA,hs,if_true];have e:decide (4≤hkE c)=false:=by simp only [decide_eq_false_iff_not];exact fun hh=>hs ((zGJ c).2 hh)
 simp only [Bool.not_eq_true] at hs;simp only [e,cond_false,hs,Bool.false_eq_true,if_false];obtain ⟨i,hb,hp⟩:=z24 h hl c;rw [hb];simp only [zA,zS];unfold fnB;cases hf:n.Decomp.find? (isF c) with
 | none=>simp [zA5]
 | some m=>
  obtain ⟨h1,h2⟩:=hp m hf;simp only [Option.isSome_some,Bool.not_true,Bool.not_false,w9,z3 h1,h2,zA,Bool.false_or];cases b <;> cases hm:(m.Tag== []) <;> simp [hm]
section
variable {n:Norm} {b:Bool} (hd:DS n.Decomp) (hl:n.Decomp.length≤2000) (hD:∀c,DD n.Decomp n.Decomp.length c) (hw:∀c,(fu n.Decomp b c).length≤64)
def XOk (l:List Mapping) (b:Bool) (m:List (Int×List Int)):Prop:= ∀k v,mget m k=some v→v=fu l b k
def z3F (l:List Mapping) (f:Nat) (c:Int):Prop:=(∃k,DD l k c∧k+2≤f)∨(l.find? (isF c)=none∧syl c=false∧1≤f)
include hw in
theorem yHN {f:Nat} (ih:∀c m,XOk n.Decomp b m→z3F n.Decomp f c→∃m',kB f c m n b=some (fu n.Decomp b c,m')∧XOk n.Decomp b m') (L:List Int) (hL:L.length≤2000) (hn:∀e∈L,z3F n.Decomp f e):
  ∀(d i:Nat) (acc:List Int) (m:List (Int×List Int)),L.length - i=d→i≤L.length→acc.length≤64*i→XOk n.Decomp b m→
   ∃m',zG (fun (x:Int×(List Int)×(List (Int×(List Int))))=>k9 (L,true) (kB f) n b x.1 x.2.1 x.2.2) ((i:Int),acc,m)=some (acc++(L.drop i).flatMap (fu n.Decomp b),m')∧XOk n.Decomp b m':=by
 intro d
 induction d with
 | zero=>
  intro i acc m h1 h2 h3 h4;refine ⟨m,?_,h4⟩;refine zM ?_;rw [List.drop_of_length_le (show L.length≤i by omega)];simp only [k9,kW (show L.length≤i by omega),cond_false,List.flatMap_nil,List.append_nil]
 | succ d ihd=>
  intro i acc m h1 h2 h3 h4;have hi:i < L.length:=by omega
  obtain ⟨m1,hr,r1⟩:=ih L[i] m h4 (hn _ (List.getElem_mem hi));have hw1:=hw L[i];have ha:app acc (fu n.Decomp b L[i])=some (acc++fu n.Decomp b L[i]):=zAD (by omega);rw [zU (x':=(((i+1:Nat):Int),acc++fu n.Decomp b L[i],m1)) (by
   simp only [k9,kK hi,cond_true,zW hi,zA,hr,ha,zP (k:=i) (by omega)])]
  obtain ⟨m2,hq,q1⟩:=ihd (i+1) (acc++fu n.Decomp b L[i]) m1 (by omega) (by omega) (by rw [List.length_append];omega) r1
  refine ⟨m2,?_,q1⟩;rw [hq,List.drop_eq_getElem_cons hi,List.flatMap_cons,List.append_assoc]
include hd hl hD hw in
theorem yJW:∀(f:Nat) (c:Int) (m:List (Int×List Int)),XOk n.Decomp b m→z3F n.Decomp f c→∃m',kB f c m n b=some (fu n.Decomp b c,m')∧XOk n.Decomp b m':=by
 intro f
 induction f with
 | zero=>intro c m _ hn;exfalso;rcases hn with ⟨k,_,h⟩ | ⟨_,_,h⟩ <;> omega
 | succ f ih=>
  intro c m hm hn;show ∃m',wB (kB f) c m n b=some _∧_;unfold wB;cases hh:zCB m c with
  | true=>
   obtain ⟨v,hv⟩:=Option.isSome_iff_exists.1 hh;have hg:zAA m c []=v:=by unfold zAA;rw [hv];rfl
   rw [cond_true,hg,hm c v hv];exact ⟨m,rfl,hm⟩
  | false=>
   rw [cond_false,z9W hd hl,zA];have fin:∀(L:List Int),L.length≤2000→(∀e∈L,z3F n.Decomp f e)→L.flatMap (fu n.Decomp b)=fu n.Decomp b c→∃m',(cond (!((L,true):List Int×Bool).2) (some ([c],m)) ((zG (fun (x:Int×(List Int)×(List (Int×(List Int))))=>k9 (L,true) (kB f) n b x.1 x.2.1 x.2.2) (0,[],m)).bind fun (y1:(List Int)×(List (Int×(List Int))))=>some (y1.1,zAC y1.2 c y1.1)))=some (fu n.Decomp b c,m')∧XOk n.Decomp b m':=by
    intro L hL hne hfl;obtain ⟨m1,hq,q1⟩:=yHN hw ih L hL hne L.length 0 [] m (by omega) (by omega) (by simp) hm;rw [List.drop_zero,List.nil_append,hfl] at hq;have hq':zG (fun (x:Int×(List Int)×(List (Int×(List Int))))=>k9 (L,true) (kB f) n b x.1 x.2.1 x.2.2) (0,[],m)=some (fu n.Decomp b c,m1):=hq;simp only [Bool.not_true,cond_false];rw [hq'];refine ⟨zAC m1 c (fu n.Decomp b c),rfl,fun k v hk=>?_⟩;rw [xX] at hk;split at hk;rename_i hx;cases hk;rw [hx];exact q1 k v hk
   cases hs:syl c with
   | true=>
    simp only [if_true];have hnone:=zZB hd hs;have hpt:∀e∈hdE c,n.Decomp.find? (isF e)=none∧syl e=false:=by
     intro e he;obtain ⟨p1,p2⟩:=zNI hs he;refine ⟨?_,p1⟩;cases hf2:n.Decomp.find? (isF e) with
     | none=>rfl
     | some m=>obtain ⟨q1,rfl⟩:=zEM hf2;exact absurd (hd.hk m q1) p2
    refine fin (hdE c) (by have:=zL9 c;omega) (fun e he=>?_) ?_
    obtain ⟨p1,p2⟩:=hpt e he;refine .inr ⟨p1,p2,?_⟩;rcases hn with ⟨k,_,h⟩ | ⟨_,h,_⟩;omega;rw [hs] at h;cases h;have h1:fu n.Decomp b c=hdE c:=by rw [zNL hD,zEN hnone]
    rw [h1];have:∀L:List Int,(∀e∈L,n.Decomp.find? (isF e)=none∧syl e=false)→L.flatMap (fu n.Decomp b)=L:=by
     intro L
     induction L with
     | nil=>intro _;rfl
     | cons x L ihL=>
      intro h;obtain ⟨p1,p2⟩:=h x (by simp);have hx:fu n.Decomp b x= [x]:=by rw [zNL hD,zEN p1];show hdE x= [x];unfold hdE;rw [if_neg (by simp [p2])]
      rw [List.flatMap_cons,hx,ihL fun e he=>h e (by simp [he])];rfl
    exact this _ hpt
   | false=>
    simp only [Bool.false_eq_true,if_false];cases hf:fnB n.Decomp b c with
    | none=>
     simp only [Option.getD_none,Option.isSome_none,Bool.not_false,cond_true];refine ⟨m,?_,hm⟩;rw [zNL hD,hf];have:hdE c= [c]:=by unfold hdE;rw [if_neg (by simp [hs])]
     simp only [this]
    | some to=>
     simp only [Option.getD_some,Option.isSome_some];obtain ⟨mm,h1,rfl,_⟩:=zHF hf;obtain ⟨h2,_⟩:=zEM h1;refine fin mm.To (hd.len mm h2) (fun e he=>?_) (by rw [zNL hD c,hf]);rcases hn with ⟨k,hk,h⟩ | ⟨h,_,_⟩
     cases k with
     | zero=>have:n.Decomp.find? (isF c)=none:=hk;rw [this] at h1;cases h1
     | succ k=>exact .inl ⟨k,hk mm h1 e he,by omega⟩
     rw [h] at h1;cases h1
end
noncomputable def usN (n:Norm):Norm:=open Classical in if VD0 n then n else {Classes:=[],Decomp:=[],Excluded:={Ranges:=[]}}
structure GN (n:Norm):Prop where
 ds:DS n.Decomp
 cv:CV n.Classes
 H:∀m∈n.Decomp,WW n.Decomp m.From
 w:∀m∈n.Decomp,wt n.Decomp true m.From≤64
 cl:n.Classes.length≤40
 de:n.Decomp.length≤40
 ok:∀x∈n.Classes,okSpan x
theorem zOM {n:Norm} (hs:NSm n) (hok:wS n):GN (usN n):=by
 unfold usN;split;rename_i h;obtain ⟨h1,h2⟩:=(z9O h.ds (by have:=hs.de;omega)).1 h.ms
 exact ⟨h.ds,h.cv,h1,h2,hs.cl,hs.de,hok.1.2⟩;exact ⟨⟨fun k hk=>(by cases hk),fun m hm=>(by cases hm),fun m hm=>(by cases hm)⟩,z9R,fun m hm=>(by cases hm),fun m hm=>(by cases hm),by simp,by simp,fun x hx=>by cases hx⟩
theorem GN.dd {n:Norm} (h:GN n):∀c,DD n.Decomp n.Decomp.length c:=zRS h.ds h.H
theorem GN.len {n:Norm} (h:GN n) (b:Bool) (c:Int):(fu n.Decomp b c).length≤64:=yHH h.ds (yHI h.ds h.H h.w) b c
theorem GN.ex {n:Norm} (h:GN n) {b:Bool} (c:Int) (m:List (Int×List Int)) (hm:XOk n.Decomp b m):∃m',kB 100 c m n b=some (fu n.Decomp b c,m')∧XOk n.Decomp b m':=
 yJW h.ds (by have:=h.de;omega) h.dd (h.len b) 100 c m hm (.inl ⟨_,h.dd c,by have:=h.de;omega⟩)
theorem yDV {n:Norm} (hs:NSm n) (hok:wS n):uY n=some (usN n):=by obtain ⟨e,he,hv⟩:=z9J hs hok;unfold uY usN;rw [he,zA];by_cases hz:e=0;rw [if_pos (hv.1 hz)];simp [hz];rw [if_neg (fun h=>hz (hv.2 h))];simp [hz]
theorem zZF {f:Int→List Int} {k:Nat} (h:∀e,(f e).length≤k):∀L:List Int,(L.flatMap f).length≤k*L.length
 | []=>by simp
 | x::L=>by have:=zZF h L;have:=h x;rw [List.flatMap_cons,List.length_append,List.length_cons,Nat.mul_succ];omega
theorem z54 {n:Norm} (h:GN n) {b:Bool} {text:List Int} (ht:text.length≤2000):∀(d i:Nat) (acc:List Int) (m:List (Int×List Int)),text.length - i=d→i≤text.length→acc.length≤64*i→XOk n.Decomp b m→
  zG (fun (x:Int×(List Int)×(List (Int×(List Int))))=>j7 text n b x.1 x.2.1 x.2.2) ((i:Int),acc,m)=some (acc++(text.drop i).flatMap (fu n.Decomp b)):=by
 intro d
 induction d with
 | zero=>
  intro i acc m h1 h2 h3 h4;refine zM ?_;rw [List.drop_of_length_le (show text.length≤i by omega)];simp only [j7,kW (show text.length≤i by omega),cond_false,List.flatMap_nil,List.append_nil]
 | succ d ih=>
  intro i acc m h1 h2 h3 h4;have hi:i < text.length:=by omega
  obtain ⟨m1,hr,r1⟩:=h.ex (b:=b) text[i] m h4;have hw1:=h.len b text[i];have ha:app acc (fu n.Decomp b text[i])=some (acc++fu n.Decomp b text[i]):=zAD (by omega);rw [zU (x':=(((i+1:Nat):Int),acc++fu n.Decomp b text[i],m1)) (by
   simp only [j7,kK hi,cond_true,zW hi,zA,hr,ha,zP (k:=i) (by omega)])]
  rw [ih (i+1) (acc++fu n.Decomp b text[i]) m1 (by omega) (by omega) (by rw [List.length_append];omega) r1,List.drop_eq_getElem_cons hi,List.flatMap_cons,List.append_assoc]
noncomputable def zF6 (n:Norm) (b:Bool) (text:List Int):List Int:=text.flatMap (fu (usN n).Decomp b)
theorem yDW {n:Norm} (hs:NSm n) (hok:wS n) {text:List Int} (ht:text.length≤2000) (b:Bool):wC n text b=zA1 (usN n).Classes (zF6 n b text):=by have h:=zOM hs hok;unfold wC zB1;have hu:uY {Classes:=n.Classes,Decomp:=n.Decomp,Excluded:={Ranges:=n.Excluded.Ranges}}=some (usN n):=yDV hs hok;have hlp:=z54 h (b:=b) ht text.length 0 [] [] (by omega) (by omega) (by simp) (fun k v h=>by cases h);rw [List.drop_zero,List.nil_append] at hlp;have hlp':zG (fun (x:Int×(List Int)×(List (Int×(List Int))))=>j7 text (usN n) b x.1 x.2.1 x.2.2) (0,[],[])=some (zF6 n b text):=hlp;rw [hu,zA,zA,hlp',zA];cases zA1 (usN n).Classes (zF6 n b text) <;> rfl
end Go.M
namespace Go.M
open Go.AV
section
variable (key:Int→Int)
def ltK (a b:Int):Bool:=decide (key a < key b)
def ltC (a b:Int):Bool:=decide (0 < key a)&&decide (key a < key b)
def srt (l:List Int):List Int:=vA (ltK key) l []
def csE (l:List Int):List Int:=vA (ltC key) l []
def rsE:List Int→List Int→List Int
 | [],run=>srt key run
 | x::t,run=>if key x=0 then srt key run++x::rsE t [] else rsE t (run++ [x])
end
section
variable {key:Int→Int}
theorem z9X (l:List Int) (x:Int):srt key (l++ [x])=vT (ltK key) (srt key l).reverse x []:=by unfold srt vA;rw [List.foldl_append];rfl
theorem zNO (l:List Int):Flt key l (srt key l):=by have:=zK8 (key:=key) l [];exact this
theorem z3G (l:List Int):(srt key l).length=l.length:=(zNO l).len.symm
theorem z3H {x:Int} (hx:0 < key x):∀(r q s:List Int),(∀y,q.head? =some y→key y=0)→vT (ltC key) (r++q) x s=q.reverse++vT (ltK key) r x s
 | [],q,s,hq=>by
  cases q with
  | nil=>rfl
  | cons y q=>
   have:ltC key x y=false:=by unfold ltC;rw [hq y rfl];simp;omega
   show vT (ltC key) (y::q) x s=_;simp only [vT,this,Bool.false_eq_true,if_false]
 | y::r,q,s,hq=>by
  have e:ltC key x y=ltK key x y:=by unfold ltC ltK;simp [hx]
  show vT (ltC key) (y::(r++q)) x s=q.reverse++vT (ltK key) (y::r) x s;simp only [vT,e];cases ltK key x y with
  | true=>simp only [if_true];exact z3H hx r q (y::s) hq
  | false=>simp
theorem z9Y (hnn:∀x,0≤key x):∀(t run p:List Int),(∀y,p.reverse.head? =some y→key y=0)→vA (ltC key) t (p++srt key run)=p++rsE key t run
  | [],run,p,_=>rfl
  | x::t,run,p,hp=>by
    show vA (ltC key) t (vT (ltC key) (p++srt key run).reverse x [])=p++rsE key (x::t) run;by_cases h0:key x=0
    · have e:∀r:List Int,vT (ltC key) r x []=r.reverse++ [x]:=by
        intro r;cases r with
        | nil=>rfl
        | cons y r=>
          have:ltC key x y=false:=by unfold ltC;rw [h0];simp
          simp [vT,this]
      have ih:=z9Y hnn t [] (p++srt key run++ [x]) (fun y hy=>by simp at hy;rw [←hy];exact h0)
      have e2:srt key []= []:=rfl;rw [e2,List.append_nil] at ih;rw [e,List.reverse_reverse,ih];simp [rsE,h0]
    · have hx:0 < key x:=by have:=hnn x;omega
      rw [List.reverse_append,z3H hx _ _ _ hp,List.reverse_reverse,←z9X,z9Y hnn t (run++ [x]) p hp];simp [rsE,h0]
theorem z1Q (hnn:∀x,0≤key x) (t:List Int):csE key t=rsE key t []:=by have:=z9Y hnn t [] [] (fun y hy=>by cases hy);exact this
theorem zZG (t:List Int):(csE key t).Perm t:=by have:=zHC (ltC key) t [];rw [List.nil_append] at this;exact this
theorem yDX (t:List Int):(csE key t).length=t.length:=(zZG t).length_eq
theorem zZH {f:List Int→Option (List Int)} {P run T r:List Int} (hpos:0 < run.length) (hf:f run=some r):zJP f (P++run++T) (P.length:Int) ((P.length+run.length:Nat):Int)=some (P++r++T):=by
 unfold zJP;have a1:((P.length:Int)).toNat=P.length:=by simp
 have a2:(((P.length+run.length:Nat):Int)).toNat=P.length+run.length:=by omega
 rw [a1,a2,if_pos ⟨by omega,by omega,by rw [List.length_append,List.length_append];omega⟩]
 have e1:((P++run++T).drop P.length).take (P.length+run.length - P.length)=run:=by
  rw [List.append_assoc,List.drop_left,show P.length+run.length - P.length=run.length by omega,List.take_left]
 have d1:(P++run++T).take P.length=P:=by rw [List.append_assoc,List.take_left]
 have d2:(P++run++T).drop (P.length+run.length)=T:=by rw [←List.length_append,List.drop_left]
 rw [e1,d1,d2,hf];rfl
theorem z3I {f:List Int→Option (List Int)} {st:Int→Bool} (hst:∀x,st x=decide (key x=0)) (hf:∀l,l.length≤2000→f l=some (srt key l)):∀(t run P:List Int) (s:Int),P.length+run.length+t.length≤2000→(run= []∧s= -1∨run≠[]∧s=(P.length:Int))→
    u0 f Range.Lo Range.Hi (P++run++t) (xA st t ((P.length+run.length:Nat):Int) s)=some (P++rsE key t run)
  | [],run,P,s,hl,hs=>by
    rcases hs with ⟨rfl,rfl⟩ | ⟨hne,rfl⟩
    · simp only [xA,show ¬(0:Int)≤ -1 by decide,if_false]
      show some (P++ []++ [])=some (P++ []);simp
    · have h0:(0:Int)≤(P.length:Int):=by omega
      simp only [xA,h0,if_true];have hpos:0 < run.length:=List.length_pos_iff.2 hne;show (some (P++run++ [])).bind (fun l=>zJP f l (P.length:Int) ((P.length+run.length:Nat):Int))=_;rw [zA,zZH hpos (hf run (by simp at hl;omega))]
      simp [rsE]
  | x::t,run,P,s,hl,hs=>by
    have hl':P.length+run.length+t.length+1≤2000:=by simp only [List.length_cons] at hl;omega
    by_cases h0:key x=0
    · have hsx:st x=true:=by rw [hst];simp [h0]
      rcases hs with ⟨rfl,rfl⟩ | ⟨hne,rfl⟩
      · have e:xA st (x::t) ((P.length+([]:List Int).length:Nat):Int) (-1)=xA st t (((P++ [x]).length+([]:List Int).length:Nat):Int) (-1):=by
          simp only [xA,hsx];simp
        have ih:=z3I hst hf t [] (P++ [x]) (-1) (by simp only [List.length_append,List.length_singleton,List.length_nil];simp at hl';omega) (.inl ⟨rfl,rfl⟩)
        rw [e,show P++ []++x::t=P++ [x]++ []++t by simp,ih];have e2:srt key []= []:=rfl;simp [rsE,h0,e2]
      · have h00:(0:Int)≤(P.length:Int):=by omega
        have hpos:0 < run.length:=List.length_pos_iff.2 hne;have e:xA st (x::t) ((P.length+run.length:Nat):Int) (P.length:Int)= {Lo:=(P.length:Int),Hi:=((P.length+run.length:Nat):Int)}::xA st t (((P++srt key run++ [x]).length+([]:List Int).length:Nat):Int) (-1):=by
          have e3:(((P++srt key run++ [x]).length+([]:List Int).length:Nat):Int)=((P.length+run.length:Nat):Int)+1:=by simp [z3G];omega
          rw [e3];simp only [xA,hsx,Bool.not_true,Bool.false_and,Bool.false_eq_true,if_false,Bool.true_and,h00,decide_true,if_true]
        have ih:=z3I hst hf t [] (P++srt key run++ [x]) (-1) (by simp [z3G];omega) (.inl ⟨rfl,rfl⟩)
        have e4:zJP f (P++run++x::t) (P.length:Int) ((P.length+run.length:Nat):Int)=some (P++srt key run++ [x]++ []++t):=by
          rw [zZH hpos (hf run (by omega))];simp
        have e5:u0 f Range.Lo Range.Hi (P++run++x::t) ({Lo:=(P.length:Int),Hi:=((P.length+run.length:Nat):Int)}::xA st t (((P++srt key run++ [x]).length+([]:List Int).length:Nat):Int) (-1))=u0 f Range.Lo Range.Hi (P++srt key run++ [x]++ []++t) (xA st t (((P++srt key run++ [x]).length+([]:List Int).length:Nat):Int) (-1)):=by
          unfold u0;rw [List.foldl_cons,zA,e4]
        rw [e,e5,ih];simp [rsE,h0]
    · have hsx:st x=false:=by rw [hst];simp [h0]
      have e:xA st (x::t) ((P.length+run.length:Nat):Int) s=xA st t ((P.length+(run++ [x]).length:Nat):Int) (P.length:Int):=by
        have e3:((P.length+(run++ [x]).length:Nat):Int)=((P.length+run.length:Nat):Int)+1:=by simp;omega
        rw [e3];rcases hs with ⟨rfl,rfl⟩ | ⟨hne,rfl⟩
        · simp [xA,hsx]
        · have:¬((P.length:Int) < 0):=by omega
          simp only [xA,hsx,Bool.not_false,Bool.true_and,this,decide_false,Bool.false_eq_true,if_false,Bool.false_and]
      have ih:=z3I hst hf t (run++ [x]) P (P.length:Int) (by simp;omega) (.inr ⟨by simp,rfl⟩)
      rw [e,show P++run++x::t=P++(run++ [x])++t by simp,ih];simp [rsE,h0]
end
theorem z9Z {l:List Span} (h:CV l) (hl:l.length≤2000) (x y:Int):wJ x y l=some (sg (clE l x) (clE l y)):=by unfold wJ;simp only [zHD h hl,zA,z5X];unfold sg;rfl
theorem yHP {l:List Span} (h:CV l) (hl:l.length≤2000) (hok:∀x∈l,okSpan x) {text:List Int} (ht:text.length≤2000):zA1 l text=some (csE (clE l) text):=by
 have hnn:∀x,0≤clE l x:=yFI h;unfold zA1 zAS;have hst:∀x,(kU l x==some 0)=decide (clE l x=0):=fun x=>by rw [zHD h hl];by_cases hx:clE l x=0 <;> simp [hx]
 rw [zUC hl hok h,zA,yLL ht,zA,zY8 h hl ht hst rfl,zA];have:=z3I (key:=clE l) (f:=fun p=>yL p (fun x0 x1=>wJ x0 x1 l)) (st:=fun c=>kU l c==some 0) hst (fun p hp=>by
  obtain ⟨r,r1,r2,r3⟩:=z53 (key:=clE l) (f:=fun x0 x1=>wJ x0 x1 l) (fun x y=>z9Z h hl x y) p hp;rw [r1];have:=zRV (key:=clE l) r2 (zI0 (key:=clE l) p) (r3.symm.trans (zNO p));rw [this];rfl) text [] [] (-1) (by simpa using ht) (.inl ⟨rfl,rfl⟩)
 rw [z1Q hnn];exact this
noncomputable def zB9 (n:Norm) (b:Bool) (text:List Int):List Int:=csE (clE (usN n).Classes) (zF6 n b text)
theorem zKV (n:Norm) (b:Bool) (text:List Int):(zB9 n b text).length=(zF6 n b text).length:=yDX _
theorem z56 {n:Norm} (hs:NSm n) (hok:wS n) (b:Bool) (text:List Int):(zF6 n b text).length≤64*text.length:=zZF ((zOM hs hok).len b) text
theorem zZI {n:Norm} (hs:NSm n) (hok:wS n) {text:List Int} {b:Bool} (ht:text.length≤2000) (hf:(zF6 n b text).length≤2000):wC n text b=some (zB9 n b text):=by
 have h:=zOM hs hok;rw [yDW hs hok ht,yHP h.cv (by have:=h.cl;omega) h.ok hf]
 rfl
end Go.M
namespace Go.M
open Go.AV
noncomputable def wkE (c:Collation) (l:List Span):Nat→List Int→List Element×Bool
 | 0,_=>([],true)
 | k+1,text=>if text= [] then ([],true) else ((stE c l text).2.2++(wkE c l k (stE c l text).2.1).1,decide (zC5 (jO c).Entries text≠0)&&(wkE c l k (stE c l text).2.1).2)
theorem yHQ {c:Collation} {l:List Span} {text:List Int} (h0:text≠[]):1≤(stE c l text).1∧(stE c l text).1+((stE c l text).2.1.length:Int)=(text.length:Int):=by have hpos:0 < text.length:=List.length_pos_iff.2 h0;unfold stE;split;refine ⟨by simp,?_⟩;show (1:Int)+((text.drop 1).length:Int)=_;rw [List.length_drop];omega;rename_i hz;have hle:zC5 (jO c).Entries text≤text.length:=zRW _ _;have hinv:=zRX (fd:=fun q=>(zGH (jO c).Entries q).2) (cl:=clE l) (text.drop (zC5 (jO c).Entries text)) (text.take (zC5 (jO c).Entries text)) [] 0;generalize zFW (fun q=>(zGH (jO c).Entries q).2) (clE l) (text.drop (zC5 (jO c).Entries text)) (text.take (zC5 (jO c).Entries text)) [] 0=q at*;obtain ⟨i1,i2,_⟩:=hinv;rw [List.length_take,Nat.min_eq_left hle] at i1 i2;rw [List.length_drop] at i2;simp only [List.length_nil] at i2;constructor;show (1:Int)≤(q.1.length:Int);omega;show (q.1.length:Int)+(q.2.length:Int)=_;omega
theorem z3J {c:Collation} {l:List Span} {text:List Int} (h0:text≠[]):(stE c l text).2.1.length < text.length:=by have:=yHQ (c:=c) (l:=l) h0;omega
theorem yFK {c:Collation} (hs:Sm c) {l:List Span} (text:List Int):(stE c l text).2.2.length≤2000:=by unfold stE;split;exact yDD _ _;exact yDC (z84 hs) _
theorem z3K {c:Collation} {l:List Span}:∀(k j:Nat) (text:List Int),text.length≤k→text.length≤j→wkE c l k text=wkE c l j text
 | 0,j,text,h,_=>by
  have:text= []:=List.eq_nil_of_length_eq_zero (by omega);subst this;cases j with
  | zero=>rfl
  | succ j=>simp [wkE]
 | k+1,j,text,h,hj=>by
  by_cases h0:text= [];subst h0;cases j <;> simp [wkE];have hpos:0 < text.length:=List.length_pos_iff.2 h0;cases j with
  | zero=>omega
  | succ j=>
   have hlt:=z3J (c:=c) (l:=l) h0;simp only [wkE,h0,if_false];rw [z3K k j _ (by omega) (by omega)]
noncomputable def wk (c:Collation) (l:List Span) (text:List Int):List Element×Bool:=wkE c l text.length text
theorem zV6 (c:Collation) (l:List Span):wk c l []=([],true):=rfl
theorem z3L {c:Collation} {l:List Span} {text:List Int} (h0:text≠[]):wk c l text=((stE c l text).2.2++(wk c l (stE c l text).2.1).1,decide (zC5 (jO c).Entries text≠0)&&(wk c l (stE c l text).2.1).2):=by
 have hlt:=z3J (c:=c) (l:=l) h0;unfold wk;obtain ⟨k,hk⟩:∃k,text.length=k+1:=⟨text.length - 1,by have:=List.length_pos_iff.2 h0;omega⟩
 rw [hk];simp only [wkE,h0,if_false];rw [z3K k (stE c l text).2.1.length _ (by omega) (by omega)]
theorem yHR {c:Collation} (hs:Sm c) {l:List Span}:∀(k:Nat) (text:List Int),text.length≤k→(wk c l text).1.length≤2000*text.length:=by
 intro k
 induction k with
 | zero=>
  intro text h;have:text= []:=List.eq_nil_of_length_eq_zero (by omega);subst this;rw [zV6];simp
 | succ k ih=>
  intro text h;by_cases h0:text= [];subst h0;rw [zV6];simp;have hlt:=z3J (c:=c) (l:=l) h0;have h1:=ih _ (show (stE c l text).2.1.length≤k by omega);have h2:=yFK hs (l:=l) text;rw [z3L h0];show ((stE c l text).2.2++(wk c l (stE c l text).2.1).1).length≤_;rw [List.length_append];omega
section
variable {c:Collation} (hs:Sm c) {l:List Span} (hcv:CV l) (hl:l.length≤2000)
include hs hcv hl
theorem yDZ:∀(k:Nat) (text:List Int) (acc:List Element),text.length≤k→text.length≤2000→acc.length+2000*text.length≤100000000→zG (fun (x:(List Element)×(List Int))=>j6 (zKT c l) x.1 x.2) (acc,text)=some (acc++(wk c l text).1):=by
 intro k
 induction k with
 | zero=>
  intro text acc h _ _;have:text= []:=List.eq_nil_of_length_eq_zero (by omega);subst this;refine zM ?_;simp [j6,zV6]
 | succ k ih=>
  intro text acc h ht ha;by_cases h0:text= [];subst h0;refine zM ?_;simp [j6,zV6];have hpos:0 < text.length:=List.length_pos_iff.2 h0;have hlt:=z3J (c:=c) (l:=l) h0;have h2:=yFK hs (l:=l) text;obtain ⟨seq,m1,m2⟩:=z9V hs hcv hl ht h0;have e0:decide ((0:Int) < (text.length:Int))=true:=by simp;omega
  have ea:app acc (stE c l text).2.2=some (acc++(stE c l text).2.2):=zAD (by omega);rw [zU (x':=(acc++(stE c l text).2.2,(stE c l text).2.1)) (by simp only [j6,e0,cond_true,m1,zA,ea,m2])];rw [ih _ _ (by omega) (by omega) (by rw [List.length_append];omega),z3L h0,List.append_assoc]
end
theorem z90 (n:Norm):zC4 n=(usN n).Classes:=by unfold zC4 usN;split <;> rfl
section
variable {n:Norm} {c:Collation} (hn:NSm n) (hok:wS n) (hs:Sm c) (hg:∀g∈c.Groups,g.Name.length≤MX) {text:List Int} (ht:text.length≤2000) (hf:(zF6 n false text).length≤2000)
include hn hok hs hg ht hf
theorem zPF:jI n c text=some (wk c (zC4 n) (zB9 n false text)).1:=by
 unfold jI;have hl:(zC4 n).length≤2000:=by have:=zUF hn;omega
 have hd:(zB9 n false text).length≤2000:=by rw [zKV];exact hf
 rw [yDA hs hg,zA,yDU hn hok,zA,zZI hn hok ht hf,zA,yDZ hs (z9S n) hl _ _ [] (Nat.le_refl _) hd (by simp;omega)]
 rfl
end
theorem z1R {n:Norm} {c:Collation} (hs:Sm c) {text:List Int} (hd:(zB9 n false text).length≤2000):(wk c (zC4 n) (zB9 n false text)).1.length≤1000000000:=by have:=yHR hs (l:=zC4 n) _ (zB9 n false text) (Nat.le_refl _);omega
end Go.M
namespace Go.M
open Go.AV
section
variable {key:Int→Int}
theorem zZJ (l:List Int):srt key (srt key l)=srt key l:=
 zRV (key:=key) (zI0 (key:=key) (srt key l)) (zI0 (key:=key) l) (zNO (srt key l)).symm
theorem z1S:∀(q run u:List Int),(∀x∈q,key x≠0)→rsE key (q++u) run=rsE key u (run++q)
 | [],run,u,_=>by simp
 | x::q,run,u,h=>by
  have hx:=h x (by simp);show (if key x=0 then srt key run++x::rsE key (q++u) [] else rsE key (q++u) (run++ [x]))=_;rw [if_neg hx,z1S q _ u fun y hy=>h y (by simp [hy])];simp
theorem zV7:∀(t run:List Int),(∀x∈run,key x≠0)→rsE key (rsE key t run) []=rsE key t run
 | [],run,h=>by
  show rsE key (srt key run) []=srt key run;have:=z1S (key:=key) (srt key run) [] [] fun x hx=>h x ((zNO run).mem.2 hx);rw [List.append_nil,List.nil_append] at this;rw [this];exact zZJ run
 | x::t,run,h=>by
  by_cases h0:key x=0;have e:rsE key (x::t) run=srt key run++x::rsE key t []:=by simp [rsE,h0]
  rw [e,z1S (key:=key) (srt key run) [] _ fun x hx=>h x ((zNO run).mem.2 hx),List.nil_append];show (if key x=0 then srt key (srt key run)++x::rsE key (rsE key t []) [] else _)=_;rw [if_pos h0,zZJ,zV7 t [] fun y hy=>by cases hy];have e:rsE key (x::t) run=rsE key t (run++ [x]):=by simp [rsE,h0]
  rw [e];refine zV7 t (run++ [x]) fun y hy=>?_;rcases List.mem_append.1 hy with hy | hy
  exact h y hy;simp only [List.mem_singleton] at hy;rw [hy];exact h0
theorem z91 (hnn:∀x,0≤key x) (t:List Int):csE key (csE key t)=csE key t:=by rw [z1Q hnn t,z1Q hnn,zV7 t [] fun y hy=>by cases hy]
end
theorem z3M {l:List Mapping} (hd:DS l) {b:Bool} {c:Int} (hf:fnB l b c=none):∀e∈hdE c,fnB l b e=none∧hdE e= [e]:=by
 intro e he;have h1:∀{z:Int},syl z=false→hdE z= [z]:=fun {z} hz=>by unfold hdE;rw [if_neg (by simp [hz])]
 cases hs:syl c with
 | true=>
  obtain ⟨p1,p2⟩:=zNI hs he;refine ⟨zEN ?_,h1 p1⟩;cases hf2:l.find? (isF e) with
  | none=>rfl
  | some m=>obtain ⟨q1,rfl⟩:=zEM hf2;exact absurd (hd.hk m q1) p2
 | false=>
  rw [h1 hs] at he;simp only [List.mem_singleton] at he;subst he;exact ⟨hf,h1 hs⟩
theorem z3N {l:List Mapping} (hd:DS l) {b:Bool}:∀(k:Nat) (c:Int),DD l k c→∀e∈exF l b k c,fnB l b e=none∧hdE e= [e]
 | 0,c,h,e,he=>z3M hd (zEN h) e he
 | k+1,c,h,e,he=>by
  replace he:e∈(match fnB l b c with | some to=>to.flatMap (exF l b k) | none=>hdE c):=he;cases hf:fnB l b c with
  | none=>rw [hf] at he;exact z3M hd hf e he
  | some to=>
   rw [hf] at he;obtain ⟨m,h1,rfl,_⟩:=zHF hf;obtain ⟨z,hz,he⟩:=List.mem_flatMap.1 he;exact z3N hd k z (h m h1 z hz) e he
theorem GN.leaf {n:Norm} (h:GN n) {b:Bool} {c e:Int} (he:e∈fu n.Decomp b c):fu n.Decomp b e= [e]:=by obtain ⟨h1,h2⟩:=z3N h.ds (b:=b) _ c (h.dd c) e he;rw [zNL h.dd,h1,h2]
theorem zV8 {f:Int→List Int}:∀{L:List Int},(∀e∈L,f e= [e])→L.flatMap f=L
 | [],_=>rfl
 | x::L,h=>by rw [List.flatMap_cons,h x (by simp),zV8 fun e he=>h e (by simp [he])];rfl
theorem zUI {n:Norm} (hs:NSm n) (hok:wS n) (b:Bool) (text:List Int):zF6 n b (zB9 n b text)=zB9 n b text:=by refine zV8 fun e he=>?_;have he':e∈zF6 n b text:=(zZG _).mem_iff.1 he;obtain ⟨z,_,hz⟩:=List.mem_flatMap.1 he';exact (zOM hs hok).leaf hz
theorem z57 {n:Norm} (hs:NSm n) (hok:wS n) (b:Bool) (text:List Int):zB9 n b (zB9 n b text)=zB9 n b text:=by have h:=zUI hs hok b text;show csE _ (zF6 n b (zB9 n b text))=_;rw [h];exact z91 (yFI (zOM hs hok).cv) _
end Go.M
namespace Go.M
open Go.AV
end Go.M
namespace Go.M
open Go.AV
theorem yJX (a0:List Span) (v6:Nat) (hv:v6 < a0.length) (H:List Range) (hH:H= [{Lo:=4352,Hi:=4370},{Lo:=4449,Hi:=4469},{Lo:=4520,Hi:=4546},{Lo:=44032,Hi:=55203}]):
    (zG (fun (x:Int)=>vN H a0 (v6:Int) x) 0=some (.inl ())∧hgOk (nth a0 v6))∨(zG (fun (x:Int)=>vN H a0 (v6:Int) x) 0=some (.inr 11)∧¬hgOk (nth a0 v6)):=by
  have h:=jA (body:=fun (x:Int)=>vN H a0 (v6:Int) x) H.length (fun k=> ¬((nth a0 v6).Lo≤(nth H k).Hi∧(nth H k).Lo≤(nth a0 v6).Hi)) (fun y=>y=11) (fun k hk=>by
    have hl:H.length=4:=by rw [hH];rfl
    simp only [vN,kK hk,cond_true,z3 hv,z3 hk,zA,zS,zP (k:=k) (by omega)];by_cases h1:(nth a0 v6).Lo≤(nth H k).Hi
    · simp only [h1,decide_true,w9,zA,Bool.true_and,true_and]
      exact u7 (by simp) rfl
    · simp only [h1,decide_false,zA5,zA,Bool.false_and,cond_false,false_and]
      exact .inl ⟨by simp,trivial⟩) (fun k hk=>by simp only [vN,kW hk,cond_false])
  have e:(∀j,j < H.length→¬((nth a0 v6).Lo≤(nth H j).Hi∧(nth H j).Lo≤(nth a0 v6).Hi))↔hgOk (nth a0 v6):=by
    subst hH;unfold hgOk;constructor
    · intro h;exact ⟨h 0 (by decide),h 1 (by decide),h 2 (by decide),h 3 (by decide)⟩
    · rintro ⟨h0,h1,h2,h3⟩ j hj
      have hj':j < 4:=hj
      match j,hj' with
      | 0,_=>exact h0
      | 1,_=>exact h1
      | 2,_=>exact h2
      | 3,_=>exact h3
  rw [e] at h;rcases h with h | ⟨y,rfl,h⟩
  · exact .inl h
  · exact .inr h
theorem z92 {l:List Span} (hl:l.length≤2000):Ver (zEB l) (CV l):=by
 have h0:=jA (body:=fun (x:Int)=>zBL l x) l.length (fun k=>spOk (nth l k)) (fun y=>y≠0) (fun k hk=>by
  simp only [zBL,kK hk,cond_true,z3 hk,zA,zS,zFV,zP (k:=k) (by omega),spOk,vld];generalize nth l k=q;by_cases h1:0≤q.Lo <;> by_cases h2:q.Lo≤1114111 <;> by_cases h3:0≤q.Hi <;> by_cases h4:q.Hi≤1114111 <;> by_cases h5:q.Hi < q.Lo <;> by_cases h6:q.Value < 1 <;> by_cases h7:254 < q.Value <;> simp [h1,h2,h3,h4,h5,h6,h7,w9,zA5,zA] <;> omega) (fun k hk=>by simp only [zBL,kW hk,cond_false])
 unfold zEB Ver;rcases h0 with ⟨h0,p0⟩ | ⟨y,hy,h0,p0⟩
 rw [h0];simp only [zA,Sum.elim_inl];have h1:=zK5 (body:=fun (x:Int)=>zBM l x) l.length (fun k=>adOk (nth l k) (nth l (k+1))) (fun y=>y≠0) (fun k hk=>by
  have hk':k < l.length:=by omega
  have w:=(p0 k hk').2.1;have w0:=(p0 k hk').1;have w1:=(p0 k hk').2.2.1;simp only [zBM,kK hk,cond_true,z3 hk,zA,zS,zP (k:=k+1) (by omega),zDF (k:=k) (by omega),z3 hk'];by_cases a1:(nth l (k+1)).Lo≤(nth l k).Hi;simp only [a1,decide_true,Bool.not_true,zA5,zA,Bool.false_and,Bool.true_or,cond_true];exact .inr ⟨by unfold adOk;omega,4,by decide,rfl⟩
  simp only [a1,decide_false,Bool.not_false,w9,zA,Bool.true_and,Bool.false_or];rw [xT (n:=(nth l k).Hi+1) (by omega) (by omega)];by_cases a2:(nth l (k+1)).Lo=(nth l k).Hi+1;simp only [a2,decide_true,w9,zA,Bool.true_and];exact u7 (by unfold adOk;simp only [decide_eq_true_eq];omega) (by decide)
  simp only [a2,decide_false,zA5,zA,Bool.false_and,cond_false];exact .inl ⟨by unfold adOk;omega,trivial⟩) (fun k hk=>by simp only [zBM,kW hk,cond_false])
 rcases h1 with ⟨h1,p1⟩ | ⟨y,hy,h1,p1⟩;rw [h1];simp only [zA,Sum.elim_inl,zGE];have h2:=jA (body:=fun (x:Int)=>zBN l [{Lo:=4352,Hi:=4370},{Lo:=4449,Hi:=4469},{Lo:=4520,Hi:=4546},{Lo:=44032,Hi:=55203}] x) l.length (fun k=>hgOk (nth l k)) (fun y=>y≠0) (fun k hk=>by
  simp only [zBN,kK hk,cond_true,zP (k:=k) (by omega)];rcases yJX l k hk _ rfl with ⟨h,p⟩ | ⟨h,p⟩
  rw [h];exact .inl ⟨p,rfl⟩;rw [h];exact .inr ⟨p,11,by decide,rfl⟩) (fun k hk=>by simp only [zBN,kW hk,cond_false])
 rcases h2 with ⟨h2,p2⟩ | ⟨y,hy,h2,p2⟩;rw [h2];exact ⟨0,rfl,by simp only [true_iff];exact ⟨p0,p1,p2⟩⟩
 rw [h2];exact ⟨y,rfl,by simp only [hy,false_iff];exact fun h=>p2 h.hg⟩
 rw [h1];exact ⟨y,rfl,by simp only [hy,false_iff];exact fun h=>p1 h.ad⟩
 rw [h0];exact ⟨y,rfl,by simp only [hy,false_iff];exact fun h=>p0 h.sp⟩
theorem zNP {l:List Span} (hl:l.length≤2000) (h:CV l) (c:Int):zC2 l c=some (clE l c):=by
 obtain ⟨e,he,hp⟩:=z92 hl;unfold zC2;rw [he,zA,hp.2 h];simp only [decide_true,Bool.not_true,cond_false];have hb:∀k,k < l.length→wE l c (k:Int)=if zP1 c (nth l k) then some (.done (.inr (nth l k).Value)) else some (.next ((k+1:Nat):Int)):=fun k hk=>by
  simp only [wE,kK hk,cond_true,z3 hk,zA,zS,zP (k:=k) (by omega),zP1];by_cases h1:(nth l k).Lo≤c
  · by_cases h2:c≤(nth l k).Hi <;> simp [h1,h2,w9]
  · simp [h1,zA5]
 have key:∀(d k:Nat),l.length - k=d→k≤l.length→(∀j,j < k→zP1 c (nth l j)=false)→(zG (fun (x:Int)=>wE l c x) (k:Int)).bind (fun y=>y.elim (fun _=>some 0) fun y=>some y)=some (clE l c):=by
  intro d
  induction d with
  | zero=>
   intro k h1 h2 h3;have:k=l.length:=by omega
   subst this;rw [zM (y:= .inl ()) (by simp only [wE,kW (Nat.le_refl _),cond_false])];unfold clE;rw [zV1 h3];rfl
  | succ d ih=>
   intro k h1 h2 h3;have hk:k < l.length:=by omega
   cases hi:zP1 c (nth l k) with
   | true=>
    rw [zM (y:= .inr (nth l k).Value) (by show wE l c (k:Int)=_;rw [hb k hk,hi];rfl)]
    unfold clE;rw [zNJ hk h3 hi];rfl
   | false=>
    rw [zU (x':=((k+1:Nat):Int)) (by show wE l c (k:Int)=_;rw [hb k hk,hi];rfl)]
    refine ih (k+1) (by omega) (by omega) fun j hj=>?_;by_cases e:j=k
    · subst e;exact hi
    · exact h3 j (by omega)
 exact key l.length 0 (by omega) (by omega) (fun j hj=>by omega)
end Go.M
namespace Go.M
open Go.AV
theorem yHS {a b c:Mapping} (h1:mlt a b) (h2:mlt b c):mlt a c:=by
 unfold mlt at*;rcases h1 with h1 | ⟨h1,t1⟩
 rcases h2 with h2 | ⟨h2,t2⟩;exact .inl (by omega);exact .inl (by omega);rcases h2 with h2 | ⟨h2,t2⟩;exact .inl (by omega);exact .inr ⟨by omega,List.lt_trans t1 t2⟩
theorem yD0 {a b:Mapping} (h:mlt a b):¬(a.From=b.From∧a.Tag=b.Tag):=by
 rintro ⟨h1,h2⟩
 unfold mlt at h;rcases h with h | ⟨_,h⟩
 omega;rw [h2] at h;exact List.lt_irrefl _ h
theorem z3O {l:List Mapping} (h:∀k,k+1 < l.length→mlt (nth l k) (nth l (k+1))):∀(d i:Nat),i+d+1 < l.length→mlt (nth l i) (nth l (i+d+1))
 | 0,i,hi=>h i hi
 | d+1,i,hi=>by
  have h1:=z3O h d i (by omega);have h3:=h (i+d+1) (by omega);have:i+(d+1)+1=i+d+1+1:=by omega
  rw [this];exact yHS h1 h3
theorem yJY (x y:Str):(x==y)=decide (x=y):=by rw [Bool.eq_iff_iff];simp
section
variable {l:List Mapping} (hl:l.length≤2000) (hto:∀m∈l,m.To.length≤2000) (htg:∀m∈l,m.Tag.length≤MX)
include hl hto htg
omit hl hto htg in
theorem z93 {m:Mapping} (hm:m.To.length≤2000):∃b,zFL m=some b∧(b=true↔codesOk m):=by
 unfold zFL;have h:=jA (body:=fun (x:Int)=>zBO m x) m.To.length (fun j=>vld (nth m.To j)=true) (fun y=>y=false) (fun j hj=>by
  simp only [zBO,kK hj,cond_true,z3 hj,zA,zFV,zP (k:=j) (by omega)];exact u7 (by simp) rfl) (fun j hj=>by simp only [zBO,kW hj,cond_false])
 rw [zB7 (p:=fun c=>vld c=true)] at h;rcases h with ⟨h,p⟩ | ⟨y,rfl,h,p⟩
 rw [h];simp only [zA,Sum.elim_inl,zFV];exact ⟨_,rfl,⟨fun a=>⟨a,p⟩,fun a=>a.1⟩⟩;rw [h];exact ⟨false,rfl,by simp only [Bool.false_eq_true,false_iff];exact fun a=>p a.2⟩
omit hto htg in
theorem z94:∃b,zFM l=some b∧(b=true→¬∀k,k+1 < l.length→mlt (nth l k) (nth l (k+1)))∧(b=false→True):=by
 unfold zFM;have inner:∀i,i < l.length→(zG (fun (x:Int)=>vO (i:Int) l x) 0=some (.inl ())∧∀j,j < i→¬((nth l i).From=(nth l j).From∧(nth l i).Tag=(nth l j).Tag))∨(∃y,y=true∧zG (fun (x:Int)=>vO (i:Int) l x) 0=some (.inr y)∧¬∀j,j < i→¬((nth l i).From=(nth l j).From∧(nth l i).Tag=(nth l j).Tag)):=by
  intro i hi;refine jA (body:=fun (x:Int)=>vO (i:Int) l x) i _ (fun y=>y=true) (fun j hj=>?_) (fun j hj=>by simp only [vO,kW hj,cond_false]);have hj':j < l.length:=by omega
  simp only [vO,kK hj,cond_true,z3 hi,z3 hj',zA,zS,zP (k:=j) (by omega),yJY];by_cases a:(nth l i).From=(nth l j).From;simp only [a,decide_true,w9,zA,Bool.true_and,true_and];exact u7 (by simp) rfl;simp only [a,decide_false,zA5,zA,Bool.false_and,cond_false,false_and];exact .inl ⟨by simp,trivial⟩
 have h:=jA (body:=fun (x:Int)=>zBP l x) l.length (fun i=> ∀j,j < i→¬((nth l i).From=(nth l j).From∧(nth l i).Tag=(nth l j).Tag)) (fun y=>y=true) (fun k hk=>by
  simp only [zBP,kK hk,cond_true,zP (k:=k) (by omega)];rcases inner k hk with ⟨h,p⟩ | ⟨y,hy,h,p⟩
  rw [h];exact .inl ⟨p,rfl⟩;rw [h];exact .inr ⟨p,y,hy,rfl⟩) (fun j hj=>by simp only [zBP,kW hj,cond_false])
 rcases h with ⟨h,p⟩ | ⟨y,rfl,h,p⟩;rw [h];exact ⟨false,rfl,fun h=>(by cases h),fun _=>trivial⟩;rw [h];refine ⟨true,rfl,fun _ hh=>p fun i hi j hj=>?_,fun _=>trivial⟩;have:=z3O hh (i - j - 1) j (by omega);rw [show j+(i - j - 1)+1=i by omega] at this;have:=yD0 this;exact fun ⟨a,b⟩=>this ⟨a.symm,b.symm⟩
theorem yHT:∃e,zCZ l=some e∧(e=0→(∀m∈l,codesOk m)∧(∀m∈l,m.To.length≤64)∧∀m∈l,tagOk m)∧(e≠0→¬MV l):=by
 unfold zCZ;have h0:=jA (body:=fun (x:Int)=>uB l x) l.length (fun k=>codesOk (nth l k)) (fun y=>y≠0) (fun k hk=>by
  obtain ⟨b,hb,hp⟩:=z93 (hto _ (wL hk));simp only [uB,kK hk,cond_true,z3 hk,zA,hb,zP (k:=k) (by omega)];exact u7 (by rw [←hp];simp) (by decide)) (fun k hk=>by simp only [uB,kW hk,cond_false])
 rw [zB7 (p:=codesOk)] at h0;rcases h0 with ⟨h0,p0⟩ | ⟨y,hy,h0,p0⟩
 case inr=>rw [h0];exact ⟨y,rfl,fun h=>absurd h hy,fun _ h=>p0 h.co⟩
 rw [h0];simp only [zA,Sum.elim_inl];have h1:=jA (body:=fun (x:Int)=>uC l x) l.length (fun k=>(nth l k).To.length≤64) (fun y=>y≠0) (fun k hk=>by
  simp only [uC,kK hk,cond_true,z3 hk,zA,zP (k:=k) (by omega)];exact u7 (by simp only [decide_eq_true_eq];omega) (by decide)) (fun k hk=>by simp only [uC,kW hk,cond_false])
 rw [zB7 (p:=fun (m:Mapping)=>m.To.length≤64)] at h1;rcases h1 with ⟨h1,p1⟩ | ⟨y,hy,h1,p1⟩
 case inr=>rw [h1];exact ⟨y,rfl,fun h=>absurd h hy,fun _ h=>p1 h.sz⟩
 rw [h1];simp only [zA,Sum.elim_inl];have h2:=jA (body:=fun (x:Int)=>uD l x) l.length (fun k=>tagOk (nth l k)) (fun y=>y≠0) (fun k hk=>by
  simp only [uD,kK hk,cond_true,z3 hk,zA,zS,zP (k:=k) (by omega),tagOk,yJY];by_cases ht:(nth l k).Tag= []
  ·
   simp only [ht,decide_true,Bool.not_true,zA5,zA,Bool.false_and,cond_false];exact .inl ⟨.inl trivial,trivial⟩
  ·
   simp only [ht,decide_false,Bool.not_false,w9,zA,yC8 (htg _ (wL hk)),Bool.true_and,false_or];exact u7 (by simp) (by decide)) (fun k hk=>by simp only [uD,kW hk,cond_false])
 rw [zB7 (p:=tagOk)] at h2;rcases h2 with ⟨h2,p2⟩ | ⟨y,hy,h2,p2⟩
 case inr=>rw [h2];exact ⟨y,rfl,fun h=>absurd h hy,fun _ h=>p2 h.tg⟩
 rw [h2];simp only [zA,Sum.elim_inl];obtain ⟨b,hb,hp,_⟩:=z94 hl;rw [hb,zA];cases b with
 | true=>exact ⟨5,rfl,fun h=>absurd h (by decide),fun _ h=>hp rfl h.lt⟩
 | false=>exact ⟨0,rfl,fun _=>⟨p0,p1,p2⟩,fun h=>absurd rfl h⟩
theorem yHU:Ver (zFN l) (MV l):=by
 obtain ⟨e,he,h0,h1⟩:=yHT hl hto htg;unfold zFN;rw [he,zA];by_cases hz:e=0
 case neg=>
  have:(!decide (e=0))=true:=by simp [hz]
  rw [this,cond_true];exact ⟨e,rfl,by simp only [hz,false_iff];exact h1 hz⟩
 obtain ⟨p0,p1,p2⟩:=h0 hz;rw [hz];simp only [decide_true,Bool.not_true,cond_false];have h3:=zK5 (body:=fun (x:Int)=>zBQ l x) l.length (fun k=>mlt (nth l k) (nth l (k+1))) (fun y=>y≠0) (fun k hk=>by
  have hk':k < l.length:=by omega
  simp only [zBQ,kK hk,cond_true,z3 hk,zA,zP (k:=k+1) (by omega),zDF (k:=k) (by omega),z3 hk',zGF,zS,z88];exact u7 (by unfold mlt;simp only [Bool.not_eq_true',Bool.or_eq_false_iff,Bool.and_eq_false_iff,decide_eq_false_iff_not,not_or,Classical.not_and_iff_not_or_not]) (by decide)) (fun k hk=>by simp only [zBQ,kW hk,cond_false])
 rcases h3 with ⟨h3,p3⟩ | ⟨y,hy,h3,p3⟩
 · rw [h3];exact ⟨0,rfl,by simp only [true_iff];exact ⟨p0,p1,p2,p3⟩⟩
 · rw [h3];exact ⟨y,rfl,by simp only [hy,false_iff];exact fun h=>p3 h.lt⟩
end
end Go.M
namespace Go.M
open Go.AV
section
variable {β:Type} [Inhabited β] (upd:List β→Nat→β)
def zNQ:Nat→Nat→List β→List β
 | 0,_,out=>out
 | d+1,i,out=>zNQ d (i+1) (out.set i (upd out i))
def zHG (n:Nat):Nat→List β→List β
 | 0,out=>out
 | k+1,out=>zHG n k (zNQ upd n 0 out)
end
section
variable {β:Type} [Inhabited β] {upd:List β→Nat→β} {n:Nat} {Inv:List β→Prop}
theorem zQE {out:List β} {i j:Nat} {x: β} (hi:i < out.length):nth (out.set i x) j=if j=i then x else nth out j:=by unfold nth;rw [List.getD_eq_getElem?_getD,List.getD_eq_getElem?_getD,List.getElem?_set];by_cases h:i=j;subst h;simp [hi];rw [if_neg h,if_neg (fun e=>h e.symm)]
theorem yD1 {out:List β} {i:Nat} (hi:i < out.length):out.set i (nth out i)=out:=by rw [zBX hi];simp
omit [Inhabited β] in
theorem zQF:∀(d i:Nat) (out:List β),(zNQ upd d i out).length=out.length
 | 0,_,_=>rfl
 | d+1,i,out=>by rw [zNQ,zQF d];simp
omit [Inhabited β] in
theorem zQG (hi:∀i out,i < n→out.length=n→Inv out→Inv (out.set i (upd out i))):∀(d i:Nat) (out:List β),i+d=n→out.length=n→Inv out→Inv (zNQ upd d i out)
 | 0,_,_,_,_,h=>h
 | d+1,i,out,hd,hl,h=>by
  rw [zNQ];exact zQG hi d (i+1) _ (by omega) (by simp [hl]) (hi i out (by omega) hl h)
omit [Inhabited β] in
theorem zV9 (hi:∀i out,i < n→out.length=n→Inv out→Inv (out.set i (upd out i))):∀(k:Nat) (out:List β),out.length=n→Inv out→Inv (zHG upd n k out)∧(zHG upd n k out).length=n
 | 0,_,hl,h=>⟨h,hl⟩
 | k+1,out,hl,h=>by
  rw [zHG];exact zV9 hi k _ (by rw [zQF,hl]) (zQG hi n 0 out (by omega) hl h)
theorem z95 {R R':Nat→Prop} {t:Nat→β} (hm:∀j,R j→R' j) (hi:∀i out,i < n→out.length=n→Inv out→Inv (out.set i (upd out i)))
    (hs:∀out i,i < n→out.length=n→Inv out→(∀j,j < n→R j→nth out j=t j)→R' i→upd out i=t i):
    ∀(d i:Nat) (out:List β),i+d=n→out.length=n→Inv out→(∀j,j < n→R j→nth out j=t j)→(∀j,j < i→R' j→nth out j=t j)→∀j,j < n→R' j→nth (zNQ upd d i out) j=t j
  | 0,i,out,hd,hl,h,h1,h2,j,hj,hr=>h2 j (by omega) hr
  | d+1,i,out,hd,hl,h,h1,h2,j,hj,hr=>by
    have hin:i < n:=by omega
    have hu:R' i→upd out i=t i:=hs out i hin hl h h1;rw [zNQ];refine z95 hm hi hs d (i+1) _ (by omega) (by simp [hl]) (hi i out hin hl h) (fun j hj hr=>?_) (fun j hj hr=>?_) j hj hr
    · rw [zQE (by omega)]
      split
      · rename_i e;subst e;exact hu (hm _ hr)
      · exact h1 j hj hr
    · rw [zQE (by omega)]
      split
      · rename_i e;subst e;exact hu hr
      · exact h2 j (by omega) hr
theorem zWA {R:Nat→Nat→Prop} {t:Nat→β} (hm:∀r j,R r j→R (r+1) j) (hi:∀i out,i < n→out.length=n→Inv out→Inv (out.set i (upd out i)))
  (hs:∀r out i,i < n→out.length=n→Inv out→(∀j,j < n→R r j→nth out j=t j)→R (r+1) i→upd out i=t i):
  ∀(k r:Nat) (out:List β),out.length=n→Inv out→(∀j,j < n→R r j→nth out j=t j)→∀j,j < n→R (r+k) j→nth (zHG upd n k out) j=t j
 | 0,_,_,_,_,h,j,hj,hr=>h j hj hr
 | k+1,r,out,hl,h,h1,j,hj,hr=>by
  rw [zHG];have:=z95 (R:=R r) (R':=R (r+1)) (hm r) hi (hs r) n 0 out (by omega) hl h h1 (fun j hj=>by omega);refine zWA hm hi hs k (r+1) _ (by rw [zQF,hl]) (zQG hi n 0 out (by omega) hl h) this j hj ?_;rw [show r+1+k=r+(k+1) by omega];exact hr
omit [Inhabited β] in
theorem zNR {X Y:Type} (mk:Nat→List β→X) {body:X→Option (Stp X Y)} (fin:List β→Y)
  (hb:∀i out,i < n→out.length=n→Inv out→body (mk i out)=some (.next (mk (i+1) (out.set i (upd out i)))))
  (hi:∀i out,i < n→out.length=n→Inv out→Inv (out.set i (upd out i)))
  (he:∀out,body (mk n out)=some (.done (fin out))):∀(d i:Nat) (out:List β),i+d=n→out.length=n→Inv out→zG body (mk i out)=some (fin (zNQ upd d i out))
 | 0,i,out,hd,hl,h=>by
  have:i=n:=by omega
  subst this;exact zM (he out)
 | d+1,i,out,hd,hl,h=>by
  rw [zU (hb i out (by omega) hl h),zNQ];exact zNR mk fin hb hi he d (i+1) _ (by omega) (by simp [hl]) (hi i out (by omega) hl h)
omit [Inhabited β] in
theorem zNS {X Y:Type} (mk:Nat→List β→X) {body:X→Option (Stp X Y)} (fin:List β→Y) {N:Nat}
  (hb:∀r out,r < N→out.length=n→Inv out→body (mk r out)=some (.next (mk (r+1) (zNQ upd n 0 out))))
  (hi:∀i out,i < n→out.length=n→Inv out→Inv (out.set i (upd out i)))
  (he:∀out,body (mk N out)=some (.done (fin out))):∀(k r:Nat) (out:List β),r+k=N→out.length=n→Inv out→zG body (mk r out)=some (fin (zHG upd n k out))
 | 0,r,out,hd,hl,h=>by
  have:r=N:=by omega
  subst this;exact zM (he out)
 | k+1,r,out,hd,hl,h=>by
  rw [zU (hb r out (by omega) hl h),zHG];exact zNS mk fin hb hi he k (r+1) _ (by omega) (by rw [zQF,hl]) (zQG hi n 0 out (by omega) hl h)
end
theorem zZK {A Y:Type} {p:Nat→A→Option Y}:∀{l:List A} {k:Nat} {y:Y},chk p l k=some y→∃j,∃h:j < l.length,p (k+j) l[j]=some y
 | [],_,_,h=>by cases h
 | x::l,k,y,h=>by
  unfold chk at h;cases hp:p k x with
  | some z=>
   rw [hp] at h;exact ⟨0,by simp,by simpa [hp] using h⟩
  | none=>
   rw [hp] at h;obtain ⟨j,hj,e⟩:=zZK h;exact ⟨j+1,by simpa using hj,by rw [show k+(j+1)=k+1+j by omega];simpa using e⟩
theorem zUJ {A Y:Type} {p:Nat→A→Option Y}:∀{l:List A} {k j:Nat} (h:j < l.length),p (k+j) l[j]≠none→∃i,∃hi:i < l.length,i≤j∧chk p l k=p (k+i) l[i]
 | [],_,_,h,_=>by cases h
 | x::l,k,j,h,hp=>by
  unfold chk;cases hx:p k x with
  | some z=>exact ⟨0,by simp,Nat.zero_le _,by simp [hx]⟩
  | none=>
   cases j with
   | zero=>exact absurd (by simpa using hx) hp
   | succ j=>
    obtain ⟨i,hi,hij,e⟩:=zUJ (p:=p) (l:=l) (k:=k+1) (j:=j) (by simpa using h) (by rw [show k+1+j=k+(j+1) by omega];simpa using hp)
    exact ⟨i+1,by simpa using hi,by omega,by rw [show k+(i+1)=k+1+i by omega];simpa using e⟩
def pM (c:Int) (b:Bool) (k:Nat) (m:Mapping):Option Nat:=if m.From=c∧(b ||(m.Tag== []))=true then some k else none
def fi (l:List Mapping) (c:Int) (b:Bool):Option Nat:=chk (pM c b) l 0
theorem zH3 {l:List Mapping} {c:Int} {b:Bool} {i:Nat} (h:fi l c b=some i):i < l.length∧(nth l i).From=c∧(b ||((nth l i).Tag== []))=true:=by
 obtain ⟨j,hj,e⟩:=zZK h;unfold pM at e;split at e;rename_i hp;injection e with e;have:i=j:=by omega
 subst this;rw [zBX hj];exact ⟨hj,hp⟩;cases e
theorem z3P {l:List Mapping} {c:Int} {b:Bool} (h:fi l c b=none):∀m∈l,¬(m.From=c∧(b ||(m.Tag== []))=true):=by intro m hm hp;obtain ⟨j,hj,rfl⟩:=List.getElem_of_mem hm;have:=zKQ h j hj;unfold pM at this;rw [if_pos hp] at this;cases this
theorem zUK {l:List Mapping} (hd:DS l) (c:Int) (b:Bool):(∃i,fi l c b=some i∧i < l.length∧(nth l i).From=c∧fnB l b c=some (nth l i).To)∨(fi l c b=none∧fnB l b c=none):=by
 cases hf:fi l c b with
 | some i=>
  obtain ⟨h1,h2,h3⟩:=zH3 hf;refine .inl ⟨i,rfl,h1,h2,?_⟩;have:=zDG hd (wL h1);rw [h2] at this;unfold fnB;rw [this];simp only [h3,if_true]
 | none=>
  refine .inr ⟨rfl,?_⟩;cases hn:fnB l b c with
  | none=>rfl
  | some to=>
   obtain ⟨m,h1,_,h3⟩:=zHF hn;obtain ⟨h4,h5⟩:=zEM h1;exact absurd ⟨h5,h3⟩ (z3P hf m h4)
def fiI (l:List Mapping) (c:Int) (b:Bool):Int:=match fi l c b with
 | some i=>(i:Int)
 | none=> -1
end Go.M
namespace Go.M
open Go.AV
section
variable {l:List Mapping} (hd:DS l)
def zMB (l:List Mapping) (out:List Bool) (i:Nat):Bool:=(nth l i).To.all fun e=>match fi l e true with
 | some m=>nth out m
 | none=>true
def z58 (l:List Mapping) (out:List Bool):Prop:= ∀j,j < l.length→nth out j=true→WW l (nth l j).From
include hd
theorem yD3 {out:List Bool} (h:z58 l out) {i:Nat} (hi:i < l.length) (hu:zMB l out i=true):WW l (nth l i).From:=by
 refine zZA fun e he=>?_;rw [zY9 hd (wL hi)] at he;have:=List.all_eq_true.1 hu e he;rcases zUK hd e true with ⟨m,h1,h2,h3,_⟩ | ⟨h1,h2⟩
 rw [h1] at this;have:=h m h2 this;rw [h3] at this;exact this;cases hs:syl e with
 | true=>exact yHC hd hs
 | false=>
  refine zV3 ?_;unfold dep;rw [if_neg (by simp [hs])];rw [zRT] at h2;cases hf:l.find? (isF e) with
  | none=>rfl
  | some m=>rw [hf] at h2;cases h2
theorem zUL (i:Nat) (out:List Bool) (hi:i < l.length) (hl:out.length=l.length) (h:z58 l out):z58 l (out.set i (zMB l out i)):=by intro j hj hn;rw [zQE (by omega)] at hn;split at hn;rename_i e;subst e;exact yD3 hd h hi hn;exact h j hj hn
theorem yD4 (r:Nat) (out:List Bool) (i:Nat) (hi:i < l.length) (_hl:out.length=l.length) (h1:∀j,j < l.length→DD l r (nth l j).From→nth out j=true) (hr:DD l (r+1) (nth l i).From):zMB l out i=true:=by
 refine List.all_eq_true.2 fun e he=>?_;have:=hr (nth l i) (zDG hd (wL hi)) e he;rcases zUK hd e true with ⟨m,e1,e2,e3,_⟩ | ⟨e1,_⟩
 rw [e1];exact h1 m e2 (by rw [e3];exact this)
 rw [e1]
theorem z96:(∀j,j < l.length→nth (zHG (zMB l) l.length l.length (List.replicate l.length false)) j=true)↔∀m∈l,WW l m.From:=by
 have h0:z58 l (List.replicate l.length false):=by
  intro j hj hn;rw [zBX (by simpa using hj)] at hn;simp at hn
 constructor;intro h;have hv:=(zV9 (upd:=zMB l) (n:=l.length) (Inv:=z58 l) (zUL hd) l.length _ (by simp) h0).1;rw [←zB7 (p:=fun m:Mapping=>WW l m.From)];exact fun k hk=>hv k hk (h k hk);intro H j hj;have hp:=z9K hd H;refine zWA (upd:=zMB l) (n:=l.length) (Inv:=z58 l) (R:=fun r j=>j < l.length∧DD l r (nth l j).From) (t:=fun _=>true) (fun r j h=>⟨h.1,zJL h.2⟩) (zUL hd) (fun r out i hi hl _ h1 hr=>yD4 hd r out i hi hl (fun j hj hr=>h1 j hj ⟨hj,hr⟩) hr.2) l.length 0 _ (by simp) h0 (fun j hj hr=>?_) j hj ⟨hj,by rw [Nat.zero_add];exact hp _ (wL hj)⟩
 have:l.find? (isF (nth l j).From)=none:=hr.2;rw [zDG hd (wL hj)] at this;cases this
end
section
variable {l:List Mapping} (hd:DS l) (hD:∀c,DD l l.length c) {b:Bool}
def lenOf (l:List Mapping) (b:Bool) (out:List Int) (e:Int):Int:=match fi l e b with
 | some m=>nth out m
 | none=>((hdE e).length:Int)
def updL (l:List Mapping) (b:Bool) (out:List Int) (i:Nat):Int:=if (b ||((nth l i).Tag== []))=true then min (max (((nth l i).To.map (lenOf l b out)).sum) 1) 65 else 1
def zWB (out:List Int):Prop:= ∀x∈out,0≤x∧x≤65
theorem yD5 (out:List Int) (i:Nat):0≤updL l b out i∧updL l b out i≤65:=by unfold updL;split <;> omega
theorem zON (i:Nat) (out:List Int) (_hi:i < l.length) (_hl:out.length=l.length) (h:zWB out):zWB (out.set i (updL l b out i)):=by
 intro x hx;rcases List.mem_or_eq_of_mem_set hx with hx | rfl
 exact h x hx;exact yD5 out i
include hd hD
theorem yD6 {i:Nat} (hi:i < l.length):wt l b (nth l i).From=if (b ||((nth l i).Tag== []))=true then min (max (((nth l i).To.map (wt l b)).sum) 1) 65 else 1:=by
 rw [zUE hD];unfold fnB;rw [zDG hd (wL hi)];by_cases ht:(b ||((nth l i).Tag== []))=true;simp only [ht,if_true];have hs:=zRR hd (wL hi);have e1:hdE (nth l i).From= [(nth l i).From]:=by unfold hdE;rw [if_neg (by simp [hs])]
 rw [if_neg ht];simp only [e1];rw [if_neg ht];rfl
omit hD in
theorem z97 {out:List Int} {e:Int} (hD':fnB l b e=none→wt l b e=((hdE e).length:Int)) (h:∀m,m < l.length→(nth l m).From=e→nth out m=wt l b e):lenOf l b out e=wt l b e:=by
 unfold lenOf;rcases zUK hd e b with ⟨m,e1,e2,e3,_⟩ | ⟨e1,e2⟩
 rw [e1];exact h m e2 e3;rw [e1,hD' e2]
theorem yD7 (r:Nat) (out:List Int) (i:Nat) (hi:i < l.length) (h1:∀j,j < l.length→DD l r (nth l j).From→nth out j=wt l b (nth l j).From) (hr:DD l (r+1) (nth l i).From):updL l b out i=wt l b (nth l i).From:=by
  rw [yD6 hd hD hi];unfold updL;split
  · have:(nth l i).To.map (lenOf l b out)=(nth l i).To.map (wt l b):=List.map_congr_left fun e he=>by
      have hde:=hr (nth l i) (zDG hd (wL hi)) e he;exact z97 hd (fun hn=>by rw [zUE hD,hn]) fun m hm hf=>by rw [←hf];exact h1 m hm (by rw [hf];exact hde)
    rw [this]
  · rfl
theorem z3Q (j:Nat) (hj:j < l.length):nth (zHG (updL l b) l.length l.length (List.replicate l.length 0)) j=wt l b (nth l j).From:=by
 have h0:zWB (List.replicate l.length 0):=fun x hx=>by rw [(List.mem_replicate.1 hx).2];omega
 refine zWA (upd:=updL l b) (n:=l.length) (Inv:=zWB) (R:=fun r j=>j < l.length∧DD l r (nth l j).From) (t:=fun j=>wt l b (nth l j).From) (fun r j h=>⟨h.1,zJL h.2⟩) zON (fun r out i hi hl _ h1 hr=>yD7 hd hD r out i hi (fun j hj hr=>h1 j hj ⟨hj,hr⟩) hr.2) l.length 0 _ (by simp) h0 (fun j hj hr=>?_) j hj ⟨hj,by rw [Nat.zero_add];exact hD _⟩
 have:l.find? (isF (nth l j).From)=none:=hr.2;rw [zDG hd (wL hj)] at this;cases this
end
section
variable {l:List Mapping} (hd:DS l) (hD:∀c,DD l l.length c) {b:Bool}
def zFX (l:List Mapping) (b:Bool) (out:List (List Int)) (e:Int):List Int:=match fi l e b with
 | some m=>nth out m
 | none=>hdE e
def zRY (l:List Mapping) (b:Bool) (out:List (List Int)) (i:Nat):List Int:=if (b ||((nth l i).Tag== []))=true then (nth l i).To.flatMap (zFX l b out) else nth out i
def zS3 (l:List Mapping) (b:Bool) (out:List (List Int)):Prop:= ∀j,j < l.length→(nth out j).length≤(fu l b (nth l j).From).length
include hd hD
theorem z3R {i:Nat} (hi:i < l.length) (ht:(b ||((nth l i).Tag== []))=true):fu l b (nth l i).From=(nth l i).To.flatMap (fu l b):=by rw [zNL hD];unfold fnB;rw [zDG hd (wL hi)];simp only [ht,if_true]
theorem z3S {out:List (List Int)} (h:zS3 l b out) (e:Int):(zFX l b out e).length≤(fu l b e).length:=by
 unfold zFX;rcases zUK hd e b with ⟨m,e1,e2,e3,_⟩ | ⟨e1,e2⟩
 rw [e1];have:=h m e2;rw [e3] at this;exact this;rw [e1,zNL hD,e2];exact Nat.le_refl _
omit hd hD in
theorem zZL {f g:Int→List Int} (h:∀e,(f e).length≤(g e).length):∀L:List Int,(L.flatMap f).length≤(L.flatMap g).length
 | []=>Nat.le_refl _
 | x::L=>by have:=zZL h L;have:=h x;simp only [List.flatMap_cons,List.length_append];omega
theorem z98 {out:List (List Int)} (h:zS3 l b out) {i:Nat} (hi:i < l.length):(zRY l b out i).length≤(fu l b (nth l i).From).length:=by unfold zRY;split;rename_i ht;rw [z3R hd hD hi ht];exact zZL (z3S hd hD h) _;exact h i hi
theorem zOO (i:Nat) (out:List (List Int)) (hi:i < l.length) (hl:out.length=l.length) (h:zS3 l b out):zS3 l b (out.set i (zRY l b out i)):=by intro j hj;rw [zQE (by omega)];split;rename_i e;subst e;exact z98 hd hD h hi;exact h j hj
omit hD in
theorem yD8 (hD:∀c,DD l l.length c) (r:Nat) (out:List (List Int)) (i:Nat) (hi:i < l.length) (h1:∀j,j < l.length→(b ||((nth l j).Tag== []))=true→DD l r (nth l j).From→nth out j=fu l b (nth l j).From) (ht:(b ||((nth l i).Tag== []))=true) (hr:DD l (r+1) (nth l i).From):zRY l b out i=fu l b (nth l i).From:=by
 rw [z3R hd hD hi ht];unfold zRY;rw [if_pos ht];refine zMA fun e he=>?_;have hde:=hr (nth l i) (zDG hd (wL hi)) e he;unfold zFX;cases hf:fi l e b with
 | some m=>
  obtain ⟨e1,e2,e3⟩:=zH3 hf;show nth out m=_;rw [h1 m e1 e3 (by rw [e2];exact hde),e2]
 | none=>
  rcases zUK hd e b with ⟨m,e1,_⟩ | ⟨_,e2⟩;rw [hf] at e1;cases e1;show hdE e=_;rw [zNL hD,e2]
def zZM (l:List Mapping) (b:Bool):List (List Int):=zHG (zRY l b) l.length l.length (List.replicate l.length [])
omit hd hD in
theorem yFL:zS3 l b (List.replicate l.length []):=by intro j hj;rw [zBX (by simpa using hj)];simp
theorem yHV (j:Nat) (hj:j < l.length) (ht:(b ||((nth l j).Tag== []))=true):nth (zZM l b) j=fu l b (nth l j).From:=by
 refine zWA (upd:=zRY l b) (n:=l.length) (Inv:=zS3 l b) (R:=fun r j=>j < l.length∧(b ||((nth l j).Tag== []))=true∧DD l r (nth l j).From) (t:=fun j=>fu l b (nth l j).From) (fun r j h=>⟨h.1,h.2.1,zJL h.2.2⟩) (zOO hd hD) (fun r out i hi hl _ h1 hr=>yD8 hd hD r out i hi (fun j hj ht hr=>h1 j hj ⟨hj,ht,hr⟩) hr.2.1 hr.2.2) l.length 0 _ (by simp) yFL (fun j hj hr=>?_) j hj ⟨hj,ht,by rw [Nat.zero_add];exact hD _⟩
 have:l.find? (isF (nth l j).From)=none:=hr.2.2;rw [zDG hd (wL hj)] at this;cases this
theorem yD9 (e:Int):zFX l b (zZM l b) e=fu l b e:=by
 unfold zFX;cases hf:fi l e b with
 | some m=>
  obtain ⟨e1,e2,e3⟩:=zH3 hf;show nth (zZM l b) m=_;rw [yHV hd hD m e1 e3,e2]
 | none=>
  rcases zUK hd e b with ⟨m,e1,_⟩ | ⟨_,e2⟩;rw [hf] at e1;cases e1;show hdE e=_;rw [zNL hD,e2]
end
end Go.M
namespace Go.M
open Go.AV
def plF (n:Int):Bool→List Int→Bool×List Int
 | true,l=>(true,l)
 | false,[]=>(false,[])
 | false,x::l=>if n≤x then (true,if n < x then n::x::l else x::l) else ((plF n false l).1,x::(plF n false l).2)
def plE (n:Int):List Int→List Int
 | []=>[n]
 | x::l=>if n≤x then (if n < x then n::x::l else x::l) else x::plE n l
theorem yFM (n:Int):∀l:List Int,(if (plF n false l).1=true then (plF n false l).2 else (plF n false l).2++ [n])=plE n l
 | []=>rfl
 | x::l=>by
  have:=yFM n l;unfold plF plE;by_cases h:n≤x;simp [h];simp only [h,if_false];rw [←this];split <;> simp
theorem z1T {l:List Int} {n:Int} (hl:l.length≤2000):∀(d k:Nat) (b:Bool) (out:List Int),l.length - k=d→k≤l.length→out.length≤2*k→
    zG (fun (x:Bool×Int×(List Int))=>jL l n x.1 x.2.1 x.2.2) (b,(k:Int),out)=some ((plF n b (l.drop k)).1,out++(plF n b (l.drop k)).2):=by
  intro d
  induction d with
  | zero=>
    intro k b out h1 h2 h3;rw [List.drop_of_length_le (show l.length≤k by omega)];refine zM ?_;simp only [jL,kW (show l.length≤k by omega),cond_false];cases b <;> simp [plF]
  | succ d ih=>
    intro k b out h1 h2 h3;have hk:k < l.length:=by omega
    have ha:∀{o:List Int} (x:Int),o.length≤2*k+1→app o [x]=some (o++ [x]):=fun {o} x ho=>zAD (by simp;omega)
    rw [List.drop_eq_getElem_cons hk];have nx:∀(b':Bool) (o':List Int),o'.length≤2*(k+1)→jL l n b (k:Int) out=some (.next (b',((k+1:Nat):Int),o'))→(plF n b' (l.drop (k+1))).1=(plF n b (l[k]::l.drop (k+1))).1→o'++(plF n b' (l.drop (k+1))).2=out++(plF n b (l[k]::l.drop (k+1))).2→
        zG (fun (x:Bool×Int×(List Int))=>jL l n x.1 x.2.1 x.2.2) (b,(k:Int),out)=some ((plF n b (l[k]::l.drop (k+1))).1,out++(plF n b (l[k]::l.drop (k+1))).2):=by
      intro b' o' ho hb e1 e2;rw [zU (body:=fun (x:Bool×Int×(List Int))=>jL l n x.1 x.2.1 x.2.2) (x:=(b,(k:Int),out)) hb,ih (k+1) b' o' (by omega) (by omega) ho,e1,e2]
    cases b with
    | true=>
      refine nx true (out++ [l[k]]) (by simp;omega) ?_ ?_ ?_
      · simp only [jL,kK hk,cond_true,zS,Bool.not_true,zA5,zA,Bool.false_and,cond_false,zW hk,ha _ (show out.length≤2*k+1 by omega),zP (k:=k) (by omega)]
      · simp [plF]
      · simp [plF]
    | false=>
      by_cases h4:n≤l[k]
      · by_cases h5:n < l[k]
        · refine nx true (out++ [n]++ [l[k]]) (by simp;omega) ?_ ?_ ?_
          · simp only [jL,kK hk,cond_true,zS,Bool.not_false,w9,zA,Bool.true_and,zW hk,h4,h5,decide_true,ha _ (show out.length≤2*k+1 by omega),ha _ (show (out++ [n]).length≤2*k+1 by simp;omega),zP (k:=k) (by omega)]
          · simp [plF,h4]
          · simp [plF,h4,h5]
        · refine nx true (out++ [l[k]]) (by simp;omega) ?_ ?_ ?_
          · simp only [jL,kK hk,cond_true,zS,Bool.not_false,w9,zA,Bool.true_and,zW hk,h4,h5,decide_true,decide_false,cond_false,ha _ (show out.length≤2*k+1 by omega),zP (k:=k) (by omega)]
          · simp [plF,h4]
          · simp [plF,h4,h5]
      · refine nx false (out++ [l[k]]) (by simp;omega) ?_ ?_ ?_
        · simp only [jL,kK hk,cond_true,zS,Bool.not_false,w9,zA,Bool.true_and,zW hk,h4,decide_false,cond_false,ha _ (show out.length≤2*k+1 by omega),zP (k:=k) (by omega)]
        · simp [plF,h4]
        · simp [plF,h4]
theorem z3T (n:Int):∀l:List Int,(plF n false l).2.length≤l.length+1
 | []=>by simp [plF]
 | x::l=>by
  have:=z3T n l;unfold plF;by_cases h:n≤x;by_cases h5:n < x <;> simp [h,h5];simp only [h,if_false,List.length_cons];omega
theorem zNT {l:List Int} (hl:l.length≤2000) (n:Int):zC0 l n=some (plE n l):=by
 unfold zC0;have h:=z1T (n:=n) hl l.length 0 false [] (by omega) (by omega) (by simp);have hlen:=z3T n l;rw [List.drop_zero,List.nil_append] at h;have h':zG (fun (x:Bool×Int×(List Int))=>jL l n x.1 x.2.1 x.2.2) (false,0,[])=some ((plF n false l).1,(plF n false l).2):=h;rw [h',zA,←yFM];cases (plF n false l).1 with
 | true=>rfl
 | false=>simp only [Bool.not_false,cond_true,zAD (show (plF n false l).2.length+ [n].length≤4294967296 by simp;omega),zA];rfl
def Gd (l:List Int):Prop:=l.Pairwise (· < ·)∧∀x∈l,0≤x∧x≤1114111
theorem zWC (n:Int):∀{l:List Int} {x:Int},x∈plE n l→x=n∨x∈l
 | [],x,h=>by simp [plE] at h;exact .inl h
 | y::l,x,h=>by
  unfold plE at h;split at h;split at h;rcases List.mem_cons.1 h with h | h
  exact .inl h;exact .inr h;exact .inr h;rcases List.mem_cons.1 h with h | h
  exact .inr (by simp [h]);rcases zWC n h with h | h
  exact .inl h;exact .inr (by simp [h])
theorem z3U (n:Int):∀{l:List Int},l.Pairwise (· < ·)→(plE n l).Pairwise (· < ·)
 | [],_=>by simp [plE]
 | y::l,h=>by
  obtain ⟨h1,h2⟩:=List.pairwise_cons.1 h;unfold plE;split;split;rename_i hn;refine List.pairwise_cons.2 ⟨fun z hz=>?_,h⟩;rcases List.mem_cons.1 hz with rfl | hz;exact hn;have:=h1 z hz;omega;exact h;rename_i hn;refine List.pairwise_cons.2 ⟨fun z hz=>?_,z3U n h2⟩;rcases zWC n hz with rfl | hz;omega;exact h1 z hz
theorem zOP {n:Int} (hn:0≤n∧n≤1114111) {l:List Int} (h:Gd l):Gd (plE n l):=by
 refine ⟨z3U n h.1,fun x hx=>?_⟩;rcases zWC n hx with rfl | hx
 exact hn;exact h.2 x hx
theorem zLA (n:Int):∀l:List Int,(plE n l).length≤l.length+1
 | []=>by simp [plE]
 | x::l=>by
  have:=zLA n l;unfold plE;split;split <;> simp;simp only [List.length_cons];omega
theorem zWD {n:Int}:∀{l:List Int},(∀x∈l,x < n)→plE n l=l++ [n]
 | [],_=>rfl
 | y::l,h=>by
  have hy:=h y (by simp);unfold plE;rw [if_neg (by omega),zWD fun x hx=>h x (by simp [hx])];rfl
def cuS (c:List Int) (r:Range):List Int:=if 0≤r.Hi∧r.Hi < 1114111 then plE (r.Hi+1) (if vld r.Lo=true then plE r.Lo c else c) else (if vld r.Lo=true then plE r.Lo c else c)
theorem z3V (c:List Int) (r:Range):(cuS c r).length≤c.length+2:=by
 have h1:=zLA r.Lo c;unfold cuS;split
 ·
  have h2:=zLA (r.Hi+1) (if vld r.Lo=true then plE r.Lo c else c);split at h2 <;> split <;> simp_all <;> omega
 · split <;> omega
theorem yHW {c:List Int} {r:Range} (h:Gd c):Gd (cuS c r):=by
 have h1:Gd (if vld r.Lo=true then plE r.Lo c else c):=by
  split;rename_i hv;unfold vld at hv;simp only [Bool.and_eq_true,decide_eq_true_eq] at hv;exact zOP hv h;exact h
 unfold cuS;split;exact zOP (by omega) h1;exact h1
def cuE (l:List Range) (c:List Int):List Int:=l.foldl cuS c
theorem zWE:∀(l:List Range) {c:List Int},Gd c→Gd (cuE l c)
 | [],_,h=>h
 | r::l,_,h=>zWE l (yHW h)
theorem zWF:∀(l:List Range) (c:List Int),(cuE l c).length≤c.length+2*l.length
 | [],c=>by simp [cuE]
 | r::l,c=>by
  have h1:=zWF l (cuS c r);have h2:=z3V c r;show (cuE l (cuS c r)).length≤_;simp only [List.length_cons];omega
theorem z6A {s:Set} (hl:s.Ranges.length≤12):∀(d k:Nat) (c:List Int),s.Ranges.length - k=d→k≤s.Ranges.length→c.length≤100+2*k→
    zG (fun (x:(List Int)×Int)=>vB s x.1 x.2) (c,(k:Int))=some (cuE (s.Ranges.drop k) c):=by
  intro d
  induction d with
  | zero=>
    intro k c h1 h2 h3;rw [List.drop_of_length_le (show s.Ranges.length≤k by omega)];refine zM ?_;simp only [vB,kW (show s.Ranges.length≤k by omega),cond_false];rfl
  | succ d ih=>
    intro k c h1 h2 h3;have hk:k < s.Ranges.length:=by omega
    have hs:=z3V c s.Ranges[k];have hb:vB s c (k:Int)=some (.next (cuS c s.Ranges[k],((k+1:Nat):Int))):=by
      have hp:=zLA s.Ranges[k].Lo c;simp only [vB,kK hk,cond_true,zW hk,zA,zFV,zS,zP (k:=k) (by omega),zNT (show c.length≤2000 by omega)];unfold cuS;by_cases hv:vld s.Ranges[k].Lo=true
      · simp only [hv,cond_true,zA,if_true]
        by_cases ha:0≤s.Ranges[k].Hi
        · by_cases hc:s.Ranges[k].Hi < 1114111
          · simp only [ha,hc,decide_true,Bool.and_self,cond_true,and_self,if_true]
            rw [xT (n:=s.Ranges[k].Hi+1) (by omega) (by omega),zNT (by omega)];rfl
          · simp [ha,hc]
        · simp [ha]
      · simp only [hv,Bool.false_eq_true,if_false,cond_false,zA]
        by_cases ha:0≤s.Ranges[k].Hi
        · by_cases hc:s.Ranges[k].Hi < 1114111
          · simp only [ha,hc,decide_true,Bool.and_self,cond_true,and_self,if_true]
            rw [xT (n:=s.Ranges[k].Hi+1) (by omega) (by omega),zNT (by omega)];rfl
          · simp [ha,hc]
        · simp [ha]
    rw [zU (body:=fun (x:(List Int)×Int)=>vB s x.1 x.2) (x:=(c,(k:Int))) hb,ih (k+1) _ (by omega) (by omega) (by omega),List.drop_eq_getElem_cons hk];rfl
theorem z3W {s:Set} (hl:s.Ranges.length≤12) {c:List Int} (hc:c.length≤100):zET c s=some (plE 0 (cuE s.Ranges c)):=by unfold zET;have h:=z6A hl s.Ranges.length 0 c (by omega) (by omega) (by omega);rw [List.drop_zero] at h;have h':zG (fun (x:(List Int)×Int)=>vB s x.1 x.2) (c,0)=some (cuE s.Ranges c):=h;have:=zWF s.Ranges c;rw [h',zA,zNT (by omega)];rfl
def zE5 (l:List Range) (c:Int):Bool:=l.any fun r=>vld c&&decide (r.Lo≤c)&&decide (c≤r.Hi)
theorem z99 {s:Set} (hl:s.Ranges.length≤2000) (c:Int):zEU s c=some (zE5 s.Ranges c):=by
 unfold zEU;have h:=jA (body:=fun (x:Int)=>zDC s c x) s.Ranges.length (fun k=> ¬(vld c&&decide ((nth s.Ranges k).Lo≤c)&&decide (c≤(nth s.Ranges k).Hi))=true) (fun y=>y=true) (fun k hk=>by
  simp only [zDC,kK hk,cond_true,zFV,zA,zS,z3 hk,zP (k:=k) (by omega)];cases hv:vld c with
  | false=>simp only [zA5,zA,Bool.false_and,cond_false];exact .inl ⟨by simp,trivial⟩
  | true=>
   simp only [w9,zA,Bool.true_and];by_cases h1:(nth s.Ranges k).Lo≤c;simp only [h1,decide_true,w9,zA,Bool.true_and];exact u7 (by simp) rfl;simp only [h1,decide_false,zA5,zA,Bool.false_and,cond_false];exact .inl ⟨by simp,trivial⟩) (fun k hk=>by simp only [zDC,kW hk,cond_false])
 rw [zB7 (p:=fun r:Range=> ¬(vld c&&decide (r.Lo≤c)&&decide (c≤r.Hi))=true)] at h;rcases h with ⟨h,p⟩ | ⟨y,rfl,h,p⟩
 rw [h];have:zE5 s.Ranges c=false:=by unfold zE5;rw [List.any_eq_false];exact p
 rw [this];rfl;rw [h];have:zE5 s.Ranges c=true:=by
  cases he:zE5 s.Ranges c with
  | true=>rfl
  | false=>exfalso;apply p;unfold zE5 at he;rw [List.any_eq_false] at he;exact he
 rw [this];rfl
def nxt:List Int→Int
 | []=>1114111
 | d::_=>d - 1
def coF (has:Int→Bool):List Int→Bool→List Range→List Range
 | [],_,o=>o
 | c::cs,op,o=>if has c=true then (if op=true then coF has cs true (match o with
   | q::o'=>{q with Hi:=nxt cs}::o'
   | []=>[]) else coF has cs true ({Lo:=c,Hi:=nxt cs}::o)) else coF has cs false o
theorem yEA {C:List Int} {s:Set} (hl:s.Ranges.length≤12) (hC:C.length≤200) (hg:Gd C):∀(d k:Nat) (op:Bool) (o:List Range),C.length - k=d→k≤C.length→o.length≤k→(op=true→o≠[])→
    zG (fun (x:Bool×Int×(List Range))=>jD C s {Ranges:=[]} 1 x.1 x.2.1 x.2.2) (op,(k:Int),o.reverse)=some (coF (zE5 s.Ranges) (C.drop k) op o).reverse:=by
  intro d
  induction d with
  | zero=>
    intro k op o h1 h2 h3 h4;rw [List.drop_of_length_le (show C.length≤k by omega)];refine zM ?_;simp only [jD,kW (show C.length≤k by omega),cond_false];rfl
  | succ d ih=>
    intro k op o h1 h2 h3 h4;have hk:k < C.length:=by omega
    have he:zEU {Ranges:=[]} C[k]=some false:=by rw [z99 (by simp)];rfl
    have hnx:(cond (decide (((k+1:Nat):Int) < (C.length:Int))) ((yH C ((k+1:Nat):Int)).bind fun t31=>some (wi (t31 - 1))) (some 1114111):Option Int)=some (nxt (C.drop (k+1))):=by
      by_cases hk1:k+1 < C.length
      · have:=hg.2 _ (List.getElem_mem hk1)
        rw [kK hk1,cond_true,zW hk1,zA,xT (by omega) (by omega),List.drop_eq_getElem_cons hk1];rfl
      · rw [kW (by omega),cond_false,List.drop_of_length_le (by omega)]
        rfl
    rw [List.drop_eq_getElem_cons hk];have nx:∀(op':Bool) (o':List Range),o'.length≤k+1→(op'=true→o'≠[])→jD C s {Ranges:=[]} 1 op (k:Int) o.reverse=some (.next (op',((k+1:Nat):Int),o'.reverse))→coF (zE5 s.Ranges) (C.drop (k+1)) op' o'=coF (zE5 s.Ranges) (C[k]::C.drop (k+1)) op o→
        zG (fun (x:Bool×Int×(List Range))=>jD C s {Ranges:=[]} 1 x.1 x.2.1 x.2.2) (op,(k:Int),o.reverse)=some (coF (zE5 s.Ranges) (C[k]::C.drop (k+1)) op o).reverse:=by
      intro op' o' ho hne hb e;rw [zU (body:=fun (x:Bool×Int×(List Range))=>jD C s {Ranges:=[]} 1 x.1 x.2.1 x.2.2) (x:=(op,(k:Int),o.reverse)) hb,ih (k+1) op' o' (by omega) (by omega) ho hne,e]
    have hb0:jD C s {Ranges:=[]} 1 op (k:Int) o.reverse=((cond (zE5 s.Ranges C[k]&&op) ((yH o.reverse (wi ((o.reverse.length:Int) - 1))).bind fun t59=>(vS o.reverse (wi ((o.reverse.length:Int) - 1)) ({t59 with Hi:=nxt (C.drop (k+1))})).bind fun r4160_4=>some r4160_4) (some o.reverse)).bind fun (y3:List Range)=>
        (cond (zE5 s.Ranges C[k]&& !op) ((app y3 [({Lo:=C[k],Hi:=nxt (C.drop (k+1))}:Range)]).bind fun r=>some r) (some y3)).bind fun (y5:List Range)=>some (Stp.next (zE5 s.Ranges C[k],((k+1:Nat):Int),y5))):=by
      unfold jD;simp only [zP (k:=k) (show k+1≤9223372036854775807 by omega),kK hk,cond_true,hnx,zA,zW hk,z99 (show s.Ranges.length≤2000 by omega),he,zHV,decide_true,zS,Bool.or_false]
    cases hh:zE5 s.Ranges C[k] with
    | false=>
      refine nx false o (by omega) (fun h=>by cases h) ?_ ?_
      · rw [hb0,hh];rfl
      · simp [coF,hh]
    | true=>
      cases op with
      | false=>
        refine nx true ({Lo:=C[k],Hi:=nxt (C.drop (k+1))}::o) (by simp;omega) (fun _=>by simp) ?_ ?_
        · rw [hb0,hh]
          simp only [Bool.and_false,cond_false,zA,Bool.not_false,Bool.and_self,cond_true,zAD (show o.reverse.length+ [({Lo:=C[k],Hi:=nxt (C.drop (k+1))}:Range)].length≤4294967296 by simp;omega)]
          simp
        · simp [coF,hh]
      | true=>
        cases o with
        | nil=>exact absurd rfl (h4 rfl)
        | cons q o=>
          refine nx true ({q with Hi:=nxt (C.drop (k+1))}::o) (by simp only [List.length_cons] at h3 ⊢;omega) (fun _=>by simp) ?_ ?_
          · rw [hb0,hh]
            have e1:wi (((q::o).reverse.length:Int) - 1)=((o.length:Nat):Int):=by
              simp only [List.length_cons] at h3;have hL:((q::o).reverse.length:Int)=(o.length:Int)+1:=by simp
              rw [hL,xT (by omega) (by omega)];omega
            have e2:(q::o).reverse=o.reverse++q:: []:=by simp
            rw [e1,e2,wG (by simp),zA,uN (by simp)];simp
          · simp [coF,hh]
theorem yAA {l:List Range} (hl:l.length≤12):zG0 l=some {Ranges:=(coF (zE5 l) (plE 0 (plE 0 (cuE l []))) false []).reverse}:=by unfold zG0 zE9;have h1:=zWF l [];have h2:=zLA 0 (cuE l []);have h3:=zLA 0 (plE 0 (cuE l []));simp only [List.length_nil] at h1;have e0:cuE ([]:List Range) (plE 0 (cuE l []))=plE 0 (cuE l []):=rfl;have hg:Gd (plE 0 (plE 0 (cuE l []))):=zOP (by omega) (zOP (by omega) (zWE l ⟨.nil,fun x hx=>by cases hx⟩));rw [z3W (s:={Ranges:=l}) hl (by simp),zA,z3W (s:={Ranges:=[]}) (by simp) (show (plE 0 (cuE l [])).length≤100 by omega)];rw [zA];have h:=yEA (s:={Ranges:=l}) hl (by omega) hg _ 0 false [] rfl (by omega) (by simp) (fun h=>by cases h);rw [List.drop_zero] at h;have h':zG (fun (x:Bool×Int×(List Range))=>jD (plE 0 (plE 0 (cuE l []))) {Ranges:=l} {Ranges:=[]} 1 x.1 x.2.1 x.2.2) (false,0,[])=some (coF (zE5 l) (plE 0 (plE 0 (cuE l []))) false []).reverse:=h;change ((zG (fun (x:Bool×Int×(List Range))=>jD (plE 0 (plE 0 (cuE l []))) {Ranges:=l} {Ranges:=[]} 1 x.1 x.2.1 x.2.2) (false,0,[])).bind fun y1=>some ({Ranges:=y1}:Set)).bind (fun t6=>some t6)=_;rw [h'];rfl
end Go.M
namespace Go.M
open Go.AV
theorem zQI {has:Int→Bool}:∀(C:List Int) (op:Bool) (o:List Range),Gd C→CanR o→(op=true→∀c,C.head? =some c→∃q o',o=q::o'∧q.Hi=c - 1∧q.Lo≤c)→(op=false→∀c q,C.head? =some c→o.head? =some q→q.Hi+1 < c)→(op=true→o≠[])→CanR (coF has C op o)
 | [],_,_,_,h,_,_,_=>h
 | c::cs,op,o,hg,ho,h1,h2,h3=>by
  obtain ⟨ha,hb⟩:=List.pairwise_cons.1 hg.1;have hgs:Gd cs:=⟨hb,fun x hx=>hg.2 x (by simp [hx])⟩;have hc:=hg.2 c (by simp);have hnx:c≤nxt cs∧nxt cs≤1114111∧∀d,cs.head? =some d→nxt cs=d - 1∧c < d:=by
   cases cs with
   | nil=>exact ⟨hc.2,Int.le_refl _,fun d hd=>by cases hd⟩
   | cons d cs=>
    have h5:=ha d (by simp);have h6:=hg.2 d (by simp);refine ⟨show c≤d - 1 by omega,show d - 1≤1114111 by omega,fun e he=>?_⟩;simp only [List.head?_cons,Option.some.injEq] at he;subst he;exact ⟨rfl,h5⟩
  unfold coF;split;split;rename_i hop;obtain ⟨q,o',rfl,e1,e2⟩:=h1 hop c rfl;refine zQI cs true _ hgs ?_ (fun _ d hd=>⟨_,_,rfl,(hnx.2.2 d hd).1,?_⟩) (fun h=>by cases h) (fun _=>by simp);have hq:=ho.head;unfold zB8 at hq;cases o' with
  | nil=>show zB8 _;unfold zB8;simp only;omega
  | cons z o'=>exact ⟨by unfold zB8;simp only;omega,ho.2.1,ho.2.2⟩
  have:=(hnx.2.2 d hd).2;show q.Lo≤d;omega;rename_i hop;simp only [Bool.not_eq_true] at hop;refine zQI cs true _ hgs ?_ (fun _ d hd=>⟨_,_,rfl,(hnx.2.2 d hd).1,?_⟩) (fun h=>by cases h) (fun _=>by simp);cases o with
  | nil=>show zB8 _;unfold zB8;simp only;omega
  | cons z o'=>exact ⟨by unfold zB8;simp only;omega,h2 hop c z rfl rfl,ho⟩
  have:=(hnx.2.2 d hd).2;show c≤d;omega;refine zQI cs false o hgs ho (fun h=>by cases h) (fun _ d q hd hq=>?_) (fun h=>by cases h);have h7:=(hnx.2.2 d hd).2;cases op with
  | true=>
   obtain ⟨q',o',rfl,e1,_⟩:=h1 rfl c rfl;simp only [List.head?_cons,Option.some.injEq] at hq;subst hq;omega
  | false=>
   have:=h2 rfl c q rfl hq;omega
def zJ0 (l:List Range):List Int:=l.flatMap fun r=>r.Lo::if r.Hi < 1114111 then [r.Hi+1] else []
theorem yAB:∀(l:List Range) (c:List Int),Can l→(∀x∈c,∀r,l.head? =some r→x < r.Lo)→cuE l c=c++zJ0 l
 | [],c,_,_=>by simp [cuE,zJ0]
 | r::l,c,h,hc=>by
  have hr:=h.head;unfold zB8 at hr;have hv:vld r.Lo=true:=by unfold vld;simp;omega
  have e1:plE r.Lo c=c++ [r.Lo]:=zWD fun x hx=>hc x hx r rfl;have e2:cuS c r=c++(r.Lo::if r.Hi < 1114111 then [r.Hi+1] else []):=by
   unfold cuS;rw [if_pos hv,e1];by_cases hm:r.Hi < 1114111;rw [if_pos ⟨by omega,hm⟩,if_pos hm,zWD];simp;intro x hx;rcases List.mem_append.1 hx with hx | hx
   have:=hc x hx r rfl;omega;simp only [List.mem_singleton] at hx;omega;rw [if_neg (fun h=>hm h.2),if_neg hm]
  show cuE l (cuS c r)=_;rw [yAB l (cuS c r) h.tail,e2];simp [zJ0];intro x hx q hq;have hg:r.Hi+1 < q.Lo:=h.gap q (by cases l with | nil=>cases hq | cons a l=>simp only [List.head?_cons,Option.some.injEq] at hq;simp [hq])
  rw [e2] at hx;rcases List.mem_append.1 hx with hx | hx
  have:=hc x hx r rfl;omega;rcases List.mem_cons.1 hx with rfl | hx
  omega;split at hx;simp only [List.mem_singleton] at hx;omega;cases hx
theorem yHX {l:List Range} (h:Can l) {r:Range} (hr:r∈l):zE5 l r.Lo=true:=by have:=h.ok r hr;unfold zB8 at this;unfold zE5;refine List.any_eq_true.2 ⟨r,hr,?_⟩;unfold vld;simp;omega
theorem yAC:∀{l:List Range},Can l→∀{r:Range},r∈l→zE5 l (r.Hi+1)=false
 | [],_,r,hr=>by cases hr
 | a::l,h,r,hr=>by
  unfold zE5;rw [List.any_eq_false];intro q hq;have no:∀(c:Int) (q:Range),(c < q.Lo∨q.Hi < c)→¬(vld c&&decide (q.Lo≤c)&&decide (c≤q.Hi))=true:=by
   intro c q hc;simp only [Bool.and_eq_true,decide_eq_true_eq];omega
  rcases List.mem_cons.1 hr with rfl | hr';refine no _ _ ?_;rcases List.mem_cons.1 hq with rfl | hq;omega;have:=h.gap q hq;omega;rcases List.mem_cons.1 hq with rfl | hq;refine no _ _ ?_;have h1:=h.gap r hr';have h2:=h.tail.ok r hr';unfold zB8 at h2;omega;have:=yAC h.tail hr';unfold zE5 at this;rw [List.any_eq_false] at this;exact this q hq
theorem z3X {has:Int→Bool}:∀(l:List Range) (o:List Range),Can l→(∀r∈l,has r.Lo=true∧(r.Hi < 1114111→has (r.Hi+1)=false))→coF has (zJ0 l) false o=l.reverse++o
  | [],o,_,_=>by simp [zJ0,coF]
  | r::l,o,h,hh=>by
    obtain ⟨h1,h2⟩:=hh r (by simp);have ih:=z3X (has:=has) l (r::o) h.tail fun q hq=>hh q (by simp [hq]);have hr:=h.head;unfold zB8 at hr;by_cases hm:r.Hi < 1114111
    · have e:zJ0 (r::l)=r.Lo::(r.Hi+1)::zJ0 l:=by simp [zJ0,hm]
      have en:nxt ((r.Hi+1)::zJ0 l)=r.Hi:=by show r.Hi+1 - 1=r.Hi;omega
      rw [e];unfold coF;rw [if_pos h1,if_neg (by simp),en];unfold coF;rw [if_neg (by rw [h2 hm];simp),ih]
      simp
    · have hl:l= []:=by
        cases l with
        | nil=>rfl
        | cons q l=>
          have:=h.2.1;have h3:=h.tail.head;unfold zB8 at h3;omega
      subst hl;have e:zJ0 [r]= [r.Lo]:=by simp [zJ0,hm]
      rw [e];unfold coF;rw [if_pos h1,if_neg (by simp)];unfold coF;have:nxt []=r.Hi:=by show (1114111:Int)=r.Hi;omega
      rw [this];rfl
theorem yAD {l:List Int} (h:Gd l):plE 0 (plE 0 l)=plE 0 l:=by
 cases l with
 | nil=>rfl
 | cons x l=>
  have:=h.2 x (by simp);by_cases hx:0 < x;have e:plE 0 (x::l)=0::x::l:=by unfold plE;rw [if_pos (by omega),if_pos hx]
  rw [e];unfold plE;rw [if_pos (by omega),if_neg (by omega)];have e:plE 0 (x::l)=x::l:=by unfold plE;rw [if_pos (by omega),if_neg hx]
  rw [e,e]
theorem yAE {l:List Range} (h:Can l):(coF (zE5 l) (plE 0 (plE 0 (cuE l []))) false []).reverse=l:=by
 rw [yAD (zWE l ⟨.nil,fun x hx=>by cases hx⟩),yAB l [] h (fun x hx=>by cases hx),List.nil_append];have hw:=z3X (has:=zE5 l) l [] h fun r hr=>⟨yHX h hr,fun _=>yAC h hr⟩;rw [List.append_nil] at hw;have h0:plE 0 (zJ0 l)=zJ0 l∨(plE 0 (zJ0 l)=0::zJ0 l∧zE5 l 0=false):=by
  cases l with
  | nil=>exact .inr ⟨rfl,rfl⟩
  | cons r l=>
   have hr:=h.head;unfold zB8 at hr;have e:zJ0 (r::l)=r.Lo::((if r.Hi < 1114111 then [r.Hi+1] else [])++zJ0 l):=by simp [zJ0]
   rw [e];by_cases hx:0 < r.Lo;refine .inr ⟨by unfold plE;rw [if_pos (by omega),if_pos hx],?_⟩
   unfold zE5;rw [List.any_eq_false];intro q hq;simp only [Bool.and_eq_true,decide_eq_true_eq];rcases List.mem_cons.1 hq with rfl | hq
   omega;have:=h.gap q hq;omega;exact .inl (by unfold plE;rw [if_pos (by omega),if_neg hx])
 rcases h0 with h0 | ⟨h0,h1⟩;rw [h0,hw,List.reverse_reverse];rw [h0];unfold coF;rw [if_neg (by rw [h1];simp),hw,List.reverse_reverse]
theorem z6C (l:List Range):Can (coF (zE5 l) (plE 0 (plE 0 (cuE l []))) false []).reverse:=by have hg:Gd (plE 0 (plE 0 (cuE l []))):=zOP (by omega) (zOP (by omega) (zWE l ⟨.nil,fun x hx=>by cases hx⟩));have:=zQI (has:=zE5 l) _ false [] hg trivial (fun h=>by cases h) (fun _ c q _ hq=>by cases hq) (fun h=>by cases h);have h2:=zV0 _ [] this trivial (fun _ _ _ h=>by cases h);simpa using h2
theorem yEB {a b:Set} (ha:a.Ranges.length≤2000):zG1 a b=some (decide (a.Ranges=b.Ranges)):=by
 unfold zG1;by_cases hl:a.Ranges.length=b.Ranges.length;have e:(!decide ((a.Ranges.length:Int)=(b.Ranges.length:Int)))=false:=by simp [hl]
 rw [e,cond_false];have h:=jA (body:=fun (x:Int)=>zCK a b x) a.Ranges.length (fun k=>nth a.Ranges k=nth b.Ranges k) (fun y=>y=false) (fun k hk=>by
  simp only [zCK,kK hk,cond_true,z3 hk,z3 (show k < b.Ranges.length by omega),zA,zP (k:=k) (by omega)];exact u7 (by simp) rfl) (fun k hk=>by simp only [zCK,kW hk,cond_false])
 have he:(∀j,j < a.Ranges.length→nth a.Ranges j=nth b.Ranges j)↔a.Ranges=b.Ranges:=by
  constructor;intro h;refine List.ext_getElem hl fun i h1 h2=>?_;have:=h i h1
  rwa [zBX h1,zBX h2] at this
  intro h j _;rw [h]
 rw [he] at h;rcases h with ⟨h,p⟩ | ⟨y,rfl,h,p⟩
 rw [h];simp [p];rw [h];simp [p];have e:(!decide ((a.Ranges.length:Int)=(b.Ranges.length:Int)))=true:=by simp;omega
 rw [e,cond_true];have:a.Ranges≠b.Ranges:=fun h=>hl (by rw [h]);simp [this]
theorem yHY {s:Set} (hl:s.Ranges.length≤12):∃b,zFO s=some b∧(b=true↔Can s.Ranges):=by unfold zFO;rw [yAA hl,zA,yEB (by omega),zA];refine ⟨_,rfl,?_⟩;simp only [decide_eq_true_eq];constructor;intro h;rw [h];exact z6C _;intro h;rw [yAE h]
end Go.M
namespace Go.M
open Go.AV
theorem zWG {l:List Mapping} (hl:l.length≤2000) (c:Int) (b:Bool):zC1 l c b=some (fiI l c b):=by
 unfold zC1;have h:zG (fun (x:Int)=>zCL l c b x) 0=some (toS (chk (fun k m=>(pM c b k m).map fun (i:Nat)=>(i:Int)) l 0)):=by
  refine uF l _ (fun k hk=>?_) (fun k hk=>?_);simp only [zCL,kK hk,cond_true,zW hk,zA,zS,zP (k:=k) (by omega),pM];by_cases h1:l[k].From=c;cases b with
  | true=>simp [h1,zA5,stp]
  | false=>
   cases ht:(l[k].Tag== []) with
   | true=>simp only [h1,decide_true,Bool.not_false,Bool.and_self,w9,zA,Bool.false_or,ht,Bool.true_and,cond_true,and_self,if_true,Option.map_some,stp]
   | false=>simp only [h1,decide_true,Bool.not_false,Bool.and_self,w9,zA,Bool.false_or,ht,Bool.true_and,cond_false,Bool.false_eq_true,and_false,if_false,Option.map_none,stp]
  simp [h1,zA5,stp];simp only [zCL,kW hk,cond_false]
 rw [h,zA,uM];have e:∀(L:List Mapping) (k:Nat),chk (fun k m=>(pM c b k m).map fun (i:Nat)=>(i:Int)) L k=(chk (pM c b) L k).map fun (i:Nat)=>(i:Int):=by
  intro L
  induction L with
  | nil=>intro k;rfl
  | cons x L ih=>
   intro k;unfold chk;cases pM c b k x with
   | none=>exact ih (k+1)
   | some y=>rfl
 rw [e];unfold fiI fi;cases chk (pM c b) l 0 <;> rfl
theorem yAF (c:Int):zEV c=some (hkE c):=by
 unfold zEV hkE;simp only [zS];by_cases h1:4352≤c∧c < 4371;rw [if_pos h1];have:(decide (4352≤c)&&decide (c≤4370))=true:=by simp;omega
 rw [this];rfl;rw [if_neg h1];have e1:(decide (4352≤c)&&decide (c≤4370))=false:=by simp only [Bool.and_eq_false_iff,decide_eq_false_iff_not];omega
 rw [e1,cond_false];by_cases h2:4449≤c∧c < 4470;rw [if_pos h2];have:(decide (4449≤c)&&decide (c≤4469))=true:=by simp;omega
 rw [this];rfl;rw [if_neg h2];have e2:(decide (4449≤c)&&decide (c≤4469))=false:=by simp only [Bool.and_eq_false_iff,decide_eq_false_iff_not];omega
 rw [e2,cond_false];by_cases h3:4520≤c∧c < 4547;rw [if_pos h3];have:(decide (4520≤c)&&decide (c≤4546))=true:=by simp;omega
 rw [this];rfl;rw [if_neg h3];have e3:(decide (4520≤c)&&decide (c≤4546))=false:=by simp only [Bool.and_eq_false_iff,decide_eq_false_iff_not];omega
 rw [e3,cond_false];by_cases h4:c < 44032∨55204≤c;rw [if_pos h4];have:(decide (44032≤c)&&decide (c≤55203))=false:=by simp only [Bool.and_eq_false_iff,decide_eq_false_iff_not];omega
 rw [this];rfl;rw [if_neg h4];have e4:(decide (44032≤c)&&decide (c≤55203))=true:=by simp;omega
 rw [e4,cond_true,xT (n:=c - 44032) (by omega) (by omega)];have er:zII (c - 44032) 28=some ((c - 44032) % 28):=by
  unfold zII;rw [if_neg (by decide),Int.tmod_eq_emod_of_nonneg (by omega)]
 rw [er,zA];by_cases h5:(c - 44032) % 28=0 <;> simp [h5]
theorem yFN (c:Int):zAM c=some (hdE c):=by
 unfold zAM;rw [yAF,zA];cases hs:syl c with
 | false=>
  have:decide (hkE c < 4)=true:=by
   simp only [decide_eq_true_eq];have:¬4≤hkE c:=fun h=>by have:=(zGJ c).2 h;rw [hs] at this;cases this
   omega
  rw [this,cond_true];unfold hdE;rw [if_neg (by simp [hs])]
 | true=>
  have h4:=(zGJ c).1 hs;have:decide (hkE c < 4)=false:=by simp only [decide_eq_false_iff_not];omega
  rw [this,cond_false];have hr:44032≤c∧c≤55203:=by unfold syl at hs;simpa using hs
  rw [xT (n:=c - 44032) (by omega) (by omega)];have d1:zLZ wi (c - 44032) 28=some ((c - 44032) / 28):=by
   unfold zLZ;rw [if_neg (by decide),Int.tdiv_eq_ediv_of_nonneg (by omega),xT (by omega) (by omega)]
  have d2:zLZ wi ((c - 44032) / 28) 21=some ((c - 44032) / 28 / 21):=by
   unfold zLZ;rw [if_neg (by decide),Int.tdiv_eq_ediv_of_nonneg (by omega),xT (by omega) (by omega)]
  have d3:zII ((c - 44032) / 28) 21=some ((c - 44032) / 28 % 21):=by
   unfold zII;rw [if_neg (by decide),Int.tmod_eq_emod_of_nonneg (by omega)]
  have d4:zII (c - 44032) 28=some ((c - 44032) % 28):=by
   unfold zII;rw [if_neg (by decide),Int.tmod_eq_emod_of_nonneg (by omega)]
  simp only [d1,d2,d3,d4,zA];unfold hdE;rw [if_pos hs,xT (n:=4352+(c - 44032) / 28 / 21) (by omega) (by omega),xT (n:=4449+(c - 44032) / 28 % 21) (by omega) (by omega)];by_cases h0:0 < (c - 44032) % 28;rw [if_pos h0,xT (n:=4520+(c - 44032) % 28) (by omega) (by omega),xT (n:=4520+(c - 44032) % 28 - 1) (by omega) (by omega)];simp only [h0,decide_true,cond_true];rw [zAD (by simp)];rfl;rw [if_neg h0];simp only [h0,decide_false,cond_false];rfl
section
variable {l:List Mapping} (hl:l.length≤2000) (hto:∀m∈l,m.To.length≤2000)
include hl hto
theorem yEC {out:List Bool} (ho:out.length=l.length) {i:Nat} (hi:i < l.length):∀(d k:Nat) (b:Bool),(nth l i).To.length - k=d→k≤(nth l i).To.length→
  zG (fun (x:Bool×Int)=>vC l (i:Int) out x.1 x.2) (b,(k:Int))=some (b&&((nth l i).To.drop k).all fun e=>match fi l e true with | some m=>nth out m | none=>true):=by
 have hlen:=hto _ (wL hi);intro d
 induction d with
 | zero=>
  intro k b h1 h2;rw [List.drop_of_length_le (show (nth l i).To.length≤k by omega)];refine zM ?_;simp only [vC,z3 hi,zA,kW (show (nth l i).To.length≤k by omega),cond_false,List.all_nil,Bool.and_true]
 | succ d ih=>
  intro k b h1 h2;have hk:k < (nth l i).To.length:=by omega
  have hb:vC l (i:Int) out b (k:Int)=some (.next (b&&(match fi l (nth l i).To[k] true with | some m=>nth out m | none=>true),((k+1:Nat):Int))):=by
   simp only [vC,z3 hi,zA,kK hk,cond_true,zW hk,zWG hl,zS,zP (k:=k) (by omega)];unfold fiI;cases hf:fi l (nth l i).To[k] true with
   | none=>simp [zA5]
   | some m=>
    obtain ⟨h3,_,_⟩:=zH3 hf;have e:decide (((m:Nat):Int) < 0)=false:=by simp
    simp only [e,Bool.not_false,Bool.and_true,Bool.false_or];cases b with
    | false=>simp [zA5]
    | true=>simp only [w9,z3 (show m < out.length by omega),zA,Bool.true_and]
  rw [zU (body:=fun (x:Bool×Int)=>vC l (i:Int) out x.1 x.2) (x:=(b,(k:Int))) hb,ih (k+1) _ (by omega) (by omega),List.drop_eq_getElem_cons hk,List.all_cons,Bool.and_assoc]
theorem yED:zG2 l=some (zHG (zMB l) l.length l.length (List.replicate l.length false)):=by
 unfold zG2;rw [zOG (by omega),zA];have h1:∀(out:List Bool),out.length=l.length→zG (fun (x:Int×(List Bool))=>zA2 l x.1 x.2) (0,out)=some (zNQ (zMB l) l.length 0 out):=fun out ho=>
  zNR (upd:=zMB l) (n:=l.length) (Inv:=fun _=>True) (body:=fun (x:Int×(List Bool))=>zA2 l x.1 x.2) (fun i out=>((i:Int),out)) id (fun i out hi ho _=>by
   have:=yEC hl hto ho hi _ 0 true rfl (by omega);rw [List.drop_zero,Bool.true_and] at this;have h':zG (fun (x:Bool×Int)=>vC l (i:Int) out x.1 x.2) (true,0)=some (zMB l out i):=this;simp only [zA2,kK hi,cond_true,h',zA,z3 (show i < out.length by omega),zDX (show i < out.length by omega),zP (k:=i) (by omega)]) (fun _ _ _ _ _=>trivial) (fun out=>by simp only [zA2,kW (Nat.le_refl _),cond_false];rfl) l.length 0 out (by omega) ho trivial
 have h2:=zNS (upd:=zMB l) (n:=l.length) (Inv:=fun _=>True) (body:=fun (x:Int×(List Bool))=>zA3 l x.1 x.2) (fun i out=>((i:Int),out)) id (N:=l.length) (fun r out hr ho _=>by
  simp only [zA3,kK hr,cond_true,h1 out ho,zA,zP (k:=r) (by omega)]) (fun _ _ _ _ _=>trivial) (fun out=>by simp only [zA3,kW (Nat.le_refl _),cond_false];rfl) l.length 0 (List.replicate l.length false) (by omega) (by simp) trivial
 have h3:zG (fun (x:Int×(List Bool))=>zA3 l x.1 x.2) (0,List.replicate l.length false)=some (zHG (zMB l) l.length l.length (List.replicate l.length false)):=h2;rw [h3];rfl
theorem yEE {b:Bool} {out:List Int} (ho:out.length=l.length) (hv:zWB out) {i:Nat} (hi:i < l.length):∀(d k:Nat) (n:Int),(nth l i).To.length - k=d→k≤(nth l i).To.length→0≤n→n≤100*(k:Int)→
  zG (fun (x:Int×Int)=>xH l (i:Int) b out x.1 x.2) (n,(k:Int))=some (n+(((nth l i).To.drop k).map (lenOf l b out)).sum):=by
 have hlen:=hto _ (wL hi);intro d
 induction d with
 | zero=>
  intro k n h1 h2 h3 h4;rw [List.drop_of_length_le (show (nth l i).To.length≤k by omega)];refine zM ?_;simp only [xH,z3 hi,zA,kW (show (nth l i).To.length≤k by omega),cond_false,List.map_nil,List.sum_nil,Int.add_zero]
 | succ d ih=>
  intro k n h1 h2 h3 h4;have hk:k < (nth l i).To.length:=by omega
  have hbd:0≤lenOf l b out (nth l i).To[k]∧lenOf l b out (nth l i).To[k]≤65:=by
   unfold lenOf;cases hf:fi l (nth l i).To[k] b with
   | none=>have:=zL9 (nth l i).To[k];simp only [];omega
   | some m=>obtain ⟨h3,_,_⟩:=zH3 hf;exact hv _ (wL (by omega))
  have hb:xH l (i:Int) b out n (k:Int)=some (.next (n+lenOf l b out (nth l i).To[k],((k+1:Nat):Int))):=by
   have hw:wi (n+lenOf l b out (nth l i).To[k])=n+lenOf l b out (nth l i).To[k]:=xT (by omega) (by omega);simp only [xH,z3 hi,zA,kK hk,cond_true,zW hk,zWG hl,zP (k:=k) (by omega),yFN];rw [←hw];unfold lenOf fiI;cases hf:fi l (nth l i).To[k] b with
   | none=>rfl
   | some m=>
    obtain ⟨h3,_,_⟩:=zH3 hf;have e:decide (0≤((m:Nat):Int))=true:=by simp
    simp only [e,cond_true,z3 (show m < out.length by omega),zA]
  rw [zU (body:=fun (x:Int×Int)=>xH l (i:Int) b out x.1 x.2) (x:=(n,(k:Int))) hb,ih (k+1) _ (by omega) (by omega) (by omega) (by omega),List.drop_eq_getElem_cons hk,List.map_cons,List.sum_cons,Int.add_assoc]
theorem z3Y (b:Bool):zCM l b=some (zHG (updL l b) l.length l.length (List.replicate l.length 0)):=by
 unfold zCM;rw [zOG (by omega),zA];have h0:zWB (List.replicate l.length 0):=fun x hx=>by rw [(List.mem_replicate.1 hx).2];omega
 have h1:∀(out:List Int),out.length=l.length→zWB out→zG (fun (x:Int×(List Int))=>w7 l b x.1 x.2) (0,out)=some (zNQ (updL l b) l.length 0 out):=fun out ho hv=>
  zNR (upd:=updL l b) (n:=l.length) (Inv:=zWB) (body:=fun (x:Int×(List Int))=>w7 l b x.1 x.2) (fun i out=>((i:Int),out)) id (fun i out hi ho hv=>by
   have:=yEE hl hto (b:=b) ho hv hi _ 0 0 rfl (by omega) (by omega) (by omega);rw [List.drop_zero,Int.zero_add] at this;have h':zG (fun (x:Int×Int)=>xH l (i:Int) b out x.1 x.2) (0,0)=some (((nth l i).To.map (lenOf l b out)).sum):=this;simp only [w7,kK hi,cond_true,h',zA,z3 (show i < out.length by omega),zDX (show i < out.length by omega),z3 hi,zS,zP (k:=i) (by omega)];unfold updL;cases b with
   | true=>simp
   | false=>
    cases ht:((nth l i).Tag== []) with
    | true=>simp
    | false=>simp [z3 (show i < (out.set i (min (max (List.map (lenOf l false out) (nth l i).To).sum 1) 65)).length by simp;omega),zDX (show i < (out.set i (min (max (List.map (lenOf l false out) (nth l i).To).sum 1) 65)).length by simp;omega)]) zON (fun out=>by simp only [w7,kW (Nat.le_refl _),cond_false];rfl) l.length 0 out (by omega) ho hv
 have h2:=zNS (upd:=updL l b) (n:=l.length) (Inv:=zWB) (body:=fun (x:Int×(List Int))=>w8 l b x.1 x.2) (fun i out=>((i:Int),out)) id (N:=l.length) (fun r out hr ho hv=>by
  simp only [w8,kK hr,cond_true,h1 out ho hv,zA,zP (k:=r) (by omega)]) zON (fun out=>by simp only [w8,kW (Nat.le_refl _),cond_false];rfl) l.length 0 (List.replicate l.length 0) (by omega) (by simp) h0
 have h3:zG (fun (x:Int×(List Int))=>w8 l b x.1 x.2) (0,List.replicate l.length 0)=some (zHG (updL l b) l.length l.length (List.replicate l.length 0)):=h2;rw [h3];rfl
end
end Go.M
namespace Go.M
open Go.AV
theorem zQJ {β:Type} [Inhabited β] {upd:List β→Nat→β} {n k:Nat} {out:List β} (h:out.length=n):(zHG upd n k out).length=n:=
 (zV9 (upd:=upd) (n:=n) (Inv:=fun _=>True) (fun _ _ _ _ _=>trivial) k out h trivial).2
theorem zZN {l:List Mapping} (h:∀k,k+1 < l.length→(nth l k).From < (nth l (k+1)).From):∀(d i:Nat),i+d+1 < l.length→(nth l i).From < (nth l (i+d+1)).From
 | 0,i,hi=>h i hi
 | d+1,i,hi=>by
  have h1:=zZN h d i (by omega);have h3:=h (i+d+1) (by omega);have:i+(d+1)+1=i+d+1+1:=by omega
  rw [this];omega
theorem z6D {l:List Mapping} (hlt:∀k,k+1 < l.length→mlt (nth l k) (nth l (k+1))):(∀k,k < l.length→¬fiI l (nth l k).From true < (k:Int))↔∀k,k+1 < l.length→(nth l (k+1)).From≠(nth l k).From:=by
 constructor;intro h k hk e;have hk':k < l.length:=by omega
 have hp:pM (nth l (k+1)).From true (0+k) l[k]≠none:=by
  unfold pM;rw [if_pos ⟨by rw [e,zBX hk'],rfl⟩];simp
 obtain ⟨i,hi,hik,hc⟩:=zUJ (p:=pM (nth l (k+1)).From true) (l:=l) (k:=0) hk' hp;have hfi:fi l (nth l (k+1)).From true=some i:=by
  unfold fi;rw [hc];unfold pM;split;simp;rename_i hn;exfalso;have:chk (pM (nth l (k+1)).From true) l 0=none:=by rw [hc];unfold pM;rw [if_neg hn]
  exact hp (zKQ this k hk')
 refine h (k+1) hk ?_;unfold fiI;rw [hfi];simp only [];omega;intro h k hk hlt';have hs:∀k,k+1 < l.length→(nth l k).From < (nth l (k+1)).From:=fun k hk=>by
  have a:=hlt k hk;have b:=h k hk;unfold mlt at a;omega
 unfold fiI at hlt';cases hf:fi l (nth l k).From true with
 | none=>exact absurd ⟨rfl,rfl⟩ (z3P hf _ (wL hk))
 | some i=>
  rw [hf] at hlt';simp only [] at hlt';obtain ⟨h1,h2,_⟩:=zH3 hf;have:=zZN hs (k - i - 1) i (by omega);rw [show i+(k - i - 1)+1=k by omega] at this;omega
theorem yHZ {n:Norm} (hs:NSm n) (hok:wS n):Ver (zFP n) (VD0 n):=by
 obtain ⟨e1,he1,p1⟩:=z92 (l:=n.Classes) (by have:=hs.cl;omega)
 obtain ⟨e2,he2,p2⟩:=yHU (l:=n.Decomp) (by have:=hs.de;omega) (fun m hm=>by have:=hs.to m hm;omega) (fun m hm=>by have:=hs.tg m hm;unfold MX;omega)
 obtain ⟨e3,he3,p3⟩:=yHY (s:=n.Excluded) hs.ex;have hde:=hs.de;have hl:n.Decomp.length≤2000:=by omega
 have hto:∀m∈n.Decomp,m.To.length≤2000:=fun m hm=>by have:=hs.to m hm;omega
 unfold zFP;rw [he1,zA];by_cases h1:e1=0
 case neg=>
  have:(!decide (e1=0))=true:=by simp [h1]
  rw [this,cond_true];exact ⟨e1,rfl,by simp only [h1,false_iff];exact fun h=>h1 (p1.2 h.cv)⟩
 rw [h1];simp only [decide_true,Bool.not_true,cond_false];have cv:=p1.1 h1;rw [he2,zA];by_cases h2:e2=0
 case neg=>
  have:(!decide (e2=0))=true:=by simp [h2]
  rw [this,cond_true];exact ⟨e2,rfl,by simp only [h2,false_iff];exact fun h=>h2 (p2.2 h.mv)⟩
 rw [h2];simp only [decide_true,Bool.not_true,cond_false];have mv:=p2.1 h2;rw [he3,zA];cases e3 with
 | false=>exact ⟨11,rfl,by simp only [show ((11:Int)=0)=False by simp,false_iff];exact fun h=>by have:=p3.2 h.ca;cases this⟩
 | true=>
 have ca:=p3.1 rfl;simp only [Bool.not_true,cond_false];have l0:=jA (body:=fun (x:Int)=>zBR n x) n.Decomp.length (fun k=> ¬fiI n.Decomp (nth n.Decomp k).From true < (k:Int)) (fun y=>y≠0) (fun k hk=>by
  simp only [zBR,kK hk,cond_true,z3 hk,zA,zWG hl,zP (k:=k) (by omega)];exact u7 (by simp) (by decide)) (fun k hk=>by simp only [zBR,kW hk,cond_false])
 rw [z6D mv.lt] at l0;rcases l0 with ⟨l0,ne⟩ | ⟨y,hy,l0,ne⟩
 case inr=>rw [l0];exact ⟨y,rfl,by simp only [hy,false_iff];exact fun h=>ne h.ne⟩
 rw [l0];simp only [zA,Sum.elim_inl];have hbt:∀m:Mapping,(m.Tag== [])=decide (m.Tag= []):=fun m=>by cases m.Tag <;> rfl
 have l1:=jA (body:=fun (x:Int)=>zBS n x) n.Decomp.length (fun k=>(nth n.Decomp k).Tag= []→(nth n.Decomp k).To.length=1∨(nth n.Decomp k).To.length=2) (fun y=>y≠0) (fun k hk=>by
  simp only [zBS,kK hk,cond_true,z3 hk,zA,zS,zP (k:=k) (by omega),hbt];by_cases ht:(nth n.Decomp k).Tag= []
  ·
   simp only [ht,decide_true,w9,zA,Bool.true_and,true_implies];by_cases h5:((nth n.Decomp k).To.length:Int)=1
   ·
    simp only [h5,decide_true,Bool.not_true,zA5,zA,Bool.false_and,cond_false];exact .inl ⟨.inl (by omega),trivial⟩
   ·
    simp only [h5,decide_false,Bool.not_false,w9,zA,Bool.true_and];exact u7 (by simp only [Bool.not_eq_true',decide_eq_false_iff_not];omega) (by decide)
  ·
   simp only [ht,decide_false,zA5,zA,Bool.false_and,cond_false,false_implies];exact .inl ⟨trivial,trivial⟩) (fun k hk=>by simp only [zBS,kW hk,cond_false])
 rw [zB7 (p:=fun m:Mapping=>m.Tag= []→m.To.length=1∨m.To.length=2)] at l1;rcases l1 with ⟨l1,kd⟩ | ⟨y,hy,l1,kd⟩
 case inr=>rw [l1];exact ⟨y,rfl,by simp only [hy,false_iff];exact fun h=>kd h.kd⟩
 rw [l1];simp only [zA,Sum.elim_inl];have l2:=jA (body:=fun (x:Int)=>zBT n x) n.Decomp.length (fun k=>hkE (nth n.Decomp k).From=0∧((nth n.Decomp k).Tag≠[]→clE n.Classes (nth n.Decomp k).From=0)) (fun y=>y≠0) (fun k hk=>by
  simp only [zBT,kK hk,cond_true,z3 hk,zA,zS,yAF,zP (k:=k) (by omega),hbt];by_cases h5:hkE (nth n.Decomp k).From=0
  ·
   simp only [h5,decide_true,Bool.not_true,Bool.not_false,w9,zA,Bool.true_and,Bool.false_or,true_and];by_cases ht:(nth n.Decomp k).Tag= []
   ·
    simp only [ht,decide_true,Bool.not_true,zA5,zA,Bool.false_and,cond_false];exact .inl ⟨fun h=>absurd rfl h,trivial⟩
   ·
    simp only [ht,decide_false,Bool.not_false,w9,zA,Bool.true_and,zNP (show n.Classes.length≤2000 by have:=hs.cl;omega) cv]
    exact u7 (by simp [ht]) (by decide)
  ·
   have:(!decide (hkE (nth n.Decomp k).From=0))=true:=by simp [h5]
   simp only [this,Bool.not_true,zA5,zA,Bool.false_and,Bool.true_or,cond_true];exact .inr ⟨fun h=>h5 h.1,11,by decide,rfl⟩) (fun k hk=>by simp only [zBT,kW hk,cond_false])
 rw [zB7 (p:=fun m:Mapping=>hkE m.From=0∧(m.Tag≠[]→clE n.Classes m.From=0))] at l2;rcases l2 with ⟨l2,hk⟩ | ⟨y,hy,l2,hk⟩
 case inr=>rw [l2];exact ⟨y,rfl,by simp only [hy,false_iff];exact fun h=>hk fun m hm=>⟨h.hk m hm,h.tc m hm⟩⟩
 rw [l2];simp only [zA,Sum.elim_inl];have hds:DS n.Decomp:=⟨fun k hk'=>by
  have a:=mv.lt k hk';have b:=ne k hk';unfold mlt at a;omega,fun m hm=>(hk m hm).1,fun m hm=>by have:=mv.sz m hm;omega⟩
 have hms:=z9O hds (by omega);rw [yED hl hto,zA];have l3:=jA (body:=fun (x:Int)=>zBU n (zHG (zMB n.Decomp) n.Decomp.length n.Decomp.length (List.replicate n.Decomp.length false)) x) n.Decomp.length (fun k=>nth (zHG (zMB n.Decomp) n.Decomp.length n.Decomp.length (List.replicate n.Decomp.length false)) k=true) (fun y=>y≠0) (fun k hk=>by
  simp only [zBU,kK hk,cond_true,z3 (show k < (zHG (zMB n.Decomp) n.Decomp.length n.Decomp.length (List.replicate n.Decomp.length false)).length by rw [zQJ (by simp)];exact hk),zA,zP (k:=k) (by omega)]
  exact u7 (by simp) (by decide)) (fun k hk=>by simp only [zBU,kW hk,cond_false])
 rw [z96 hds] at l3;rcases l3 with ⟨l3,H⟩ | ⟨y,hy,l3,H⟩
 case inr=>rw [l3];exact ⟨y,rfl,by simp only [hy,false_iff];exact fun h=>H (hms.1 h.ms).1⟩
 rw [l3];simp only [zA,Sum.elim_inl];have hD:=zRS hds H;rw [z3Y hl hto false,zA,z3Y hl hto true,zA];have l4:=jA (body:=fun (x:Int)=>zBV n (zHG (updL n.Decomp false) n.Decomp.length n.Decomp.length (List.replicate n.Decomp.length 0)) (zHG (updL n.Decomp true) n.Decomp.length n.Decomp.length (List.replicate n.Decomp.length 0)) x) n.Decomp.length (fun k=>wt n.Decomp true (nth n.Decomp k).From≤64) (fun y=>y≠0) (fun k hk=>by
  have hmo:wt n.Decomp false (nth n.Decomp k).From≤wt n.Decomp true (nth n.Decomp k).From:=z3B hds _ _;simp only [zBV,kK hk,cond_true,z3 (show k < (zHG (updL n.Decomp false) n.Decomp.length n.Decomp.length (List.replicate n.Decomp.length 0)).length by rw [zQJ (by simp)];exact hk),z3 (show k < (zHG (updL n.Decomp true) n.Decomp.length n.Decomp.length (List.replicate n.Decomp.length 0)).length by rw [zQJ (by simp)];exact hk),zA,zS,z3Q hds hD (b:=false) k hk,z3Q hds hD (b:=true) k hk,zP (k:=k) (by omega)]
  by_cases h6:64 < wt n.Decomp false (nth n.Decomp k).From
  ·
   simp only [h6,decide_true,Bool.not_true,zA5,zA,Bool.true_or,cond_true];exact .inr ⟨by omega,13,by decide,rfl⟩
  ·
   simp only [h6,decide_false,Bool.not_false,w9,zA,Bool.false_or];exact u7 (by simp) (by decide)) (fun k hk=>by simp only [zBV,kW hk,cond_false])
 rw [zB7 (p:=fun m:Mapping=>wt n.Decomp true m.From≤64)] at l4;rcases l4 with ⟨l4,W⟩ | ⟨y,hy,l4,W⟩
 ·
  rw [l4];exact ⟨0,rfl,by simp only [true_iff];exact ⟨cv,mv,ca,ne,kd,fun m hm=>(hk m hm).1,fun m hm=>(hk m hm).2,hms.2 ⟨H,W⟩⟩⟩
 · rw [l4];exact ⟨y,rfl,by simp only [hy,false_iff];exact fun h=>W (hms.1 h.ms).2⟩
theorem yH0 {n:Norm} (hs:NSm n) (hok:wS n):zG3 n=some (usN n):=by obtain ⟨e,he,hv⟩:=yHZ hs hok;unfold zG3 usN;rw [he,zA];by_cases hz:e=0;rw [if_pos (hv.1 hz)];simp [hz];rw [if_neg (fun h=>hz (hv.2 h))];simp [hz]
end Go.M
namespace Go.M
open Go.AV
theorem z3Z {l:List Mapping} (hl:l.length≤2000) {b:Bool} {lists:List (List Int)} (hn:lists.length=l.length) (hb:∀e,(zFX l b lists e).length≤64) {text:List Int} (ht:text.length≤2000):vP l lists text b=some (text.flatMap (zFX l b lists)):=by
 have key:∀(d k:Nat) (out:List Int),text.length - k=d→k≤text.length→out.length≤64*k→zG (fun (x:Int×(List Int))=>jG text l b lists x.1 x.2) ((k:Int),out)=some (out++(text.drop k).flatMap (zFX l b lists)):=by
  intro d
  induction d with
  | zero=>
   intro k out h1 h2 h3;rw [List.drop_of_length_le (show text.length≤k by omega)];refine zM ?_;simp only [jG,kW (show text.length≤k by omega),cond_false,List.flatMap_nil,List.append_nil]
  | succ d ih=>
   intro k out h1 h2 h3;have hk:k < text.length:=by omega
   have hbd:=hb text[k];have hb0:jG text l b lists (k:Int) out=some (.next (((k+1:Nat):Int),out++zFX l b lists text[k])):=by
    have ha:app out (zFX l b lists text[k])=some (out++zFX l b lists text[k]):=zAD (by omega);simp only [jG,kK hk,cond_true,zW hk,zA,zWG hl,zP (k:=k) (by omega),yFN];unfold zFX at ha ⊢;unfold fiI;cases hf:fi l text[k] b with
    | none=>
     rw [hf] at ha;simp only [] at ha;simp only [show decide ((0:Int)≤ -1)=false by decide,cond_false,ha,zA]
    | some m=>
     rw [hf] at ha;simp only [] at ha;obtain ⟨h4,_,_⟩:=zH3 hf;have e:decide (0≤((m:Nat):Int))=true:=by simp
     simp only [e,cond_true,z3 (show m < lists.length by omega),zA,ha]
   rw [zU (body:=fun (x:Int×(List Int))=>jG text l b lists x.1 x.2) (x:=((k:Int),out)) hb0,ih (k+1) _ (by omega) (by omega) (by rw [List.length_append];omega),List.drop_eq_getElem_cons hk,List.flatMap_cons,List.append_assoc]
 unfold vP;have h:=key text.length 0 [] (by omega) (by omega) (by simp);rw [List.drop_zero,List.nil_append] at h;have h':zG (fun (x:Int×(List Int))=>jG text l b lists x.1 x.2) (0,[])=some (text.flatMap (zFX l b lists)):=h;rw [h'];rfl
theorem yH1 {n:Norm} (h:GN n) (b:Bool):zFQ n.Decomp b=some (zZM n.Decomp b):=by
 have hl:n.Decomp.length≤2000:=by have:=h.de;omega
 have hbd:∀{out:List (List Int)},zS3 n.Decomp b out→∀e,(zFX n.Decomp b out e).length≤64:=fun hv e=>Nat.le_trans (z3S h.ds h.dd hv e) (h.len b e);unfold zFQ;rw [zOG (by omega),zA];have h1:∀(out:List (List Int)),out.length=n.Decomp.length→zS3 n.Decomp b out→zG (fun (x:Int×(List (List Int)))=>u5 n.Decomp b x.1 x.2) (0,out)=some (zNQ (zRY n.Decomp b) n.Decomp.length 0 out):=fun out ho hv=>
  zNR (upd:=zRY n.Decomp b) (n:=n.Decomp.length) (Inv:=zS3 n.Decomp b) (body:=fun (x:Int×(List (List Int)))=>u5 n.Decomp b x.1 x.2) (fun i out=>((i:Int),out)) id (fun i out hi ho hv=>by
   have hr:=z3Z hl (b:=b) ho (hbd hv) (text:=(nth n.Decomp i).To) (h.ds.len _ (wL hi));simp only [u5,kK hi,cond_true,zS,z3 hi,z3 (show i < out.length by omega),zA,hr,zDX (show i < out.length by omega),zP (k:=i) (by omega)];unfold zRY;cases b with
   | true=>simp [zA5]
   | false=>
    simp only [Bool.not_false,w9,zA,Bool.false_or];cases ht:((nth n.Decomp i).Tag== []) with
    | true=>simp
    | false=>simp [yD1 (show i < out.length by omega)]) (zOO h.ds h.dd) (fun out=>by simp only [u5,kW (Nat.le_refl _),cond_false];rfl) n.Decomp.length 0 out (by omega) ho hv
 have h2:=zNS (upd:=zRY n.Decomp b) (n:=n.Decomp.length) (Inv:=zS3 n.Decomp b) (body:=fun (x:Int×(List (List Int)))=>u6 n.Decomp b x.1 x.2) (fun i out=>((i:Int),out)) id (N:=n.Decomp.length) (fun r out hr ho hv=>by
  simp only [u6,kK hr,cond_true,h1 out ho hv,zA,zP (k:=r) (by omega)]) (zOO h.ds h.dd) (fun out=>by simp only [u6,kW (Nat.le_refl _),cond_false];rfl) n.Decomp.length 0 (List.replicate n.Decomp.length []) (by omega) (by simp) yFL
 have h3:zG (fun (x:Int×(List (List Int)))=>u6 n.Decomp b x.1 x.2) (0,List.replicate n.Decomp.length [])=some (zZM n.Decomp b):=h2;rw [h3];rfl
theorem yEF {n:Norm} (h:GN n) (b:Bool) {text:List Int} (ht:text.length≤2000):zG4 n text b=some (text.flatMap (fu n.Decomp b)):=by
 have hl:n.Decomp.length≤2000:=by have:=h.de;omega
 unfold zG4;have e:∀c,zFX n.Decomp b (zZM n.Decomp b) c=fu n.Decomp b c:=yD9 h.ds h.dd;rw [yH1 h,zA,z3Z (lists:=zZM n.Decomp b) hl (zQJ (by simp)) (fun c=>by rw [e];exact h.len b c) ht,zA,show zFX n.Decomp b (zZM n.Decomp b)=fu n.Decomp b from funext e]
section
variable {l:List Span} (hcv:CV l) (hl:l.length≤2000)
include hcv hl
theorem sIn {text:List Int} {v:Nat} (hv:v < text.length):∀(r s:List Int),r.length≤2000→zG (fun (q:Int×(List Int))=>uQ (clE l text[v]) l text (v:Int) q.1 q.2) ((r.length:Int),r.reverse++text[v]::s)=some (vT (ltC (clE l)) r text[v] s)
  | [],s,_=>by
    refine zM ?_;simp [uQ,zS,zA5,zA,vT]
  | y::r,s,hr=>by
    simp only [List.length_cons] at hr;have e0:decide ((0:Int) < ((r.length+1:Nat):Int))=true:=by simp only [decide_eq_true_eq];omega
    have e1:(y::r).reverse++text[v]::s=r.reverse++y::text[v]::s:=by simp
    have i1:yH (r.reverse++y::text[v]::s) (r.length:Int)=some y:=wG (by simp);have i2:yH (r.reverse++y::text[v]::s) ((r.length+1:Nat):Int)=some text[v]:=by
      have:=wG (p:=r.reverse++ [y]) (s:=s) (x:=text[v]) (k:=r.length+1) (by simp);simpa using this
    have s1:vS (r.reverse++y::text[v]::s) ((r.length+1:Nat):Int) y=some (r.reverse++y::y::s):=by
      have:=uN (p:=r.reverse++ [y]) (s:=s) (x:=text[v]) (y:=y) (k:=r.length+1) (by simp);simpa using this
    have i3:yH (r.reverse++y::y::s) (r.length:Int)=some y:=wG (by simp);have s2:vS (r.reverse++y::y::s) (r.length:Int) text[v]=some (r.reverse++text[v]::y::s):=uN (by simp);rw [e1];show zG _ (((r.length+1:Nat):Int),_)=_;by_cases h0:0 < clE l text[v]
    · by_cases hlt:clE l text[v] < clE l y
      · rw [zU (x':=((r.length:Int),r.reverse++text[v]::(y::s))) (by
          simp only [uQ,zS,e0,h0,decide_true,Bool.and_self,zDF (k:=r.length) (by omega),w9,i1,zA,zNP hl hcv,hlt,cond_true,i2,s1,zW hv,i3,s2])]
        rw [sIn hv r (y::s) (by omega)];have:ltC (clE l) text[v] y=true:=by unfold ltC;simp [h0,hlt]
        simp [vT,this]
      · refine zM ?_
        have:ltC (clE l) text[v] y=false:=by unfold ltC;simp [hlt]
        simp only [uQ,zS,e0,h0,decide_true,Bool.and_self,zDF (k:=r.length) (by omega),w9,i1,zA,zNP hl hcv,hlt,decide_false,Bool.and_false,cond_false,vT,this,Bool.false_eq_true,if_false,e1]
    · refine zM ?_
      have:ltC (clE l) text[v] y=false:=by unfold ltC;simp [h0]
      simp only [uQ,zS,e0,h0,decide_false,Bool.and_false,zA5,zA,Bool.false_and,cond_false,vT,this,Bool.false_eq_true,if_false,e1]
theorem yEG {text:List Int} (ht:text.length≤900):zEW l text=some (csE (clE l) text):=by
 have key:∀(d k:Nat) (out:List Int),text.length - k=d→k≤text.length→out.length=k→zG (fun (x:Int×(List Int))=>vD text l x.1 x.2) ((k:Int),out)=some (vA (ltC (clE l)) (text.drop k) out):=by
  intro d
  induction d with
  | zero=>
   intro k out h1 h2 h3;rw [List.drop_of_length_le (show text.length≤k by omega)];refine zM ?_;simp only [vD,kW (show text.length≤k by omega),cond_false];rfl
  | succ d ih=>
   intro k out h1 h2 h3;have hk:k < text.length:=by omega
   have hi:=sIn hcv hl hk out.reverse [] (by simp;omega)
   rw [List.reverse_reverse,List.length_reverse] at hi;have hb:vD text l (k:Int) out=some (.next (((k+1:Nat):Int),vT (ltC (clE l)) out.reverse text[k] [])):=by
    have e1:wi (((out++ [text[k]]).length:Int) - 1)=(out.length:Int):=by
     have hL:((out++ [text[k]]).length:Int)=(out.length:Int)+1:=by simp
     rw [hL,xT (by omega) (by omega)];omega
    simp only [vD,kK hk,cond_true,zW hk,zA,zAD (show out.length+ [text[k]].length≤4294967296 by simp;omega),zNP hl hcv,e1,hi,zP (k:=k) (by omega)]
   rw [zU (body:=fun (x:Int×(List Int))=>vD text l x.1 x.2) (x:=((k:Int),out)) hb,ih (k+1) _ (by omega) (by omega) (by rw [zRO];simp;omega),List.drop_eq_getElem_cons hk]
   rfl
 unfold zEW;have h:=key text.length 0 [] (by omega) (by omega) rfl;rw [List.drop_zero] at h;have h':zG (fun (x:Int×(List Int))=>vD text l x.1 x.2) (0,[])=some (csE (clE l) text):=h;rw [h'];rfl
end
theorem yH2 {n:Norm} (hs:NSm n) (hok:wS n) {text:List Int} {b:Bool} (ht:text.length≤2000) (hf:(zF6 n b text).length≤900):zG5 n text b=some (zB9 n b text):=by
 have h:=zOM hs hok;unfold zG5;rw [yH0 hs hok,zA,yEF h b ht,zA];have e:=yEG h.cv (by have:=h.cl;omega) hf
 have e':zEW (usN n).Classes (text.flatMap (fu (usN n).Decomp b))=some (zB9 n b text):=e;rw [e'];rfl
end Go.M
namespace Go.M
open Go.AV
def ckO (o:Options):Int:=if o.Strength < 1∨4 < o.Strength then 1 else if o.Variable < 1∨3 < o.Variable then 8 else 0
def zA6 (o:Options):Options:=if ckO o=0 then o else {Strength:=3,Variable:=1,Backward:=false,Identical:=false}
theorem yH3 (o:Options):zDO o=some (ckO o):=by
 unfold zDO ckO;rw [zS];by_cases h1:o.Strength < 1∨4 < o.Strength;have:(decide (o.Strength < 1) ||decide (4 < o.Strength))=true:=by simpa using h1
 rw [this,if_pos h1];rfl;have:(decide (o.Strength < 1) ||decide (4 < o.Strength))=false:=by simpa using h1
 rw [this,if_neg h1,cond_false];by_cases v1:o.Variable=1;simp [v1];by_cases v2:o.Variable=2;simp [v2];by_cases v3:o.Variable=3;simp [v3];rw [if_pos (by omega)];simp [v1,v2,v3]
theorem z30 (o:Options):vW o=some (zA6 o):=by unfold vW zA6;rw [yH3,zA];by_cases h:ckO o=0 <;> simp [h]
theorem zMC (o:Options):ckO (zA6 o)=0:=by unfold zA6;split;assumption;rfl
theorem zZO {o:Options} (h:ckO o=0):zA6 o=o:=by unfold zA6;rw [if_pos h]
theorem yH4 {o:Options} (h:ckO o=0):1≤o.Strength∧o.Strength≤4∧1≤o.Variable∧o.Variable≤3:=by unfold ckO at h;split at h;cases h;split at h;cases h;omega
def nz (x:Int):List Int:=if x=0 then [] else [x]
def col:Nat→A4Int→Int
 | 0,w=>w.x0
 | 1,w=>w.x1
 | 2,w=>w.x2
 | _,w=>w.x3
def row (k:Nat) (L:List A4Int):List Int:=L.flatMap fun w=>nz (col k w)
def zWH (f:Bool) (e:Element):Bool:=if e.Variable=true∨e.Primary≠0 then e.Variable else f
def zZP (e:Element):Prop:=e.Primary=0∧e.Secondary=0∧e.Tertiary=0
instance (e:Element):Decidable (zZP e):=by unfold zZP;infer_instance
def tr1 (v:Int) (f:Bool) (e:Element):A4Int:=
 if v=1 then {x0:=e.Primary,x1:=e.Secondary,x2:=e.Tertiary,x3:=if zZP e then 0 else 65535}
 else if zWH f e=true then {x0:=0,x1:=0,x2:=0,x3:=if v=3∧e.Variable=true then e.Primary else 0}
 else {x0:=e.Primary,x1:=e.Secondary,x2:=e.Tertiary,x3:=if v=3∧¬zZP e then 65535 else 0}
def trL (v:Int):Bool→List Element→List A4Int
 | _,[]=>[]
 | f,e::l=>tr1 v f e::trL v (zWH f e) l
theorem zWI (v:Int):∀(l:List Element) (f:Bool),(trL v f l).length=l.length
 | [],_=>rfl
 | e::l,f=>by simp [trL,zWI v l]
theorem yAH {v:Int} (hv:1≤v∧v≤3) (e:Element) (f:Bool):uK e v f=some (tr1 v f e,if v=1 then f else zWH f e):=by obtain ⟨p,s,t,va⟩:=e;unfold uK tr1 zWH zZP;rcases (by omega:v=1∨v=2∨v=3) with rfl | rfl | rfl <;> cases va <;> cases f <;> by_cases hp:p=0 <;> by_cases hs:s=0 <;> by_cases ht:t=0 <;> simp [hp,hs,ht]
theorem yJZ (f g:Bool) (e:Element):tr1 1 f e=tr1 1 g e:=rfl
theorem yFO:∀(l:List Element) (f g:Bool),trL 1 f l=trL 1 g l
 | [],_,_=>rfl
 | e::l,f,g=>by
  show tr1 1 f e::trL 1 _ l=tr1 1 g e::trL 1 _ l;rw [yJZ f g,yFO l (zWH f e) (zWH g e)]
theorem yAI (x:Int):(nz x).length≤1:=by unfold nz;split <;> simp
theorem zWJ {r:List Int} {x:Int} (h:r.length+1≤4294967296):(cond (!decide (x=0)) ((app r [x]).bind fun q=>some q) (some r))=some (r++nz x):=by unfold nz;by_cases hx:x=0;simp [hx];simp only [hx,decide_false,Bool.not_false,cond_true,if_false];rw [zAD (by simpa using h)];rfl
theorem wl1 (t:A4Int×Bool) {r0 r1 r2 r3:List Int} {n:Nat} (hn:n+1≤4294967296) (h0:r0.length≤n) (h1:r1.length≤n) (h2:r2.length≤n) (h3:r3.length≤n):
  zG (fun (x:Int×(List Int)×(List Int)×(List Int)×(List Int))=>jQ t x.1 x.2.1 x.2.2.1 x.2.2.2.1 x.2.2.2.2) (0,r0,r1,r2,r3)=some (r0++nz t.1.x0,r1++nz t.1.x1,r2++nz t.1.x2,r3++nz t.1.x3):=by
 have i0:yH [t.1.x0,t.1.x1,t.1.x2,t.1.x3] (0:Int)=some t.1.x0:=rfl;have i1:yH [t.1.x0,t.1.x1,t.1.x2,t.1.x3] (1:Int)=some t.1.x1:=rfl;have i2:yH [t.1.x0,t.1.x1,t.1.x2,t.1.x3] (2:Int)=some t.1.x2:=rfl;have i3:yH [t.1.x0,t.1.x1,t.1.x2,t.1.x3] (3:Int)=some t.1.x3:=rfl;rw [zU (x':=(1,r0++nz t.1.x0,r1,r2,r3)) (by
  simp only [jQ,i0,zA,zWJ (x:=t.1.x0) (show r0.length+1≤4294967296 by omega)];rfl)]
 rw [zU (x':=(2,r0++nz t.1.x0,r1++nz t.1.x1,r2,r3)) (by
  simp only [jQ,i1,zA,zWJ (x:=t.1.x1) (show r1.length+1≤4294967296 by omega)];rfl)]
 rw [zU (x':=(3,r0++nz t.1.x0,r1++nz t.1.x1,r2++nz t.1.x2,r3)) (by
  simp only [jQ,i2,zA,zWJ (x:=t.1.x2) (show r2.length+1≤4294967296 by omega)];rfl)]
 rw [zU (x':=(4,r0++nz t.1.x0,r1++nz t.1.x1,r2++nz t.1.x2,r3++nz t.1.x3)) (by
  simp only [jQ,i3,zA,zWJ (x:=t.1.x3) (show r3.length+1≤4294967296 by omega)];rfl)]
 exact zM (by simp only [jQ];rfl)
theorem wl0 {l:List Element} {o:Options} (hv:1≤o.Variable∧o.Variable≤3) (hl:l.length≤4000000000):∀(m k:Nat) (f:Bool) (r0 r1 r2 r3:List Int),k+m=l.length→r0.length≤k→r1.length≤k→r2.length≤k→r3.length≤k→
    zG (fun (x:Int×Bool×(List Int)×(List Int)×(List Int)×(List Int))=>wZ l o x.1 x.2.1 x.2.2.1 x.2.2.2.1 x.2.2.2.2.1 x.2.2.2.2.2) ((k:Int),f,r0,r1,r2,r3)=
      some (r0++row 0 (trL o.Variable f (l.drop k)),r1++row 1 (trL o.Variable f (l.drop k)),r2++row 2 (trL o.Variable f (l.drop k)),r3++row 3 (trL o.Variable f (l.drop k)))
  | 0,k,f,r0,r1,r2,r3,h,_,_,_,_=>by
    rw [List.drop_of_length_le (by omega)];refine zM ?_;simp only [wZ,kW (show l.length≤k by omega),cond_false,trL,row,List.flatMap_nil,List.append_nil]
  | m+1,k,f,r0,r1,r2,r3,h,h0,h1,h2,h3=>by
    have hk:k < l.length:=by omega
    have q:∀{r:List Int} (x:Int),r.length≤k→(r++nz x).length≤k+1:=fun x hr=>by rw [List.length_append];have:=yAI x;omega
    rw [zU (x':=(((k+1:Nat):Int),(if o.Variable=1 then f else zWH f l[k]),r0++nz (tr1 o.Variable f l[k]).x0,r1++nz (tr1 o.Variable f l[k]).x1,r2++nz (tr1 o.Variable f l[k]).x2,r3++nz (tr1 o.Variable f l[k]).x3)) (by
      simp only [wZ,kK hk,cond_true,zW hk,zA,yAH hv,wl1 _ (n:=k) (by omega) h0 h1 h2 h3,zP (k:=k) (by omega)])]
    rw [wl0 hv hl m (k+1) _ _ _ _ _ (by omega) (q _ h0) (q _ h1) (q _ h2) (q _ h3),List.drop_eq_getElem_cons hk];have e:trL o.Variable (if o.Variable=1 then f else zWH f l[k]) (l.drop (k+1))=trL o.Variable (zWH f l[k]) (l.drop (k+1)):=by
      by_cases h1:o.Variable=1
      · rw [h1];exact yFO _ _ _
      · rw [if_neg h1]
    rw [e];simp [trL,row,col]
theorem yAJ:∀(n:Nat) (a m b:List Int),m.length=n→a.length=b.length→a.length+m.length+b.length≤9000000000000000000→
    zG (fun (x:Int×Int×(List Int))=>jP x.1 x.2.1 x.2.2) ((a.length:Int),((a.length+m.length:Nat):Int) - 1,a++m++b)=some (a++m.reverse++b):=by
  intro n
  induction n using Nat.strongRecOn with
  | ind n ih=>
    intro a m b hn hab hb;by_cases h2:m.length≤1
    · have e:decide ((a.length:Int) < ((a.length+m.length:Nat):Int) - 1)=false:=by simp;omega
      refine zM ?_;have hr:m.reverse=m:=by
        match m,h2 with
        | [],_=>rfl
        | [x],_=>rfl
      simp only [jP,e,cond_false,hr]
    · obtain ⟨x,m1,rfl⟩:=List.exists_cons_of_ne_nil (l:=m) (fun e=>by rw [e] at h2;simp at h2)
      have hm1:m1≠[]:=fun e=>by rw [e] at h2;simp at h2
      obtain ⟨m2,y,rfl⟩:∃m2 y,m1=m2++ [y]:=⟨m1.dropLast,m1.getLast hm1,(List.dropLast_concat_getLast hm1).symm⟩;simp only [List.length_cons,List.length_append,List.length_nil] at hn hb h2;have e:decide ((a.length:Int) < ((a.length+(x::(m2++ [y])).length:Nat):Int) - 1)=true:=by simp;omega
      have ej:((a.length+(x::(m2++ [y])).length:Nat):Int) - 1=((a.length+1+m2.length:Nat):Int):=by simp;omega
      have g1:yH (a++(x::(m2++ [y]))++b) (((a.length+1+m2.length:Nat):Int))=some y:=by
        rw [zW (by simp;omega)];congr 1;rw [List.getElem_append_left (by simp;omega),List.getElem_append_right (by omega)]
        simp only [show a.length+1+m2.length - a.length=m2.length+1 by omega,List.getElem_cons_succ];rw [List.getElem_append_right (by omega)];simp
      have g2:yH (a++(x::(m2++ [y]))++b) ((a.length:Nat):Int)=some x:=by
        rw [zW (by simp)];congr 1;rw [List.getElem_append_left (by simp),List.getElem_append_right (by omega)];simp
      have s1:vS (a++(x::(m2++ [y]))++b) ((a.length:Nat):Int) y=some (a++(y::(m2++ [y]))++b):=by
        rw [zDX (by simp)];congr 1;simp
      have g3:yH (a++(y::(m2++ [y]))++b) (((a.length+1+m2.length:Nat):Int))=some y:=by
        rw [zW (by simp;omega)];congr 1;rw [List.getElem_append_left (by simp;omega),List.getElem_append_right (by omega)]
        simp only [show a.length+1+m2.length - a.length=m2.length+1 by omega,List.getElem_cons_succ];rw [List.getElem_append_right (by omega)];simp
      have s2:vS (a++(y::(m2++ [y]))++b) (((a.length+1+m2.length:Nat):Int)) x=some ((a++ [y])++m2++(x::b)):=by
        rw [zDX (by simp;omega)];congr 1;have e1:a++(y::(m2++ [y]))++b=(a++y::m2)++y::b:=by simp
        rw [e1,show a.length+1+m2.length=(a++y::m2).length by simp;omega,List.set_append_right _ _ (Nat.le_refl _)]
        simp
      rw [zU (x':=(((a++ [y]).length:Int),(((a++ [y]).length+m2.length:Nat):Int) - 1,(a++ [y])++m2++(x::b))) (by
        simp only [jP,e,cond_true];rw [ej];simp only [g1,g2,s1,g3,s2,zA];rw [zP (k:=a.length) (by omega),xT (by omega) (by omega)];simp only [List.length_append,List.length_cons,List.length_nil])]
      rw [ih m2.length (by omega) (a++ [y]) m2 (x::b) rfl (by simp;omega) (by simp;omega)]
      simp
theorem yH5 {l:List Int} (h:l.length≤4294967296):xG l=some l.reverse:=by
 unfold xG;have:=yAJ l.length [] l [] rfl rfl (by simp;omega)
 simp only [List.nil_append,List.append_nil,List.length_nil,Nat.zero_add] at this;rw [xT (by omega) (by omega)];rw [show ((0:Nat):Int)=0 from rfl] at this;rw [this];rfl
def yAK (b:Bool) (l:List Int):List Int:=if b=true then l.reverse else l
def rows (b:Bool) (L:List A4Int):List (List Int):=[row 0 L,yAK b (row 1 L),row 2 L,row 3 L]
def wts (l:List Element) (o:Options):List (List Int):=(rows o.Backward (trL o.Variable false l)).take o.Strength.toNat
theorem zWK (k:Nat):∀(L:List A4Int),(row k L).length≤L.length
 | []=>by simp [row]
 | w::L=>by
  have:=zWK k L;have h2:=yAI (col k w);simp only [row,List.flatMap_cons,List.length_append,List.length_cons] at this ⊢;omega
theorem zHH {l:List Element} (hl:l.length≤4000000000) (o:Options):xS l o=some (wts l (zA6 o)):=by
 have hb:=yH4 (zMC o);unfold xS wts;have e0:({Strength:=o.Strength,Variable:=o.Variable,Backward:=o.Backward,Identical:=o.Identical}:Options)=o:=rfl;rw [e0,z30,zA];generalize zA6 o=q at*;have hw:=wl0 (l:=l) (o:=q) hb.2.2 hl l.length 0 false [] [] [] [] (by omega) (by simp) (by simp) (by simp) (by simp);simp only [List.drop_zero,List.nil_append] at hw;rw [show ((0:Nat):Int)=0 from rfl] at hw;unfold zCQ;rw [zA,hw,zA];have hr:(cond q.Backward ((xG (row 1 (trL q.Variable false l))).bind fun t45=>some t45) (some (row 1 (trL q.Variable false l))))=some (yAK q.Backward (row 1 (trL q.Variable false l))):=by
  cases q.Backward with
  | false=>rfl
  | true=>
   have:=zWK 1 (trL q.Variable false l);rw [zWI] at this;rw [cond_true,yH5 (by omega)];rfl
 simp only [hr,zA];have hs:q.Strength=((q.Strength.toNat:Nat):Int):=by omega
 have hsl:slc [row 0 (trL q.Variable false l),yAK q.Backward (row 1 (trL q.Variable false l)),row 2 (trL q.Variable false l),row 3 (trL q.Variable false l)] 0 q.Strength=some ((rows q.Backward (trL q.Variable false l)).take q.Strength.toNat):=by
  rw [hs,zKP (by simp;omega)];rfl
 rw [hsl,zA,zAD (by simp [rows];omega)]
 rfl
end Go.M
namespace Go.M
open Go.AV
theorem zWL {l:List Element} {o:Options} {x:List Int} (h:x∈wts l o):x.length≤l.length:=by
 unfold wts at h;have h:=List.mem_of_mem_take h;have key:∀k,(row k (trL o.Variable false l)).length≤l.length:=fun k=>by have:=zWK k (trL o.Variable false l);rwa [zWI] at this
 simp only [rows,List.mem_cons,List.not_mem_nil,or_false] at h;rcases h with rfl | rfl | rfl | rfl
 exact key 0;unfold yAK;split;rw [List.length_reverse];exact key 1;exact key 1;exact key 2;exact key 3
theorem zJM {l:List Element} {o:Options} (h:ckO o=0):(wts l o).length=o.Strength.toNat:=by have:=yH4 h;unfold wts;simp [rows];omega
end Go.M
namespace Go.M
open Go.AV
def jn:Nat→List Int→List (List Int)→List Int
 | _,acc,[]=>acc
 | k,acc,x::xs=>jn (k+1) ((if 0 < k then acc++ [0] else acc)++x) xs
theorem z1V {N:Nat}:∀(l:List (List Int)) (k:Nat) (acc:List Int),(∀x∈l,x.length≤N)→(jn k acc l).length≤acc.length+l.length*(N+1)
 | [],_,acc,_=>by simp [jn]
 | x::xs,k,acc,h=>by
  have h1:=h x (by simp);have h2:=z1V xs (k+1) ((if 0 < k then acc++ [0] else acc)++x) (fun y hy=>h y (by simp [hy]));have h3:((if 0 < k then acc++ [0] else acc)++x).length≤acc.length+1+N:=by
   split <;> simp <;> omega
  simp only [jn,List.length_cons,Nat.add_mul];omega
theorem yLX {acc:List Int} {k:Nat} (h:acc.length+1≤4294967296):(cond (decide ((0:Int) < (k:Int))) ((app acc [0]).bind fun q=>some q) (some acc))=some (if 0 < k then acc++ [0] else acc):=by
 by_cases hk:0 < k;have e:decide ((0:Int) < (k:Int))=true:=by simp;omega
 rw [e,cond_true,zAD (by simpa using h),if_pos hk];rfl;have e:decide ((0:Int) < (k:Int))=false:=by simp;omega
 rw [e,cond_false,if_neg hk]
section
variable {l:List (List Int)} {N:Nat} (hN:∀x∈l,x.length≤N) (hl:l.length≤1000000)
include hN hl
theorem yJ0:∀(m k:Nat) (acc:List Int),k+m=l.length→acc.length+m*(N+1)≤4294967296→zG (fun (x:Int×(List Int))=>zBI l x.1 x.2) ((k:Int),acc)=some (jn k acc (l.drop k))
 | 0,k,acc,h,_=>by
  rw [List.drop_of_length_le (by omega)];refine zM ?_;simp only [zBI,kW (show l.length≤k by omega),cond_false,jn]
 | m+1,k,acc,h,ha=>by
  have hk:k < l.length:=by omega
  have hx:=hN _ (List.getElem_mem hk);rw [Nat.add_mul] at ha;have h3:(if 0 < k then acc++ [0] else acc).length≤acc.length+1:=by split <;> simp
  rw [zU (x':=(((k+1:Nat):Int),(if 0 < k then acc++ [0] else acc)++l[k])) (by
   simp only [zBI,kK hk,cond_true,zW hk,zA,yLX (k:=k) (show acc.length+1≤4294967296 by omega),zAD (show (if 0 < k then acc++ [0] else acc).length+l[k].length≤4294967296 by omega),zP (k:=k) (by omega)])]
  rw [yJ0 m (k+1) _ (by omega) (by rw [List.length_append];omega),List.drop_eq_getElem_cons hk]
  rfl
end
def idn (t:List Int):List Int:=t.flatMap fun c=>if 0≤c∧c≤1114111 then [c+1] else []
theorem yH6 (c:Int) {acc:List Int} (h:acc.length+1≤4294967296):(cond (decide (0≤c)&&decide (c≤1114111)) ((app acc [wi (c+1)]).bind fun q=>some q) (some acc))=some (acc++if 0≤c∧c≤1114111 then [c+1] else []):=by
  by_cases hc:0≤c∧c≤1114111
  · have e:(decide (0≤c)&&decide (c≤1114111))=true:=by simpa using hc
    rw [e,cond_true,zAD (by simpa using h),if_pos hc,xT (by omega) (by omega)];rfl
  · have e:(decide (0≤c)&&decide (c≤1114111))=false:=by
      cases h:(decide (0≤c)&&decide (c≤1114111)) with
      | false=>rfl
      | true=>exact absurd (by simpa using h) hc
    rw [e,cond_false,if_neg hc,List.append_nil]
theorem z31 (c:Int):(if 0≤c∧c≤1114111 then [c+1] else ([]:List Int)).length≤1:=by split <;> simp
theorem yJ1 {t:List Int} (hl:t.length≤1000000):∀(m k:Nat) (acc:List Int),k+m=t.length→acc.length+m≤4294967296→zG (fun (x:Int×(List Int))=>zBJ t x.1 x.2) ((k:Int),acc)=some (acc++idn (t.drop k))
 | 0,k,acc,h,_=>by
  rw [List.drop_of_length_le (by omega)];refine zM ?_;simp only [zBJ,kW (show t.length≤k by omega),cond_false,idn,List.flatMap_nil,List.append_nil]
 | m+1,k,acc,h,ha=>by
  have hk:k < t.length:=by omega
  have h1:=z31 t[k];rw [zU (x':=(((k+1:Nat):Int),acc++if 0≤t[k]∧t[k]≤1114111 then [t[k]+1] else [])) (by
   simp only [zBJ,kK hk,cond_true,zW hk,zA,zS,yH6 t[k] (show acc.length+1≤4294967296 by omega),zP (k:=k) (by omega)])]
  rw [yJ1 hl m (k+1) _ (by omega) (by rw [List.length_append];omega),List.drop_eq_getElem_cons hk]
  simp only [idn,List.flatMap_cons,List.append_assoc]
def zGM (o:Options) (el:List Element) (t:List Int):List Int:=jn 0 [] (wts el o)++if o.Identical=true then [0]++idn t else []
theorem zWM (l:List Element) (o:Options):(wts l o).length≤4:=by unfold wts;simp [rows];omega
theorem yEH (o:Options):zA6 (zA6 o)=zA6 o:=zZO (zMC o)
section
variable {n:Norm} {c:Collation} (hn:NSm n) (hok:wS n) (hs:Sm c) (hg:∀g∈c.Groups,g.Name.length≤MX) {text:List Int} (ht:text.length≤2000) (hf:(zF6 n false text).length≤2000)
include hn hok hs hg ht hf
theorem yH7 (o:Options):zAT n c o text=some (zGM (zA6 o) (wk c (zC4 n) (zB9 n false text)).1 (zB9 n false text)):=by
 unfold zAT zGM;have hd:(zB9 n false text).length≤2000:=by rw [zKV];exact hf
 have hel:=z1R (n:=n) hs (text:=text) hd;rw [show ({Strength:=o.Strength,Variable:=o.Variable,Backward:=o.Backward,Identical:=o.Identical}:Options)=o from rfl,z30,zA,zPF hn hok hs hg ht hf,zA,show ({Strength:=(zA6 o).Strength,Variable:=(zA6 o).Variable,Backward:=(zA6 o).Backward,Identical:=(zA6 o).Identical}:Options)=zA6 o from rfl,zHH (by omega),yEH,zA];generalize (wk c (zC4 n) (zB9 n false text)).1=el at*;have h4:=zWM el (zA6 o);have hN:∀x∈wts el (zA6 o),x.length≤1000000000:=fun x hx=>Nat.le_trans (zWL hx) hel;have hk0:=yJ0 hN (by omega) (wts el (zA6 o)).length 0 [] (by omega) (by simp;omega)
 rw [show ((0:Nat):Int)=0 from rfl,List.drop_zero] at hk0;have hjl:=z1V (wts el (zA6 o)) 0 [] hN;simp only [List.length_nil] at hjl;rw [hk0,zA];cases hi:(zA6 o).Identical with
 | false=>simp
 | true=>
  have h5:(jn 0 [] (wts el (zA6 o))).length≤4000000004:=by omega
  rw [Bool.not_true,cond_false,zAD (by simp;omega),zA,zZI hn hok ht hf,zA]
  have hk1:=yJ1 (t:=zB9 n false text) (by omega) (zB9 n false text).length 0 (jn 0 [] (wts el (zA6 o))++ [0]) (by omega) (by simp;omega)
  rw [show ((0:Nat):Int)=0 from rfl,List.drop_zero] at hk1;rw [hk1,zA,if_pos rfl,List.append_assoc]
omit hn hok hg ht in
theorem yAM (o:Options):(zGM (zA6 o) (wk c (zC4 n) (zB9 n false text)).1 (zB9 n false text)).length≤4611686018427387904:=by
 have hd:(zB9 n false text).length≤2000:=by rw [zKV];exact hf
 have hel:=z1R (n:=n) hs (text:=text) hd;unfold zGM;generalize (wk c (zC4 n) (zB9 n false text)).1=el at*;have h4:=zWM el (zA6 o);have hjl:=z1V (wts el (zA6 o)) 0 [] (N:=1000000000) (fun x hx=>Nat.le_trans (zWL hx) hel);have hid:∀t:List Int,(idn t).length≤t.length:=by
  intro t
  induction t with
  | nil=>simp [idn]
  | cons x t ih=>
   have:=z31 x;simp only [idn,List.flatMap_cons,List.length_append,List.length_cons] at ih ⊢;omega
 have:=hid (zB9 n false text);simp only [List.length_nil] at hjl;rw [List.length_append];split <;> simp <;> omega
end
def nZ:Norm:={Classes:=[],Decomp:=[],Excluded:={Ranges:=[]}}
theorem z1W:NSm nZ:=⟨by decide,by decide,fun m hm=>(by cases hm),fun m hm=>(by cases hm),by decide⟩
theorem zR0:wS nZ:=by unfold wS okSpan zT1 nZ;simp
theorem zR1:usN nZ=nZ:=by unfold usN;split <;> rfl
theorem zZQ:zC4 nZ= []:=by rw [z90,zR1];rfl
end Go.M
namespace Go.M
open Go.AV
theorem yAN {l:List Element} {o:Options} {low:Int} (h:ckO o=0) (h1:1≤low) (h2:low≤o.Strength):wts l {Strength:=low,Variable:=o.Variable,Backward:=o.Backward,Identical:=o.Identical}=(wts l o).take low.toNat:=by unfold wts;rw [List.take_take,Nat.min_eq_left (by omega)]
theorem yJ2 {x y:Int} (h:y∈nz x):y≠0:=by unfold nz at h;split at h;cases h;rw [List.mem_singleton] at h;subst h;assumption
theorem zR2 {k:Nat} {L:List A4Int} {y:Int} (h:y∈row k L):y≠0:=by obtain ⟨w,_,h2⟩:=List.mem_flatMap.1 h;exact yJ2 h2
theorem yAO {l:List Element} {o:Options} {x:List Int} (hx:x∈wts l o) {y:Int} (hy:y∈x):y≠0:=by
 unfold wts at hx;have hx:=List.mem_of_mem_take hx;simp only [rows,List.mem_cons,List.not_mem_nil,or_false] at hx;rcases hx with rfl | rfl | rfl | rfl
 exact zR2 hy;unfold yAK at hy;split at hy;exact zR2 (List.mem_reverse.1 hy);exact zR2 hy;exact zR2 hy;exact zR2 hy
end Go.M
namespace Go.M
open Go.AV
end Go.M
namespace Go.M
open Go.AV
end Go.M
namespace Go.M
open Go.AV
def tj (xs:List (List Int)):List Int:=xs.flatMap fun y=>0::y
theorem yJ3:∀(xs:List (List Int)) (k:Nat) (acc:List Int),0 < k→jn k acc xs=acc++tj xs
 | [],_,acc,_=>by simp [jn,tj]
 | x::xs,k,acc,h=>by
  simp only [jn,h,if_true];rw [yJ3 xs (k+1) _ (by omega)];simp [tj]
theorem yJ4 (x:List Int) (xs:List (List Int)):jn 0 [] (x::xs)=x++tj xs:=by simp only [jn,Nat.lt_irrefl,if_false,List.nil_append];exact yJ3 xs 1 x (by omega)
def zz0 (s:List Int):Prop:=s= []∨∃t,s=0::t
theorem z1X:∀{x y u v:List Int},(∀a∈x,a≠0)→(∀a∈y,a≠0)→zz0 u→zz0 v→x++u=y++v→x=y∧u=v
 | [],[],u,v,_,_,_,_,h=>⟨rfl,h⟩
 | [],b::y,u,v,_,hy,hu,_,h=>by
  rcases hu with rfl | ⟨t,rfl⟩;simp at h;simp only [List.nil_append,List.cons_append,List.cons.injEq] at h;exact absurd h.1.symm (hy b (by simp))
 | a::x,[],u,v,hx,_,_,hv,h=>by
  rcases hv with rfl | ⟨t,rfl⟩;simp at h;simp only [List.nil_append,List.cons_append,List.cons.injEq] at h;exact absurd h.1 (hx a (by simp))
 | a::x,b::y,u,v,hx,hy,hu,hv,h=>by
  simp only [List.cons_append,List.cons.injEq] at h;obtain ⟨h1,h2⟩:=z1X (fun q hq=>hx q (by simp [hq])) (fun q hq=>hy q (by simp [hq])) hu hv h.2;exact ⟨by rw [h.1,h1],h2⟩
theorem zWN {xs:List (List Int)} {s:List Int} (h:zz0 s):zz0 (tj xs++s):=by
 cases xs with
 | nil=>exact h
 | cons x xs=>exact .inr ⟨x++tj xs++s,by simp [tj]⟩
theorem yAP:∀{A B:List (List Int)} {s t:List Int},A.length=B.length→(∀x∈A,∀a∈x,a≠0)→(∀x∈B,∀a∈x,a≠0)→zz0 s→zz0 t→tj A++s=tj B++t→A=B∧s=t
 | [],[],s,t,_,_,_,_,_,h=>⟨rfl,h⟩
 | [],b::B,_,_,hl,_,_,_,_,_=>by simp at hl
 | a::A,[],_,_,hl,_,_,_,_,_=>by simp at hl
 | a::A,b::B,s,t,hl,hA,hB,hs,ht,h=>by
  have e:∀(c:List Int) (C:List (List Int)) (u:List Int),tj (c::C)++u=0::(c++(tj C++u)):=fun c C u=>by simp [tj]
  rw [e,e,List.cons.injEq] at h;obtain ⟨h1,h2⟩:=z1X (hA a (by simp)) (hB b (by simp)) (zWN hs) (zWN ht) h.2;obtain ⟨h3,h4⟩:=yAP (by simpa using hl) (fun x hx=>hA x (by simp [hx])) (fun x hx=>hB x (by simp [hx])) hs ht h2;exact ⟨by rw [h1,h3],h4⟩
theorem yH8 {A B:List (List Int)} {s t:List Int} (hl:A.length=B.length) (hA:∀x∈A,∀a∈x,a≠0) (hB:∀x∈B,∀a∈x,a≠0) (hs:zz0 s) (ht:zz0 t) (h:jn 0 [] A++s=jn 0 [] B++t):A=B∧s=t:=by
 cases A with
 | nil=>cases B with
  | nil=>exact ⟨rfl,h⟩
  | cons b B=>simp at hl
 | cons a A=>cases B with
  | nil=>simp at hl
  | cons b B=>
   rw [yJ4,yJ4,List.append_assoc,List.append_assoc] at h;obtain ⟨h1,h2⟩:=z1X (hA a (by simp)) (hB b (by simp)) (zWN hs) (zWN ht) h;obtain ⟨h3,h4⟩:=yAP (by simpa using hl) (fun x hx=>hA x (by simp [hx])) (fun x hx=>hB x (by simp [hx])) hs ht h2;exact ⟨by rw [h1,h3],h4⟩
theorem zZR {o:Options} (ho:ckO o=0) {A B:List Element} {s t:List Int} (h:zGM o A s=zGM o B t):wts A o=wts B o∧(o.Identical=true→idn s=idn t):=by
 unfold zGM at h;have hl:(wts A o).length=(wts B o).length:=by rw [zJM ho,zJM ho]
 have hz:∀u:List Int,zz0 (if o.Identical=true then [0]++idn u else []):=fun u=>by
  split;exact .inr ⟨idn u,rfl⟩;exact .inl rfl
 obtain ⟨h1,h2⟩:=yH8 hl (fun x hx a ha=>yAO hx ha) (fun x hx a ha=>yAO hx ha) (hz s) (hz t) h;refine ⟨h1,fun hi=>?_⟩;rw [if_pos hi,if_pos hi] at h2;exact (List.cons.inj h2).2
theorem zF4 {a b:List Int}:xY a b=0↔a=b:=by rw [zVX];exact (zIX a b 0).2
theorem zLB {a b:List Int}:xY a b < 0↔lx a b:=by rw [zVX];exact (zIX a b 0).1
theorem zWO:∀(a:List Int),¬lx a a
 | [],h=>h
 | x::a,h=>by
  rcases h with h | ⟨_,h⟩;omega;exact zWO a h
theorem zR3:∀(a b:List Int),lx a b∨a=b∨lx b a
 | [],[]=> .inr (.inl rfl)
 | [],_::_=> .inl trivial
 | _::_,[]=> .inr (.inr trivial)
 | x::a,y::b=>by
  rcases Int.lt_trichotomy x y with h | h | h;exact .inl (.inl h);subst h;rcases zR3 a b with h | h | h;exact .inl (.inr ⟨rfl,h⟩);exact .inr (.inl (by rw [h]));exact .inr (.inr (.inr ⟨rfl,h⟩));exact .inr (.inr (.inl h))
theorem yFP {a b:List Int} (h:lx a b) (k:lx b a):False:=zWO a (zNG h k)
theorem z1Y (a b:List Int):xY a b= -1∨xY a b=0∨xY a b=1:=by
 unfold xY;cases hc:chk (fun _ (p:Int×Int)=>if p.1=p.2 then none else some (if p.1 < p.2 then (-1:Int) else 1)) (a.zip b) 0 with
 | none=>simp only [];by_cases h1:a.length < b.length <;> by_cases h2:b.length < a.length <;> simp [h1,h2]
 | some y=>
  have:=zKR (P:=fun y=>y= -1∨y=1) (fun k x y hy=>by
   split at hy;cases hy;simp only [Option.some.injEq] at hy;subst hy;split <;> simp) hc
  simp only [];omega
theorem zQK {a b:List Int}:0 < xY a b↔lx b a:=by
 have h0:=zF4 (a:=a) (b:=b);have h1:=zLB (a:=a) (b:=b);rcases zR3 a b with h | h | h
 exact ⟨fun k=>by have:=h1.2 h;omega,fun k=>(yFP h k).elim⟩
 exact ⟨fun k=>by have:=h0.2 h;omega,fun k=>by rw [h] at k;exact (zWO b k).elim⟩
 refine ⟨fun _=>h,fun _=>?_⟩;have n0:¬xY a b=0:=fun e=>by rw [h0.1 e] at h;exact zWO b h
 have n1:¬xY a b < 0:=fun e=>yFP (h1.1 e) h;omega
theorem zI1 (a b:List Int):xY b a= -xY a b:=by
 have v1:=z1Y a b;have v2:=z1Y b a;rcases zR3 a b with h | h | h
 have:=zLB.2 h;have:=zQK.2 h;omega;have:=zF4.2 h;have:=zF4.2 h.symm;omega;have:=zLB.2 h;have:=zQK.2 h;omega
theorem zR4 {a b c:List Int} (h1:xY a b≤0) (h2:xY b c≤0):xY a c≤0∧(xY a c=0↔xY a b=0∧xY b c=0):=by rcases zR3 a b with h | h | h;rcases zR3 b c with k | k | k;have:=zLB.2 (zNG h k);have:=zLB.2 h;omega;rw [←k];have:=zLB.2 h;omega;have:=zQK.2 k;omega;rw [h,zF4.2 rfl];omega;have:=zQK.2 h;omega
end Go.M
namespace Go.M
open Go.AV
noncomputable def eLm (n:Norm) (c:Collation) (t:List Int):List Element:=(wk c (zC4 n) (zB9 n false t)).1
noncomputable def sK (n:Norm) (c:Collation) (o:Options) (t:List Int):List Int:=zGM (zA6 o) (eLm n c t) (zB9 n false t)
noncomputable def cK (n:Norm) (c:Collation) (o:Options) (a b:List Int):Int:=xY (sK n c o a) (sK n c o b)
def TOk (n:Norm) (t:List Int):Prop:=t.length≤2000∧(zF6 n false t).length≤900
def fdf:List (List Int)→List (List Int)→Nat→Option Nat
 | x::xs,y::ys,k=>if x=y then fdf xs ys (k+1) else some (k+1)
 | _,_,_=>none
noncomputable def zKW (n:Norm) (c:Collation) (o:Options) (a b:List Int):Int:=match fdf (wts (eLm n c a) (zA6 o)) (wts (eLm n c b) (zA6 o)) 0 with
 | some i=>(i:Int)
 | none=>if cK n c o a b=0 then 0 else 5
def fdS:Option Nat→Unit⊕Int
 | some i=> .inr (i:Int)
 | none=> .inl ()
theorem yH9 {a b:List Int} (ha:a.length≤4611686018427387904):zCF a b=some (decide (a=b)):=by unfold zCF;rw [zD5 ha,zA];congr 1;rw [Bool.eq_iff_iff,decide_eq_true_eq,decide_eq_true_eq];exact zF4
theorem lv0 {A B:List (List Int)} (hl:A.length=B.length) (h4:A.length≤1000) (hx:∀x∈A,x.length≤4611686018427387904):∀(m k:Nat),k+m=A.length→zG (fun (x:Int)=>w6 A B x) (k:Int)=some (fdS (fdf (A.drop k) (B.drop k) k))
 | 0,k,h=>by
  rw [List.drop_of_length_le (by omega),List.drop_of_length_le (by omega)];have e:decide ((k:Int) < min (A.length:Int) (B.length:Int))=false:=by simp;omega
  exact zM (by simp only [w6,e,cond_false,fdf,fdS])
 | m+1,k,h=>by
  have h1:k < A.length:=by omega
  have h2:k < B.length:=by omega
  have e:decide ((k:Int) < min (A.length:Int) (B.length:Int))=true:=by simp;omega
  have he:=yH9 (b:=B[k]) (hx _ (List.getElem_mem h1));rw [List.drop_eq_getElem_cons h1,List.drop_eq_getElem_cons h2];simp only [fdf];by_cases hq:A[k]=B[k];rw [if_pos hq,zU (x':=((k+1:Nat):Int)) (by simp only [w6,e,cond_true,zW h1,zW h2,zA,he.trans (congrArg some (decide_eq_true hq)),Bool.not_true,cond_false,zP (k:=k) (by omega)])];exact lv0 hl h4 hx m (k+1) (by omega);rw [if_neg hq];exact zM (by simp only [w6,e,cond_true,zW h1,zW h2,zA,he.trans (congrArg some (decide_eq_false hq)),Bool.not_false,cond_true,zP (k:=k) (by omega),fdS])
section
variable {n:Norm} {c:Collation} (hn:NSm n) (hok:wS n) (hs:Sm c) (hg:∀g∈c.Groups,g.Name.length≤MX)
include hn hok hs hg
theorem kE (o:Options) {t:List Int} (h:TOk n t):zAT n c o t=some (sK n c o t):=yH7 hn hok hs hg h.1 (by have:=h.2;omega) o
theorem yEJ {t:List Int} (h:TOk n t):jI n c t=some (eLm n c t):=zPF hn hok hs hg h.1 (by have:=h.2;omega)
omit hn hok hg in
theorem elL {t:List Int} (h:TOk n t):(eLm n c t).length≤1000000000:=z1R hs (by rw [zKV];have:=h.2;omega)
omit hn hok hg in
theorem kL (o:Options) {t:List Int} (h:TOk n t):(sK n c o t).length≤4611686018427387904:=yAM hs (by have:=h.2;omega) o
theorem cE (o:Options) {a b:List Int} (ha:TOk n a) (hb:TOk n b):k5 n c o a b=some (cK n c o a b):=by unfold k5;rw [kE hn hok hs hg o ha,zA,kE hn hok hs hg o hb,zA,zD5 (kL hs o ha),zA];rfl
theorem lE (o:Options) {a b:List Int} (ha:TOk n a) (hb:TOk n b):xZ n c o a b=some (zKW n c o a b):=by
 unfold xZ zKW;have hA:=elL hs ha;have hB:=elL hs hb;rw [yEJ hn hok hs hg ha,zA,zHH (by omega),zA,yEJ hn hok hs hg hb,zA,zHH (by omega),zA];have hlen:(wts (eLm n c a) (zA6 o)).length=(wts (eLm n c b) (zA6 o)).length:=by rw [zJM (zMC o),zJM (zMC o)]
 have h4:=zWM (eLm n c a) (zA6 o);have:=lv0 hlen (by omega) (fun x hx=>by have:=zWL hx;omega) _ 0 (Nat.zero_add _)
 rw [show ((0:Nat):Int)=0 from rfl,List.drop_zero,List.drop_zero] at this;rw [this,zA,cE hn hok hs hg o ha hb];cases fdf (wts (eLm n c a) (zA6 o)) (wts (eLm n c b) (zA6 o)) 0 with
 | some i=>rfl
 | none=>
  simp only [fdS,Sum.elim_inl,zA];by_cases h0:cK n c o a b=0 <;> simp [h0]
end
theorem yJ5:∀(L:List (Int×Int)),∃n b,zJX (fun (s:Bool) (x:Int×Int)=>k6 s x) false L=some (n,b,false)∧n≤L.length∧(b=true→n=L.length∧∀p∈L,p.1=p.2)∧(b=false→0 < n∧∃p∈L,p.1≠p.2)
 | []=>⟨0,true,rfl,Nat.le_refl _,fun _=>⟨rfl,fun p hp=>by cases hp⟩,fun h=>by cases h⟩
 | x::L=>by
  by_cases hx:x.1=x.2;obtain ⟨n,b,h1,h2,h3,h4⟩:=yJ5 L;refine ⟨n+1,b,?_,by simp;omega,fun hb=>?_,fun hb=>?_⟩
  simp only [zJX,k6,hx,decide_true,Bool.not_true,cond_false] at h1 ⊢;rw [h1];rfl;obtain ⟨q1,q2⟩:=h3 hb;exact ⟨by simp [q1],fun p hp=>by rcases List.mem_cons.1 hp with rfl | hp;exact hx;exact q2 p hp⟩
  obtain ⟨_,p,hp,hq⟩:=h4 hb;exact ⟨by omega,p,by simp [hp],hq⟩;refine ⟨1,false,?_,by simp,(fun h=>by cases h),(fun _=>⟨by omega,x,by simp,hx⟩)⟩;simp only [zJX,k6,hx,decide_false,Bool.not_false,cond_true]
theorem pr0 {a b:List Int} {n:Nat} {stop:Bool} (ha:a.length≤1000000000) (hn:n≤(wA a b).length) (h0:stop=true→0 < n) (h1:stop=false→n=(wA a b).length):∀(m k:Nat),k+m=n→(stop=true→0 < m)→
    ∃y,zG (fun (x:Int×Nat)=>xU a b ((wA a b).take n) stop x.1 x.2) ((k:Int),k)=some y∧(y= .inl n∨y= .inr n):=by
  have hzl:(wA a b).length=min a.length b.length:=by unfold wA;simp
  intro m
  induction m with
  | zero=>
    intro k hk hm;have hst:stop=false:=by cases stop;rfl;exact absurd (hm rfl) (by omega)
    have:=h1 hst;have e:decide ((k:Int) < min (a.length:Int) (b.length:Int))=false:=by simp;omega
    exact ⟨.inl k,zM (by simp only [xU,e,cond_false]),.inl (by rw [show k=n by omega])⟩
  | succ m ih=>
    intro k hk _;have ka:k < a.length:=by omega
    have kb:k < b.length:=by omega
    have e:decide ((k:Int) < min (a.length:Int) (b.length:Int))=true:=by simp;omega
    have hlt:k < ((wA a b).take n).length:=by rw [List.length_take];omega
    have hy:yM ((wA a b).take n) k (a[k],b[k])=some ():=by
      unfold yM;rw [if_pos];rw [List.getElem?_take,if_pos (by omega)];unfold wA;rw [List.getElem?_eq_getElem (by simp;omega)]
      simp
    have hlen:((wA a b).take n).length=n:=by rw [List.length_take];omega
    by_cases hg:stop=true∧m=0
    · refine ⟨.inr (k+1),zM ?_,.inr (by rw [show k+1=n by omega])⟩
      have hgo:goB stop ((wA a b).take n).length k=false:=by
        rw [hlen];unfold goB;rw [hg.1,show k+1=n by omega];simp [Nat.beq_refl]
      simp only [xU,e,cond_true,zW ka,zW kb,zA,hy,hgo,Bool.not_false]
    · obtain ⟨y,h2,h3⟩:=ih (k+1) (by omega) (fun hs=>by
        rcases Nat.eq_zero_or_pos m with h | h
        · exact absurd ⟨hs,h⟩ hg
        · exact h)
      refine ⟨y,?_,h3⟩;have hgo:goB stop ((wA a b).take n).length k=true:=by
        rw [hlen];unfold goB;cases stop with
        | false=>rfl
        | true=>
          have hb:Nat.beq (k+1) n=false:=by
            cases h:Nat.beq (k+1) n with
            | false=>rfl
            | true=>have:=Nat.eq_of_beq_eq_true h;exact absurd ⟨rfl,by omega⟩ hg
          rw [hb];rfl
      rw [zU (x':=(((k+1:Nat):Int),k+1)) (by simp only [xU,e,cond_true,zW ka,zW kb,zA,hy,hgo,Bool.not_true,cond_false,zP (k:=k) (by omega)])];exact h2
theorem zZS {a b:List Int} {n:Nat} {stop:Bool} (ha:a.length≤1000000000) (hn:n≤(wA a b).length) (h0:stop=true→0 < n) (h1:stop=false→n=(wA a b).length):zCG ((wA a b).take n) stop a b=some ():=by
 unfold zCG;obtain ⟨y,h2,h3⟩:=pr0 ha hn h0 h1 n 0 (by omega) h0;rw [show ((0:Nat):Int)=0 from rfl] at h2;rw [h2,zA];have hlen:((wA a b).take n).length=n:=by rw [List.length_take];omega
 have he:zRC ((wA a b).take n) n=some ():=by unfold zRC;rw [hlen,if_pos rfl]
 rcases h3 with rfl | rfl;exact he;exact he
theorem z32:∀{a b:List Int},b.length≤a.length→((∀p∈a.zip b,p.1=p.2)↔a.take b.length=b)
 | _,[],_=>by simp
 | [],y::b,h=>by simp at h
 | x::a,y::b,h=>by
  have ih:=z32 (a:=a) (b:=b) (by simpa using h);simp only [List.zip_cons_cons,List.mem_cons,forall_eq_or_imp,List.length_cons,List.take_succ_cons,List.cons.injEq];rw [ih]
noncomputable def stE0 (n:Norm) (c:Collation) (o:Options) (a b:List Int):Bool:=decide ((row0 b).length≤(row0 a).length∧(row0 a).take (row0 b).length=row0 b) where
 row0 (t:List Int):List Int:=(wts (eLm n c t) (zA6 o)).headD []
section
variable {n:Norm} {c:Collation} (hn:NSm n) (hok:wS n) (hs:Sm c) (hg:∀g∈c.Groups,g.Name.length≤MX)
include hn hok hs hg
omit hn hok hs hg in
theorem w0 (o:Options) (t:List Int):yH (wts (eLm n c t) (zA6 o)) (0:Int)=some (stE0.row0 n c o t)∧(stE0.row0 n c o t).length≤(eLm n c t).length:=by
 unfold stE0.row0;have hl:=zJM (l:=eLm n c t) (zMC o);have hb:=yH4 (zMC o);cases hw:wts (eLm n c t) (zA6 o) with
 | nil=>rw [hw] at hl;simp at hl;omega
 | cons x xs=>
  refine ⟨rfl,?_⟩;have:x∈wts (eLm n c t) (zA6 o):=by rw [hw];simp
  exact zWL this
theorem yAQ (o:Options) {a b:List Int} (ha:TOk n a) (hb:TOk n b):vM n c o a b=some (stE0 n c o a b):=by
 unfold vM;have hA:=elL hs ha;have hB:=elL hs hb;obtain ⟨a1,a2⟩:=w0 (n:=n) (c:=c) o a;obtain ⟨b1,b2⟩:=w0 (n:=n) (c:=c) o b;rw [yEJ hn hok hs hg ha,zA,zHH (by omega),zA,a1,zA,yEJ hn hok hs hg hb,zA,zHH (by omega),zA,b1,zA];unfold stE0;generalize stE0.row0 n c o a=x at*;generalize stE0.row0 n c o b=y at*;by_cases hl:x.length < y.length;have e:decide ((x.length:Int) < (y.length:Int))=true:=by simp;omega
 have:¬(y.length≤x.length∧x.take y.length=y):=fun h=>by omega
 rw [e,cond_true];simp [this];have e:decide ((x.length:Int) < (y.length:Int))=false:=by simp;omega
 rw [e,cond_false];obtain ⟨m,f,h1,h2,h3,h4⟩:=yJ5 (wA x y);rw [h1,zA];have hz:=z32 (a:=x) (b:=y) (by omega);cases f with
 | true=>
  obtain ⟨q1,q2⟩:=h3 rfl;simp only [Bool.not_true];rw [zZS (by omega) h2 (fun h=>by cases h) (fun _=>q1),zA,cond_true];have:y.length≤x.length∧x.take y.length=y:=⟨by omega,hz.1 q2⟩;simp [this]
 | false=>
  obtain ⟨q1,p,hp,hq⟩:=h4 rfl;simp only [Bool.not_false];rw [zZS (by omega) h2 (fun _=>q1) (fun h=>by cases h),zA,cond_false];have:¬(y.length≤x.length∧x.take y.length=y):=fun h=>hq (hz.2 h.2 p hp);simp [this]
end
end Go.M
namespace Go.M
open Go.AV
def zCP (n:Nat):List Int:=(List.range n).map fun (i:Nat)=>(i:Int)
def kI (K:List (List Int)) (i:Int):List Int:=K.getD i.toNat []
def ltI (K:List (List Int)) (i j:Int):Bool:=decide (xY (kI K i) (kI K j) < 0)
theorem zR5 {K:List (List Int)} {i:Int} (h:0≤i∧i < K.length):yH K i=some (kI K i):=by
 have e:i=((i.toNat:Nat):Int):=by omega
 have hlt:i.toNat < K.length:=by omega
 rw [e,zW hlt];unfold kI;rw [Int.toNat_natCast,List.getD_eq_getElem?_getD,List.getElem?_eq_getElem hlt];rfl
theorem zJN (n:Nat):(zCP n).length=n:=by simp [zCP]
theorem zR6 {n:Nat} {x:Int} (h:x∈zCP n):0≤x∧x < n:=by obtain ⟨i,hi,rfl⟩:=List.mem_map.1 h;have:=List.mem_range.1 hi;omega
theorem so0 {n:Nat} {z:List Int} (hz:z.length=n) (hn:n≤1000):∀(m k:Nat) (r:List Int),k+m=n→r.length=n→r.take k=zCP k→zG (fun (x:Int×(List Int))=>zAL z x.1 x.2) ((k:Int),r)=some (zCP n)
 | 0,k,r,h,hr,hk=>by
  have e:r=zCP n:=by
   rw [List.take_of_length_le (by omega)] at hk;rw [hk,show k=n by omega]
  rw [e];exact zM (by simp only [zAL,hz,kW (show n≤k by omega),cond_false])
 | m+1,k,r,h,hr,hk=>by
  have hlt:k < r.length:=by omega
  have e:decide ((k:Int) < (z.length:Int))=true:=by rw [hz];exact kK (by omega)
  rw [zU (x':=(((k+1:Nat):Int),r.set k (k:Int))) (by simp only [zAL,e,cond_true,zW hlt,zDX hlt,zA,zP (k:=k) (by omega)])];refine so0 hz hn m (k+1) _ (by omega) (by simpa using hr) ?_;rw [List.take_add_one,List.take_set_of_le (Nat.le_refl _),hk];simp [zCP,List.range_succ,hlt]
section
variable {n:Norm} {c:Collation} (hn:NSm n) (hok:wS n) (hs:Sm c) (hg:∀g∈c.Groups,g.Name.length≤MX)
include hn hok hs hg
theorem ks0 (o:Options) {T:List (List Int)} (hT:∀t∈T,TOk n t) (hl:T.length≤1000):∀(m k:Nat) (r:List (List Int)),k+m=T.length→r.length=T.length→r.take k=(T.map (sK n c o)).take k→
  zG (fun (x:Int×(List (List Int)))=>zAK T n c o x.1 x.2) ((k:Int),r)=some (T.map (sK n c o))
 | 0,k,r,h,hr,hk=>by
  have e:r=T.map (sK n c o):=by
   rw [List.take_of_length_le (by omega),List.take_of_length_le (by simp;omega)] at hk
   exact hk
  rw [e];exact zM (by simp only [zAK,kW (show T.length≤k by omega),cond_false])
 | m+1,k,r,h,hr,hk=>by
  have h1:k < T.length:=by omega
  have h2:k < r.length:=by omega
  rw [zU (x':=(((k+1:Nat):Int),r.set k (sK n c o T[k]))) (by simp only [zAK,kK h1,cond_true,zW h1,zA,kE hn hok hs hg o (hT _ (List.getElem_mem h1)),zW h2,zDX h2,zP (k:=k) (by omega)])];refine ks0 o hT hl m (k+1) _ (by omega) (by simpa using hr) ?_;rw [List.take_add_one,List.take_set_of_le (Nat.le_refl _),hk,List.take_add_one];simp [h1,h2]
theorem z33 (o:Options) {T:List (List Int)} (hT:∀t∈T,TOk n t) (hl:T.length≤1000):zDB n c o T=some (T.map (sK n c o)):=by unfold zDB;rw [zOG (by omega),zA];have:=ks0 hn hok hs hg o hT hl T.length 0 (List.replicate T.length []) (by omega) (by simp) (by simp);rw [show ((0:Nat):Int)=0 from rfl] at this;rw [this];rfl
theorem zZT (o:Options) {T:List (List Int)} (hT:∀t∈T,TOk n t) (hl:T.length≤19):zB2 n c o T=some (vA (ltI (T.map (sK n c o))) (zCP T.length) []):=by
 unfold zB2;rw [z33 hn hok hs hg o hT (by omega),zA,zOG (by omega),zA];have h0:=so0 (n:=T.length) (z:=List.replicate T.length (0:Int)) (by simp) (by omega) T.length 0 (List.replicate T.length (0:Int)) (by omega) (by simp) (by simp [zCP]);rw [show ((0:Nat):Int)=0 from rfl] at h0;rw [h0,zA];have hq:∀x y:Int,(0≤x∧x < T.length)→(0≤y∧y < T.length)→∃q,zBK x y (T.map (sK n c o))=some q∧decide (q < 0)=ltI (T.map (sK n c o)) x y:=fun x y hx hy=>by
  have hx':0≤x∧x < (T.map (sK n c o)).length:=by rw [List.length_map];exact hx
  have hy':0≤y∧y < (T.map (sK n c o)).length:=by rw [List.length_map];exact hy
  have hk:(kI (T.map (sK n c o)) x).length≤4611686018427387904:=by
   have hlt:x.toNat < T.length:=by omega
   unfold kI;rw [List.getD_eq_getElem?_getD,List.getElem?_map,List.getElem?_eq_getElem hlt];exact kL hs o (hT _ (List.getElem_mem hlt))
  refine ⟨xY (kI (T.map (sK n c o)) x) (kI (T.map (sK n c o)) y),?_,rfl⟩;unfold zBK;rw [zR5 hx',zA,zR5 hy',zA,zD5 hk,zA]
 have hI:=yFH (Q:=fun x=>0≤x∧x < (T.length:Int)) (lt:=ltI (T.map (sK n c o))) (g:=fun x0 x1=>zBK x0 x1 (T.map (sK n c o))) hq (p:=[]) (m:=zCP T.length) (t:=[]) (a:=0) (b:=(T.length:Int)) rfl (by rw [zJN];simp) (fun y hy=>zR6 hy) (by rw [zJN];simp;omega)
 simp only [List.nil_append,List.append_nil] at hI;unfold yL xR;rw [zJN];have e20:decide ((20:Int)≤(T.length:Int))=false:=by simp;omega
 have e21:decide ((20:Int) < (T.length:Int))=false:=by simp;omega
 rw [zM (y:=((0:Int),zCP T.length)) (by simp only [z7,e20,cond_false]),zA,hI,zA,zM (y:=vA (ltI (T.map (sK n c o))) (zCP T.length) []) (by simp only [yE,e21,cond_false])];rfl
end
def cL:Collation:={Entries:=[{Codes:=[65],Elements:=[{Primary:=5,Secondary:=32,Tertiary:=8,Variable:=false}]},{Codes:=[97],Elements:=[{Primary:=5,Secondary:=32,Tertiary:=2,Variable:=false}]}],Groups:=[],Base:=64448,Second:=32,Third:=2}
def oL:Options:={Strength:=3,Variable:=1,Backward:=false,Identical:=false}
theorem z1Z:Sm cL:=⟨by decide,by decide,by decide,by decide⟩
theorem zUM (t:List Int) (h:∀x∈t,syl x=false):zF6 nZ false t=t:=by unfold zF6;rw [zR1];refine zV8 fun e he=>?_;have hs:=h e he;unfold fu exF;show hdE e= [e];unfold hdE;rw [hs];rfl
theorem sKL {t:List Int} (h:∀x∈t,syl x=false) (hd:csE (clE []) t=t):sK nZ cL oL t=zGM oL (wk cL [] t).1 t:=by
 unfold sK eLm;have e:zB9 nZ false t=t:=by unfold zB9;rw [zUM t h,zR1];exact hd
 rw [e,zZQ,zZO (o:=oL) rfl]
end Go.M


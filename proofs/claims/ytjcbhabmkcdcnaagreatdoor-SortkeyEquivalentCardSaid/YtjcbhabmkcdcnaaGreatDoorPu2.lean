/- What the plain counterparts answer. Conditions: none. -/
import Derived.Test.YtjcbhabmkcdcnaaGreatDoorPu1
set_option linter.unusedSimpArgs false
set_option linter.unusedVariables false
set_option linter.unnecessarySimpa false
namespace Go.M
open Go.AV
open Classical in
noncomputable def zBM (n:Norm):List Span:=if VD0 n then n.Classes else []
theorem z59:CV []:=⟨fun k h=>(by cases h),fun k h=>(by cases h),fun k h=>(by cases h)⟩
theorem z6A (n:Norm):CV (zBM n):=by
 unfold zBM
 split
 rename_i h;exact h.cv
 exact z59
theorem zRR {n:Norm} (hs:NSm n):(zBM n).length≤40:=by
 unfold zBM
 split
 exact hs.cl
 simp
def zQB (l:List Span) (t:Int):Int:=l.foldl (fun t s=>max t s.Value) t
def zIV (c:Collation) (l:List Span):Colltable_table:={zMB c with classes:=l,top:=zQB l 0}
theorem z6B {l:List Span} (hl:l.length≤2000):∀(d k:Nat) (t:Int),l.length - k=d→k≤l.length→zE (fun (x:Int×Int)=>k4 l x.1 x.2) ((k:Int),t)=some (zQB (l.drop k) t):=by
 intro d
 induction d with
 | zero=>
  intro k t h1 h2
  rw [List.drop_of_length_le (by omega)]
  refine zK ?_
  simp only [k4,kM (show l.length≤k by omega),cond_false]
  rfl
 | succ d ih=>
  intro k t h1 h2
  have hk:k < l.length:=by omega
  rw [List.drop_eq_getElem_cons hk]
  rw [zO (x':=(((k+1:Nat):Int),max t l[k].Value)) (by simp only [k4,yZ hk,cond_true,zZ hk,zA,zL (k:=k) (by omega)])]
  exact ih (k+1) _ (by omega) (by omega)
theorem z9U {c:Collation} {n:Norm} (hs:NSm n) (hok:zBI n):wH (zMB c) n=some (zIV c (zBM n)):=by
 obtain ⟨e,he,hp⟩:=z51 hs hok
 unfold wH
 rw [he,zA]
 have h1:(cond (decide (e=0)) (some n.Classes) (some (zMB c).classes):Option (List Span))=some (zBM n):=by
  unfold zBM
  by_cases h:e=0
  rw [if_pos (hp.1 h)];simp [h]
  rw [if_neg (fun hh=>h (hp.2 hh))];simp [h,zMB]
 rw [h1,zA]
 have h2:=z6B (l:=zBM n) (by have:=zRR hs;omega) (zBM n).length 0 0 (by omega) (by omega)
 rw [List.drop_zero] at h2
 have h2':zE (fun (x:Int×Int)=>k4 (zBM n) x.1 x.2) (0,(zMB c).top)=some (zQB (zBM n) 0):=h2
 rw [h2']
 rfl
theorem zIW {c:Collation} (hs:Sm c) {l:List Span} {codes:List Int}:k7 (zIV c l) codes=some (zEY (k8 c).Entries codes):=z9D hs (codes:=codes)
theorem zI8 {c:Collation} {l:List Span} (h:CV l) (hl:l.length≤2000) (x:Int):xM (zIV c l) x=some (clE l x):=by
 obtain ⟨j,hj,hr,hlo,hhi⟩:=zS1 (n:=l.length) hl (body:=fun (q:Int×Int)=>zAI (fun x0=>j8 x0 (zIV c l) x) q.1 q.2) (fun k=>decide (x≤(nth l k).Hi))
  (fun k _=>by simp only [zAI,kM (Nat.le_refl _),cond_false])
  (fun lo hi h1 h2=>by
   have hm:(lo+hi) / 2 < l.length:=by omega
   have hi1:yF (zIV c l).classes (((lo+hi) / 2:Nat):Int)=some (nth l ((lo+hi) / 2)):=zW hm
   simp only [zAI,yZ h1,cond_true,zKE (show lo+hi≤4611686018427387903 by omega),j8,hi1,zA,zL (k:=(lo+hi) / 2) (by omega)]
   by_cases hc:x≤(nth l ((lo+hi) / 2)).Hi <;> simp [hc])
  (fun i j hij hj hi=>by
   have:=h.hi hij hj
   simp only [decide_eq_true_eq] at hi ⊢
   omega)
 simp only [decide_eq_false_iff_not,decide_eq_true_eq] at hlo hhi
 unfold xM zF3
 have e0:(zIV c l).classes=l:=rfl
 rw [e0,hr,yBF h hj (fun k hk=>by have:=hlo k hk;omega) hhi]
 simp only [zA,zN]
 by_cases hn:j < l.length
 simp only [yZ hn,vX,zW hn,zA,Bool.true_and,hn,true_and]
 by_cases hc2:(nth l j).Lo≤x <;> simp [hc2]
 simp only [kM (show l.length≤j by omega),zBA,zA,Bool.false_and,cond_false,hn,false_and,if_false]
theorem zX7:∀(l:List Span) (t:Int),t≤zQB l t∧∀s∈l,s.Value≤zQB l t
 | [],t=>⟨Int.le_refl _,fun s h=>by cases h⟩
 | x::l,t=>by
  have ih:=zX7 l (max t x.Value)
  refine ⟨by show t≤zQB l (max t x.Value);omega,fun s hs=>?_⟩
  show s.Value≤zQB l (max t x.Value)
  rcases List.mem_cons.1 hs with rfl | hs
  omega
  exact ih.2 s hs
theorem yFZ {l:List Span} (x:Int):clE l x≤zQB l 0:=by
 unfold clE
 cases hf:l.find? (zNN x) with
 | none=>exact (zX7 l 0).1
 | some s=>exact (zX7 l 0).2 s (List.mem_of_find?_eq_some hf)
theorem yBN {l:List Span} (h:CV l) (x:Int):0≤clE l x:=by
 unfold clE
 cases hf:l.find? (zNN x) with
 | none=>exact Int.le_refl _
 | some s=>
  have:=List.mem_of_find?_eq_some hf
  obtain ⟨k,hk,rfl⟩:=List.getElem_of_mem this
  have:=h.sp k hk
  rw [zAX hk] at this
  unfold spOk at this
  show 0≤(l[k]).Value
  omega
def zLI (p:Nat→Bool):Nat→Nat
 | 0=>0
 | k+1=>if p (k+1) then k+1 else zLI p k
theorem zPD (p:Nat→Bool):∀k,zLI p k≤k
 | 0=>Nat.le_refl _
 | k+1=>by unfold zLI;split;omega;have:=zPD p k;omega
theorem zRS {p : Nat → Bool} {m : Nat} : ∀ {k : Nat}, m ≤ k → (∀ j, m < j → j ≤ k → p j = false) → zLI p k = zLI p m
  | 0, h, _ => by have : m = 0 := by omega
                  rw [this]
  | k + 1, h, hp => by
    by_cases e : m = k + 1
    · rw [e]
    · unfold zLI
      rw [hp (k + 1) (by omega) (Nat.le_refl _)]
      simp only [Bool.false_eq_true, if_false]
      rw [zRS (m := m) (by omega) fun j h1 h2 => hp j h1 (by omega)]
      cases m <;> rfl
def pfx (es:List Entry) (text:List Int) (k:Nat):Bool:=(zEY es (text.take k)).2
def zB1 (es:List Entry) (text:List Int):Nat:=zLI (pfx es text) text.length
def zEJ (fd:List Int→Bool) (cl:Int→Int):List Int→List Int→List Int→Int→List Int×List Int
 | [],p,s,_=>(p,s)
 | x::r,p,s,h=>if cl x=0 then (p,s++x::r) else if fd (p++ [x])&&decide (h < cl x) then zEJ fd cl r (p++ [x]) s h else zEJ fd cl r p (s++ [x]) (max h (cl x))
theorem zRT {fd:List Int→Bool} {cl:Int→Int}:∀(r p s:List Int) (h:Int),(∀x,cl x≤h)→zEJ fd cl r p s h=(p,s++r)
 | [],p,s,h,_=>by simp [zEJ]
 | x::r,p,s,h,hc=>by
  have hx:=hc x
  unfold zEJ
  split
  rfl
  have e:decide (h < cl x)=false:=by simp;omega
  rw [e,Bool.and_false,if_neg (by simp),zRT r p (s++ [x]) (max h (cl x)) (fun y=>by have:=hc y;omega)]
  simp
theorem zPE {fd:List Int→Bool} {cl:Int→Int}:∀(r p s:List Int) (h:Int),p.length≤(zEJ fd cl r p s h).1.length∧(zEJ fd cl r p s h).1.length+(zEJ fd cl r p s h).2.length=p.length+s.length+r.length∧((zEJ fd cl r p s h).1.length=p.length→zEJ fd cl r p s h=(p,s++r))
 | [],p,s,h=>by simp [zEJ]
 | x::r,p,s,h=>by
  unfold zEJ
  split
  refine ⟨Nat.le_refl _,by simp;omega,fun _=>rfl⟩
  split
  have ih:=zPE (fd:=fd) (cl:=cl) r (p++ [x]) s h
  simp only [List.length_append,List.length_cons,List.length_nil] at ih ⊢
  exact ⟨by omega,by omega,fun e=>by omega⟩
  have ih:=zPE (fd:=fd) (cl:=cl) r p (s++ [x]) (max h (cl x))
  simp only [List.length_append,List.length_cons,List.length_nil] at ih ⊢
  refine ⟨ih.1,by omega,fun e=>?_⟩
  rw [ih.2.2 e];simp
section
variable {c:Collation} (hs:Sm c) {l:List Span} (hcv:CV l) (hl:l.length≤2000)
include hs
theorem mL0 {text:List Int} (ht:text.length≤2000):∀k,k≤text.length→zE (fun (x:Int)=>kL text (zIV c l) x) (k:Int)=some ((zLI (pfx (k8 c).Entries text) k:Nat):Int)
 | 0,_=>by
  refine zK ?_
  have:decide ((0:Int) < ((0:Nat):Int))=false:=rfl
  simp only [kL,this,cond_false]
  rfl
 | k+1,hk=>by
  have hd:decide ((0:Int) < ((k+1:Nat):Int))=true:=by simp <;> omega
  have ih:=mL0 ht k (by omega)
  unfold zLI
  cases hp:pfx (k8 c).Entries text (k+1) with
  | true=>
   rw [if_pos rfl]
   refine zK ?_
   unfold pfx at hp
   simp only [kL,hd,cond_true,zIU hk,zA,zIW hs,hp]
  | false=>
   rw [if_neg (by simp),←ih]
   refine zO ?_
   unfold pfx at hp
   simp only [kL,hd,cond_true,zIU hk,zA,zIW hs,hp,cond_false,zCR (k:=k) (by omega)]
omit hs in
theorem z6C {text:List Int} {k:Nat} (hk:k≤text.length) (h:zLD (k8 c).Entries 0 < (k:Int)):pfx (k8 c).Entries text k=false:=by
 have h1:=zSY (k8 c).Entries 0
 unfold pfx zEY
 have:(k8 c).Entries.find? (fun x=>decide (x.Codes=text.take k))=none:=by
  rw [List.find?_eq_none]
  intro x hx
  simp only [decide_eq_true_eq]
  intro e
  have h2:=h1.2 x hx
  rw [e] at h2
  have:(text.take k).length=k:=by simp;omega
  omega
 rw [this]
theorem yDM {text:List Int} (ht:text.length≤2000):zE (fun (x:Int)=>kL text (zIV c l) x) (min (zIV c l).longest (text.length:Int))=some ((zB1 (k8 c).Entries text:Nat):Int):=by
 have h1:=zSY (k8 c).Entries 0
 have e:(zIV c l).longest=zLD (k8 c).Entries 0:=rfl
 rw [e]
 obtain ⟨m,hm⟩:∃m:Nat,min (zLD (k8 c).Entries 0) (text.length:Int)=(m:Int):=⟨(min (zLD (k8 c).Entries 0) (text.length:Int)).toNat,by omega⟩
 rw [hm,mL0 hs ht m (by omega)]
 unfold zB1
 rw [zRS (p:=pfx (k8 c).Entries text) (m:=m) (k:=text.length) (by omega) fun j h2 h3=>z6C h3 (by omega)]
omit hs in
theorem yDN {p s r:List Int} {x:Int}:vZ (cpM (p++s++x::r) ((p.length+1:Nat):Int) ((p.length+s.length+1:Nat):Int) (p.length:Int) ((p.length+s.length:Nat):Int)) (p.length:Int) x=some ((p++ [x])++s++r):=by
 have e1:((p++s++x::r).drop p.length).take (p.length+s.length - p.length)=s:=by
  rw [List.append_assoc,List.drop_left]
  have:p.length+s.length - p.length=s.length:=by omega
  rw [this,List.take_left]
 have e2:min (p.length+s.length - p.length) (p.length+s.length+1 - (p.length+1))=s.length:=by omega
 unfold cpM
 simp only [Int.toNat_natCast]
 rw [e1,e2,List.take_of_length_le (Nat.le_refl _)]
 cases s with
 | nil=>
  have hx:(p++ []++x::r)=p++x::r:=by simp
  rw [hx]
  have e3:(p++x::r).take (p.length+1)=p++ [x]:=by
   rw [List.take_append,List.take_of_length_le (by omega)]
   simp
  have e4:(p++x::r).drop (p.length+1+([]:List Int).length)=r:=by
   rw [List.drop_append,List.drop_of_length_le (by simp)]
   simp
  rw [e3,e4]
  have:p++ [x]++ []++r=p++x::r:=by simp
  rw [this,vB rfl]
 | cons y s=>
  have hx:(p++(y::s)++x::r)=p++y::(s++x::r):=by simp
  rw [hx]
  have e3:(p++y::(s++x::r)).take (p.length+1)=p++ [y]:=by
   rw [List.take_append,List.take_of_length_le (by omega)]
   simp
  have e4:(p++y::(s++x::r)).drop (p.length+1+(y::s).length)=r:=by
   have:p++y::(s++x::r)=(p++y::(s++ [x]))++r:=by simp
   rw [this,List.drop_left' (by simp;omega)]
  rw [e3,e4]
  have:p++ [y]++(y::s)++r=p++y::((y::s)++r):=by simp
  rw [this,vB rfl]
  simp
include hcv hl
theorem mL1 : ∀ (r p s : List Int) (h : Int), p.length + s.length + r.length ≤ 2000 →
    zE (fun (x : Int × Int × Int × (List Int)) => yQ (zIV c l) x.1 x.2.1 x.2.2.1 x.2.2.2) ((p.length : Int), h, ((p.length + s.length : Nat) : Int), p ++ s ++ r) =
      some ((((zEJ (fun q => (zEY (k8 c).Entries q).2) (clE l) r p s h).1.length : Nat) : Int), (zEJ (fun q => (zEY (k8 c).Entries q).2) (clE l) r p s h).1 ++ (zEJ (fun q => (zEY (k8 c).Entries q).2) (clE l) r p s h).2)
  | [], p, s, h, _ => by
    refine zK ?_
    have : decide (((p.length + s.length : Nat) : Int) < ((p ++ s ++ []).length : Int)) = false := by simp
    simp only [yQ, zN, this, Bool.false_and, cond_false]
    simp [zEJ]
  | x :: r, p, s, h, hn => by
    simp only [List.length_cons] at hn
    have hd : decide (((p.length + s.length : Nat) : Int) < ((p ++ s ++ x :: r).length : Int)) = true := by simp <;> omega
    have hi : yF (p ++ s ++ x :: r) ((p.length + s.length : Nat) : Int) = some x := xG (by simp)
    have etop : (zIV c l).top = zQB l 0 := rfl
    by_cases htop : h < zQB l 0
    · have hd2 : decide (h < (zIV c l).top) = true := by rw [etop]; simpa using htop
      by_cases h0 : clE l x = 0
      · refine zK ?_
        simp only [yQ, zN, hd, hd2, Bool.and_self, cond_true, hi, zA, zI8 hcv hl, h0, decide_true, Sum.elim_inl]
        unfold zEJ
        rw [if_pos h0]
        simp
      · unfold zEJ
        rw [if_neg h0]
        by_cases hk : clE l x ≤ h
        · have e : decide (h < clE l x) = false := by simp; omega
          rw [e, Bool.and_false, if_neg (by simp)]
          rw [zO (x' := ((p.length : Int), h, ((p.length + (s ++ [x]).length : Nat) : Int), p ++ (s ++ [x]) ++ r)) (by
            have e2 : p ++ (s ++ [x]) ++ r = p ++ s ++ x :: r := by simp
            have e3 : p.length + (s ++ [x]).length = p.length + s.length + 1 := by simp; omega
            rw [e2, e3]
            simp only [yQ, zN, hd, hd2, Bool.and_self, cond_true, hi, zA, zI8 hcv hl, h0, hk, decide_true, decide_false, cond_false, Sum.elim_inr, zL (k := p.length + s.length) (by omega)])]
          have := mL1 r p (s ++ [x]) h (by simp; omega)
          rw [show max h (clE l x) = h by omega]
          exact this
        · have e : decide (h < clE l x) = true := by simp; omega
          rw [e, Bool.and_true]
          have s1 : slc (p ++ s ++ x :: r) 0 (p.length : Int) = some p := by
            rw [zIU (by simp)]
            simp
          have a1 : app p [x] = some (p ++ [x]) := u5 (by simp; omega)
          cases hf : (zEY (k8 c).Entries (p ++ [x])).2 with
          | false =>
            rw [if_neg (by simp)]
            rw [zO (x' := ((p.length : Int), clE l x, ((p.length + (s ++ [x]).length : Nat) : Int), p ++ (s ++ [x]) ++ r)) (by
              have e2 : p ++ (s ++ [x]) ++ r = p ++ s ++ x :: r := by simp
              have e3 : p.length + (s ++ [x]).length = p.length + s.length + 1 := by simp; omega
              rw [e2, e3]
              simp only [yQ, zN, hd, hd2, Bool.and_self, cond_true, hi, zA, zI8 hcv hl, h0, hk, decide_false, cond_false, s1, a1, zIW hs, hf, Bool.not_false, Sum.elim_inr, zL (k := p.length + s.length) (by omega)])]
            have := mL1 r p (s ++ [x]) (clE l x) (by simp; omega)
            rw [show max h (clE l x) = clE l x by omega]
            exact this
          | true =>
            rw [if_pos rfl]
            have sc1 : ∃ q, slc (p ++ s ++ x :: r) ((p.length + 1 : Nat) : Int) ((p.length + s.length + 1 : Nat) : Int) = some q := ⟨_, zSW (by omega) (by simp; omega)⟩
            have sc2 : ∃ q, slc (p ++ s ++ x :: r) (p.length : Int) ((p.length + s.length : Nat) : Int) = some q := ⟨_, zSW (by omega) (by simp)⟩
            obtain ⟨q1, hq1⟩ := sc1
            obtain ⟨q2, hq2⟩ := sc2
            have hcp := yDN (p := p) (s := s) (r := r) (x := x)
            obtain ⟨_, _, hlt⟩ := zI0 hcp
            have hix : ∃ q, yF (cpM (p ++ s ++ x :: r) ((p.length + 1 : Nat) : Int) ((p.length + s.length + 1 : Nat) : Int) (p.length : Int) ((p.length + s.length : Nat) : Int)) (p.length : Int) = some q := ⟨_, zZ (by simpa using hlt)⟩
            obtain ⟨q3, hq3⟩ := hix
            rw [zO (x' := (((p ++ [x]).length : Int), h, (((p ++ [x]).length + s.length : Nat) : Int), (p ++ [x]) ++ s ++ r)) (by
              have e3 : (p ++ [x]).length + s.length = p.length + s.length + 1 := by simp; omega
              have e4 : (p ++ [x]).length = p.length + 1 := by simp
              rw [e3, e4]
              simp only [yQ, zN, hd, hd2, Bool.and_self, cond_true, hi, zA, zI8 hcv hl, h0, hk, decide_false, cond_false, s1, a1, zIW hs, hf, Bool.not_true, zL (k := p.length + s.length) (by omega), zL (k := p.length) (by omega), hq1, hq2, hq3, hcp, Sum.elim_inr])]
            exact mL1 r (p ++ [x]) s h (by simp; omega)
    · have hd2 : decide (h < (zIV c l).top) = false := by rw [etop]; simpa using htop
      have hm := zRT (fd := fun q => (zEY (k8 c).Entries q).2) (cl := clE l) (x :: r) p s h (fun y => by have := yFZ (l := l) y; omega)
      rw [hm]
      refine zK ?_
      simp only [yQ, zN, hd, hd2, Bool.and_false, cond_false, List.append_assoc]
noncomputable def stE (c:Collation) (l:List Span) (text:List Int):Int×List Int×List Element:=if zB1 (k8 c).Entries text=0 then (1,text.drop 1,zX2 (k8 c) (nth text 0)) else
 ((((zEJ (fun q=>(zEY (k8 c).Entries q).2) (clE l) (text.drop (zB1 (k8 c).Entries text)) (text.take (zB1 (k8 c).Entries text)) [] 0).1.length:Nat):Int),(zEJ (fun q=>(zEY (k8 c).Entries q).2) (clE l) (text.drop (zB1 (k8 c).Entries text)) (text.take (zB1 (k8 c).Entries text)) [] 0).2,(zEY (k8 c).Entries (zEJ (fun q=>(zEY (k8 c).Entries q).2) (clE l) (text.drop (zB1 (k8 c).Entries text)) (text.take (zB1 (k8 c).Entries text)) [] 0).1).1)
theorem z6D {text:List Int} (ht:text.length≤2000) (h0:text≠[]):∃seq,xN (zIV c l) text=some ((stE c l text).1,(stE c l text).2.2,decide (zB1 (k8 c).Entries text≠0),seq)∧slc seq (stE c l text).1 (seq.length:Int)=some (stE c l text).2.1:=by
 unfold xN
 rw [yDM hs ht,zA]
 have hpos:0 < text.length:=List.length_pos_iff.2 h0
 by_cases hz:zB1 (k8 c).Entries text=0
 have e1:decide (((zB1 (k8 c).Entries text:Nat):Int)=0)=true:=by simp [hz]
 have i0:yF text (0:Int)=some (nth text 0):=zW (k:=0) hpos
 have hst:stE c l text=(1,text.drop 1,zX2 (k8 c) (nth text 0)):=by unfold stE;rw [if_pos hz]
 have him:jH (zIV c l) (nth text 0)=some (zX2 (k8 c) (nth text 0)):=zVR c (nth text 0)
 rw [e1,cond_true,i0,zA,him,zA,hst]
 refine ⟨text,?_,?_⟩
 simp [hz]
 exact zVL (l:=text) (a:=1) (by omega)
 have e1:decide (((zB1 (k8 c).Entries text:Nat):Int)=0)=false:=by simp;omega
 rw [e1,cond_false]
 have hle:zB1 (k8 c).Entries text≤text.length:=zPD _ _
 have h1:=mL1 hs hcv hl (text.drop (zB1 (k8 c).Entries text)) (text.take (zB1 (k8 c).Entries text)) [] 0 (by simp;omega)
 have e2:(text.take (zB1 (k8 c).Entries text)).length=zB1 (k8 c).Entries text:=by simp;omega
 have e3:text.take (zB1 (k8 c).Entries text)++ []++text.drop (zB1 (k8 c).Entries text)=text:=by simp
 rw [e3,e2] at h1
 simp only [List.length_nil,Nat.add_zero] at h1
 rw [h1,zA]
 have hst:stE c l text=((((zEJ (fun q=>(zEY (k8 c).Entries q).2) (clE l) (text.drop (zB1 (k8 c).Entries text)) (text.take (zB1 (k8 c).Entries text)) [] 0).1.length:Nat):Int),(zEJ (fun q=>(zEY (k8 c).Entries q).2) (clE l) (text.drop (zB1 (k8 c).Entries text)) (text.take (zB1 (k8 c).Entries text)) [] 0).2,(zEY (k8 c).Entries (zEJ (fun q=>(zEY (k8 c).Entries q).2) (clE l) (text.drop (zB1 (k8 c).Entries text)) (text.take (zB1 (k8 c).Entries text)) [] 0).1).1):=by unfold stE;rw [if_neg hz]
 rw [hst]
 generalize zEJ (fun q=>(zEY (k8 c).Entries q).2) (clE l) (text.drop (zB1 (k8 c).Entries text)) (text.take (zB1 (k8 c).Entries text)) [] 0=q
 have s1:slc (q.1++q.2) 0 ((q.1.length:Nat):Int)=some q.1:=by rw [zIU (by simp)];simp
 simp only [s1,zA,zIW hs]
 refine ⟨q.1++q.2,?_,?_⟩
 simp [hz]
 rw [zVL (by simp)];simp
end
end Go.M
namespace Go.M
open Go.AV
def n0:Norm:={Classes:=[{Lo:=769,Hi:=769,Value:=230},{Lo:=803,Hi:=803,Value:=220}],Decomp:=[],Excluded:={Ranges:=[]}}
def c0:Collation:={Entries:=[{Codes:=[97],Elements:=[{Primary:=7,Secondary:=1,Tertiary:=1,Variable:=false}]},{Codes:=[97,769],Elements:=[{Primary:=8,Secondary:=1,Tertiary:=1,Variable:=false}]}],Groups:=[],Base:=100,Second:=1,Third:=1}
end Go.M
namespace Go.M
open Go.AV
theorem z6E {n:Norm} (h:DS n.Decomp) (hl:n.Decomp.length≤2000) (c:Int) (b:Bool):wG n c b=some (if syl c=true then (hdE c,true) else ((fnB n.Decomp b c).getD [],(fnB n.Decomp b c).isSome)):=by
 unfold wG
 rw [zI5,zA]
 by_cases hs:syl c=true
 have e:decide (4≤hkE c)=true:=by simpa using (zEZ c).1 hs
 simp only [e,cond_true,zY8 hs,zA,hs,if_true]
 have e:decide (4≤hkE c)=false:=by simp only [decide_eq_false_iff_not];exact fun hh=>hs ((zEZ c).2 hh)
 simp only [Bool.not_eq_true] at hs
 simp only [e,cond_false,hs,Bool.false_eq_true,if_false]
 obtain ⟨i,hb,hp⟩:=zZA h hl c
 rw [hb]
 simp only [zA,zN]
 unfold fnB
 cases hf:n.Decomp.find? (isF c) with
 | none=>simp [zBA]
 | some m=>
  obtain ⟨h1,h2⟩:=hp m hf
  simp only [Option.isSome_some,Bool.not_true,Bool.not_false,vX,zW h1,h2,zA,Bool.false_or]
  cases b <;> cases hm:(m.Tag== []) <;> simp [hm]
section
variable {n:Norm} {b:Bool} (hd:DS n.Decomp) (hl:n.Decomp.length≤2000) (hD:∀c,DD n.Decomp n.Decomp.length c) (hw:∀c,(fu n.Decomp b c).length≤64)
def XOk (l:List Mapping) (b:Bool) (m:List (Int×List Int)):Prop:= ∀k v,mget m k=some v→v=fu l b k
def zZL (l:List Mapping) (f:Nat) (c:Int):Prop:=(∃k,DD l k c∧k+2≤f)∨(l.find? (isF c)=none∧syl c=false∧1≤f)
include hw in
theorem yDO {f : Nat} (ih : ∀ c m, XOk n.Decomp b m → zZL n.Decomp f c → ∃ m', yU f c m n b = some (fu n.Decomp b c, m') ∧ XOk n.Decomp b m') (L : List Int) (hL : L.length ≤ 2000) (hn : ∀ e ∈ L, zZL n.Decomp f e) :
    ∀ (d i : Nat) (acc : List Int) (m : List (Int × List Int)), L.length - i = d → i ≤ L.length → acc.length ≤ 64 * i → XOk n.Decomp b m →
      ∃ m', zE (fun (x : Int × (List Int) × (List (Int × (List Int)))) => kO (L, true) (yU f) n b x.1 x.2.1 x.2.2) ((i : Int), acc, m) = some (acc ++ (L.drop i).flatMap (fu n.Decomp b), m') ∧ XOk n.Decomp b m' := by
  intro d
  induction d with
  | zero =>
    intro i acc m h1 h2 h3 h4
    refine ⟨m, ?_, h4⟩
    refine zK ?_
    rw [List.drop_of_length_le (show L.length ≤ i by omega)]
    simp only [kO, kM (show L.length ≤ i by omega), cond_false, List.flatMap_nil, List.append_nil]
  | succ d ihd =>
    intro i acc m h1 h2 h3 h4
    have hi : i < L.length := by omega
    obtain ⟨m1, hr, r1⟩ := ih L[i] m h4 (hn _ (List.getElem_mem hi))
    have hw1 := hw L[i]
    have ha : app acc (fu n.Decomp b L[i]) = some (acc ++ fu n.Decomp b L[i]) := u5 (by omega)
    rw [zO (x' := (((i + 1 : Nat) : Int), acc ++ fu n.Decomp b L[i], m1)) (by
      simp only [kO, yZ hi, cond_true, zZ hi, zA, hr, ha, zL (k := i) (by omega)])]
    obtain ⟨m2, hq, q1⟩ := ihd (i + 1) (acc ++ fu n.Decomp b L[i]) m1 (by omega) (by omega) (by rw [List.length_append]; omega) r1
    refine ⟨m2, ?_, q1⟩
    rw [hq, List.drop_eq_getElem_cons hi, List.flatMap_cons, List.append_assoc]
include hd hl hD hw in
theorem yF0:∀(f:Nat) (c:Int) (m:List (Int×List Int)),XOk n.Decomp b m→zZL n.Decomp f c→∃m',yU f c m n b=some (fu n.Decomp b c,m')∧XOk n.Decomp b m':=by
 intro f
 induction f with
 | zero=>intro c m _ hn;exfalso;rcases hn with ⟨k,_,h⟩ | ⟨_,_,h⟩ <;> omega
 | succ f ih=>
  intro c m hm hn
  show ∃m',xB (yU f) c m n b=some _∧_
  unfold xB
  cases hh:zA4 m c with
  | true=>
   obtain ⟨v,hv⟩:=Option.isSome_iff_exists.1 hh
   have hg:uA m c []=v:=by unfold uA;rw [hv];rfl
   rw [cond_true,hg,hm c v hv]
   exact ⟨m,rfl,hm⟩
  | false=>
   rw [cond_false,z6E hd hl,zA]
   have fin:∀(L:List Int),L.length≤2000→(∀e∈L,zZL n.Decomp f e)→L.flatMap (fu n.Decomp b)=fu n.Decomp b c→∃m',(cond (!((L,true):List Int×Bool).2) (some ([c],m)) ((zE (fun (x:Int×(List Int)×(List (Int×(List Int))))=>kO (L,true) (yU f) n b x.1 x.2.1 x.2.2) (0,[],m)).bind fun (y1:(List Int)×(List (Int×(List Int))))=>some (y1.1,uC y1.2 c y1.1)))=some (fu n.Decomp b c,m')∧XOk n.Decomp b m':=by
    intro L hL hne hfl
    obtain ⟨m1,hq,q1⟩:=yDO hw ih L hL hne L.length 0 [] m (by omega) (by omega) (by simp) hm
    rw [List.drop_zero,List.nil_append,hfl] at hq
    have hq':zE (fun (x:Int×(List Int)×(List (Int×(List Int))))=>kO (L,true) (yU f) n b x.1 x.2.1 x.2.2) (0,[],m)=some (fu n.Decomp b c,m1):=hq
    simp only [Bool.not_true,cond_false]
    rw [hq']
    refine ⟨uC m1 c (fu n.Decomp b c),rfl,fun k v hk=>?_⟩
    rw [j9] at hk
    split at hk
    rename_i hx;cases hk;rw [hx]
    exact q1 k v hk
   cases hs:syl c with
   | true=>
    simp only [if_true]
    have hnone:=zV2 hd hs
    have hpt:∀e∈hdE c,n.Decomp.find? (isF e)=none∧syl e=false:=by
     intro e he
     obtain ⟨p1,p2⟩:=zLE hs he
     refine ⟨?_,p1⟩
     cases hf2:n.Decomp.find? (isF e) with
     | none=>rfl
     | some m=>obtain ⟨q1,rfl⟩:=zDB hf2;exact absurd (hd.hk m q1) p2
    refine fin (hdE c) (by have:=zKD c;omega) (fun e he=>?_) ?_
    obtain ⟨p1,p2⟩:=hpt e he
    refine .inr ⟨p1,p2,?_⟩
    rcases hn with ⟨k,_,h⟩ | ⟨_,h,_⟩
    omega
    rw [hs] at h;cases h
    have h1:fu n.Decomp b c=hdE c:=by rw [zLH hD,zDC hnone]
    rw [h1]
    have:∀L:List Int,(∀e∈L,n.Decomp.find? (isF e)=none∧syl e=false)→L.flatMap (fu n.Decomp b)=L:=by
     intro L
     induction L with
     | nil=>intro _;rfl
     | cons x L ihL=>
      intro h
      obtain ⟨p1,p2⟩:=h x (by simp)
      have hx:fu n.Decomp b x= [x]:=by rw [zLH hD,zDC p1];show hdE x= [x];unfold hdE;rw [if_neg (by simp [p2])]
      rw [List.flatMap_cons,hx,ihL fun e he=>h e (by simp [he])]
      rfl
    exact this _ hpt
   | false=>
    simp only [Bool.false_eq_true,if_false]
    cases hf:fnB n.Decomp b c with
    | none=>
     simp only [Option.getD_none,Option.isSome_none,Bool.not_false,cond_true]
     refine ⟨m,?_,hm⟩
     rw [zLH hD,hf]
     have:hdE c= [c]:=by unfold hdE;rw [if_neg (by simp [hs])]
     simp only [this]
    | some to=>
     simp only [Option.getD_some,Option.isSome_some]
     obtain ⟨mm,h1,rfl,_⟩:=zFU hf
     obtain ⟨h2,_⟩:=zDB h1
     refine fin mm.To (hd.len mm h2) (fun e he=>?_) (by rw [zLH hD c,hf])
     rcases hn with ⟨k,hk,h⟩ | ⟨h,_,_⟩
     cases k with
     | zero=>have:n.Decomp.find? (isF c)=none:=hk;rw [this] at h1;cases h1
     | succ k=>exact .inl ⟨k,hk mm h1 e he,by omega⟩
     rw [h] at h1;cases h1
end
noncomputable def usN (n:Norm):Norm:=open Classical in if VD0 n then n else {Classes:=[],Decomp:=[],Excluded:={Ranges:=[]}}
structure GN (n:Norm):Prop where
 ds:DS n.Decomp
 cv:CV n.Classes
 H:∀m∈n.Decomp,WW n.Decomp m.From
 w:∀m∈n.Decomp,wt n.Decomp true m.From≤64
 cl:n.Classes.length≤40
 de:n.Decomp.length≤40
 ok:∀x∈n.Classes,okSpan x
theorem zMF {n:Norm} (hs:NSm n) (hok:zBI n):GN (usN n):=by
 unfold usN
 split
 rename_i h
 obtain ⟨h1,h2⟩:=(z56 h.ds (by have:=hs.de;omega)).1 h.ms
 exact ⟨h.ds,h.cv,h1,h2,hs.cl,hs.de,hok.1.2⟩
 exact ⟨⟨fun k hk=>(by cases hk),fun m hm=>(by cases hm),fun m hm=>(by cases hm)⟩,z59,fun m hm=>(by cases hm),fun m hm=>(by cases hm),by simp,by simp,fun x hx=>by cases hx⟩
theorem GN.dd {n:Norm} (h:GN n):∀c,DD n.Decomp n.Decomp.length c:=zO9 h.ds h.H
theorem GN.len {n:Norm} (h:GN n) (b:Bool) (c:Int):(fu n.Decomp b c).length≤64:=yDI h.ds (yDJ h.ds h.H h.w) b c
theorem GN.ex {n:Norm} (h:GN n) {b:Bool} (c:Int) (m:List (Int×List Int)) (hm:XOk n.Decomp b m):∃m',yU 100 c m n b=some (fu n.Decomp b c,m')∧XOk n.Decomp b m':=
 yF0 h.ds (by have:=h.de;omega) h.dd (h.len b) 100 c m hm (.inl ⟨_,h.dd c,by have:=h.de;omega⟩)
theorem z9V {n:Norm} (hs:NSm n) (hok:zBI n):vM n=some (usN n):=by
 obtain ⟨e,he,hv⟩:=z51 hs hok
 unfold vM usN
 rw [he,zA]
 by_cases hz:e=0
 rw [if_pos (hv.1 hz)];simp [hz]
 rw [if_neg (fun h=>hz (hv.2 h))];simp [hz]
theorem zV6 {f:Int→List Int} {k:Nat} (h:∀e,(f e).length≤k):∀L:List Int,(L.flatMap f).length≤k*L.length
 | []=>by simp
 | x::L=>by have:=zV6 h L;have:=h x;rw [List.flatMap_cons,List.length_append,List.length_cons,Nat.mul_succ];omega
theorem z2E {n : Norm} (h : GN n) {b : Bool} {text : List Int} (ht : text.length ≤ 2000) : ∀ (d i : Nat) (acc : List Int) (m : List (Int × List Int)), text.length - i = d → i ≤ text.length → acc.length ≤ 64 * i → XOk n.Decomp b m →
    zE (fun (x : Int × (List Int) × (List (Int × (List Int)))) => jK text n b x.1 x.2.1 x.2.2) ((i : Int), acc, m) = some (acc ++ (text.drop i).flatMap (fu n.Decomp b)) := by
  intro d
  induction d with
  | zero =>
    intro i acc m h1 h2 h3 h4
    refine zK ?_
    rw [List.drop_of_length_le (show text.length ≤ i by omega)]
    simp only [jK, kM (show text.length ≤ i by omega), cond_false, List.flatMap_nil, List.append_nil]
  | succ d ih =>
    intro i acc m h1 h2 h3 h4
    have hi : i < text.length := by omega
    obtain ⟨m1, hr, r1⟩ := h.ex (b := b) text[i] m h4
    have hw1 := h.len b text[i]
    have ha : app acc (fu n.Decomp b text[i]) = some (acc ++ fu n.Decomp b text[i]) := u5 (by omega)
    rw [zO (x' := (((i + 1 : Nat) : Int), acc ++ fu n.Decomp b text[i], m1)) (by
      simp only [jK, yZ hi, cond_true, zZ hi, zA, hr, ha, zL (k := i) (by omega)])]
    rw [ih (i + 1) (acc ++ fu n.Decomp b text[i]) m1 (by omega) (by omega) (by rw [List.length_append]; omega) r1, List.drop_eq_getElem_cons hi, List.flatMap_cons, List.append_assoc]
noncomputable def zER (n:Norm) (b:Bool) (text:List Int):List Int:=text.flatMap (fu (usN n).Decomp b)
theorem z9W {n:Norm} (hs:NSm n) (hok:zBI n) {text:List Int} (ht:text.length≤2000) (b:Bool):xC n text b=u0 (usN n).Classes (zER n b text):=by
 have h:=zMF hs hok
 unfold xC zAZ
 have hu:vM {Classes:=n.Classes,Decomp:=n.Decomp,Excluded:={Ranges:=n.Excluded.Ranges}}=some (usN n):=z9V hs hok
 have hlp:=z2E h (b:=b) ht text.length 0 [] [] (by omega) (by omega) (by simp) (fun k v h=>by cases h)
 rw [List.drop_zero,List.nil_append] at hlp
 have hlp':zE (fun (x:Int×(List Int)×(List (Int×(List Int))))=>jK text (usN n) b x.1 x.2.1 x.2.2) (0,[],[])=some (zER n b text):=hlp
 rw [hu,zA,zA,hlp',zA]
 cases u0 (usN n).Classes (zER n b text) <;> rfl
end Go.M
namespace Go.M
open Go.AV
section
variable (key:Int→Int)
def ltK (a b:Int):Bool:=decide (key a < key b)
def ltC (a b:Int):Bool:=decide (0 < key a)&&decide (key a < key b)
def srt (l:List Int):List Int:=vE (ltK key) l []
def csE (l:List Int):List Int:=vE (ltC key) l []
def rsE:List Int→List Int→List Int
 | [],run=>srt key run
 | x::t,run=>if key x=0 then srt key run++x::rsE t [] else rsE t (run++ [x])
end
section
variable {key:Int→Int}
theorem z6G (l:List Int) (x:Int):srt key (l++ [x])=wN (ltK key) (srt key l).reverse x []:=by
 unfold srt vE
 rw [List.foldl_append]
 rfl
theorem zLK (l:List Int):Flt key l (srt key l):=by
 have:=zI7 (key:=key) l []
 exact this
theorem zZM (l:List Int):(srt key l).length=l.length:=(zLK l).len.symm
theorem zZN {x:Int} (hx:0 < key x):∀(r q s:List Int),(∀y,q.head? =some y→key y=0)→wN (ltC key) (r++q) x s=q.reverse++wN (ltK key) r x s
 | [],q,s,hq=>by
  cases q with
  | nil=>rfl
  | cons y q=>
   have:ltC key x y=false:=by unfold ltC;rw [hq y rfl];simp;omega
   show wN (ltC key) (y::q) x s=_
   simp only [wN,this,Bool.false_eq_true,if_false]
 | y::r,q,s,hq=>by
  have e:ltC key x y=ltK key x y:=by unfold ltC ltK;simp [hx]
  show wN (ltC key) (y::(r++q)) x s=q.reverse++wN (ltK key) (y::r) x s
  simp only [wN,e]
  cases ltK key x y with
  | true=>simp only [if_true];exact zZN hx r q (y::s) hq
  | false=>simp
theorem z6H (hnn : ∀ x, 0 ≤ key x) : ∀ (t run p : List Int), (∀ y, p.reverse.head? = some y → key y = 0) → vE (ltC key) t (p ++ srt key run) = p ++ rsE key t run
  | [], run, p, _ => rfl
  | x :: t, run, p, hp => by
    show vE (ltC key) t (wN (ltC key) (p ++ srt key run).reverse x []) = p ++ rsE key (x :: t) run
    by_cases h0 : key x = 0
    · have e : ∀ r : List Int, wN (ltC key) r x [] = r.reverse ++ [x] := by
        intro r
        cases r with
        | nil => rfl
        | cons y r =>
          have : ltC key x y = false := by unfold ltC; rw [h0]; simp
          simp [wN, this]
      have ih := z6H hnn t [] (p ++ srt key run ++ [x]) (fun y hy => by simp at hy; rw [← hy]; exact h0)
      have e2 : srt key [] = [] := rfl
      rw [e2, List.append_nil] at ih
      rw [e, List.reverse_reverse, ih]
      simp [rsE, h0]
    · have hx : 0 < key x := by have := hnn x; omega
      rw [List.reverse_append, zZN hx _ _ _ hp, List.reverse_reverse, ← z6G, z6H hnn t (run ++ [x]) p hp]
      simp [rsE, h0]
theorem zX8 (hnn:∀x,0≤key x) (t:List Int):csE key t=rsE key t []:=by
 have:=z6H hnn t [] [] (fun y hy=>by cases hy)
 exact this
theorem zV7 (t:List Int):(csE key t).Perm t:=by
 have:=zHM (ltC key) t []
 rw [List.nil_append] at this
 exact this
theorem z9X (t:List Int):(csE key t).length=t.length:=(zV7 t).length_eq
theorem zV8 {f:List Int→Option (List Int)} {P run T r:List Int} (hpos:0 < run.length) (hf:f run=some r):zHS f (P++run++T) (P.length:Int) ((P.length+run.length:Nat):Int)=some (P++r++T):=by
 unfold zHS
 have a1:((P.length:Int)).toNat=P.length:=by simp
 have a2:(((P.length+run.length:Nat):Int)).toNat=P.length+run.length:=by omega
 rw [a1,a2,if_pos ⟨by omega,by omega,by rw [List.length_append,List.length_append];omega⟩]
 have e1:((P++run++T).drop P.length).take (P.length+run.length - P.length)=run:=by
  rw [List.append_assoc,List.drop_left,show P.length+run.length - P.length=run.length by omega,List.take_left]
 have d1:(P++run++T).take P.length=P:=by rw [List.append_assoc,List.take_left]
 have d2:(P++run++T).drop (P.length+run.length)=T:=by rw [←List.length_append,List.drop_left]
 rw [e1,d1,d2,hf]
 rfl
theorem zZO {f : List Int → Option (List Int)} {st : Int → Bool} (hst : ∀ x, st x = decide (key x = 0)) (hf : ∀ l, l.length ≤ 2000 → f l = some (srt key l)) : ∀ (t run P : List Int) (s : Int), P.length + run.length + t.length ≤ 2000 → (run = [] ∧ s = -1 ∨ run ≠ [] ∧ s = (P.length : Int)) →
    vQ f Range.Lo Range.Hi (P ++ run ++ t) (jL st t ((P.length + run.length : Nat) : Int) s) = some (P ++ rsE key t run)
  | [], run, P, s, hl, hs => by
    rcases hs with ⟨rfl, rfl⟩ | ⟨hne, rfl⟩
    · simp only [jL, show ¬ (0 : Int) ≤ -1 by decide, if_false]
      show some (P ++ [] ++ []) = some (P ++ [])
      simp
    · have h0 : (0 : Int) ≤ (P.length : Int) := by omega
      simp only [jL, h0, if_true]
      have hpos : 0 < run.length := List.length_pos_iff.2 hne
      show (some (P ++ run ++ [])).bind (fun l => zHS f l (P.length : Int) ((P.length + run.length : Nat) : Int)) = _
      rw [zA, zV8 hpos (hf run (by simp at hl; omega))]
      simp [rsE]
  | x :: t, run, P, s, hl, hs => by
    have hl' : P.length + run.length + t.length + 1 ≤ 2000 := by simp only [List.length_cons] at hl; omega
    by_cases h0 : key x = 0
    · have hsx : st x = true := by rw [hst]; simp [h0]
      rcases hs with ⟨rfl, rfl⟩ | ⟨hne, rfl⟩
      · have e : jL st (x :: t) ((P.length + ([] : List Int).length : Nat) : Int) (-1) = jL st t (((P ++ [x]).length + ([] : List Int).length : Nat) : Int) (-1) := by
          simp only [jL, hsx]
          simp
        have ih := zZO hst hf t [] (P ++ [x]) (-1) (by simp only [List.length_append, List.length_singleton, List.length_nil]; simp at hl'; omega) (.inl ⟨rfl, rfl⟩)
        rw [e, show P ++ [] ++ x :: t = P ++ [x] ++ [] ++ t by simp, ih]
        have e2 : srt key [] = [] := rfl
        simp [rsE, h0, e2]
      · have h00 : (0 : Int) ≤ (P.length : Int) := by omega
        have hpos : 0 < run.length := List.length_pos_iff.2 hne
        have e : jL st (x :: t) ((P.length + run.length : Nat) : Int) (P.length : Int) = { Lo := (P.length : Int), Hi := ((P.length + run.length : Nat) : Int) } :: jL st t (((P ++ srt key run ++ [x]).length + ([] : List Int).length : Nat) : Int) (-1) := by
          have e3 : (((P ++ srt key run ++ [x]).length + ([] : List Int).length : Nat) : Int) = ((P.length + run.length : Nat) : Int) + 1 := by simp [zZM]; omega
          rw [e3]
          simp only [jL, hsx, Bool.not_true, Bool.false_and, Bool.false_eq_true, if_false, Bool.true_and, h00, decide_true, if_true]
        have ih := zZO hst hf t [] (P ++ srt key run ++ [x]) (-1) (by simp [zZM]; omega) (.inl ⟨rfl, rfl⟩)
        have e4 : zHS f (P ++ run ++ x :: t) (P.length : Int) ((P.length + run.length : Nat) : Int) = some (P ++ srt key run ++ [x] ++ [] ++ t) := by
          rw [zV8 hpos (hf run (by omega))]
          simp
        have e5 : vQ f Range.Lo Range.Hi (P ++ run ++ x :: t) ({ Lo := (P.length : Int), Hi := ((P.length + run.length : Nat) : Int) } :: jL st t (((P ++ srt key run ++ [x]).length + ([] : List Int).length : Nat) : Int) (-1)) = vQ f Range.Lo Range.Hi (P ++ srt key run ++ [x] ++ [] ++ t) (jL st t (((P ++ srt key run ++ [x]).length + ([] : List Int).length : Nat) : Int) (-1)) := by
          unfold vQ
          rw [List.foldl_cons, zA, e4]
        rw [e, e5, ih]
        simp [rsE, h0]
    · have hsx : st x = false := by rw [hst]; simp [h0]
      have e : jL st (x :: t) ((P.length + run.length : Nat) : Int) s = jL st t ((P.length + (run ++ [x]).length : Nat) : Int) (P.length : Int) := by
        have e3 : ((P.length + (run ++ [x]).length : Nat) : Int) = ((P.length + run.length : Nat) : Int) + 1 := by simp; omega
        rw [e3]
        rcases hs with ⟨rfl, rfl⟩ | ⟨hne, rfl⟩
        · simp [jL, hsx]
        · have : ¬ ((P.length : Int) < 0) := by omega
          simp only [jL, hsx, Bool.not_false, Bool.true_and, this, decide_false, Bool.false_eq_true, if_false, Bool.false_and]
      have ih := zZO hst hf t (run ++ [x]) P (P.length : Int) (by simp; omega) (.inr ⟨by simp, rfl⟩)
      rw [e, show P ++ run ++ x :: t = P ++ (run ++ [x]) ++ t by simp, ih]
      simp [rsE, h0]
end
theorem z6I {l:List Span} (h:CV l) (hl:l.length≤2000) (x y:Int):xI x y l=some (sg (clE l x) (clE l y)):=by
 unfold xI
 simp only [zFS h hl,zA,z18]
 unfold sg
 rfl
theorem yDQ {l:List Span} (h:CV l) (hl:l.length≤2000) (hok:∀x∈l,okSpan x) {text:List Int} (ht:text.length≤2000):u0 l text=some (csE (clE l) text):=by
 have hnn:∀x,0≤clE l x:=yBN h
 unfold u0 uS
 have hst:∀x,(kG l x==some 0)=decide (clE l x=0):=fun x=>by rw [zFS h hl];by_cases hx:clE l x=0 <;> simp [hx]
 rw [zRO hl hok h,zA,yHK ht,zA,zVZ h hl ht hst rfl,zA]
 have:=zZO (key:=clE l) (f:=fun p=>kD p (fun x0 x1=>xI x0 x1 l)) (st:=fun c=>kG l c==some 0) hst (fun p hp=>by
  obtain ⟨r,r1,r2,r3⟩:=z2D (key:=clE l) (f:=fun x0 x1=>xI x0 x1 l) (fun x y=>z6I h hl x y) p hp
  rw [r1]
  have:=zPC (key:=clE l) r2 (zG2 (key:=clE l) p) (r3.symm.trans (zLK p))
  rw [this]
  rfl) text [] [] (-1) (by simpa using ht) (.inl ⟨rfl,rfl⟩)
 rw [zX8 hnn]
 exact this
noncomputable def zB2 (n:Norm) (b:Bool) (text:List Int):List Int:=csE (clE (usN n).Classes) (zER n b text)
theorem zLL (n:Norm) (b:Bool) (text:List Int):(zB2 n b text).length=(zER n b text).length:=z9X _
theorem z2F {n:Norm} (hs:NSm n) (hok:zBI n) (b:Bool) (text:List Int):(zER n b text).length≤64*text.length:=zV6 ((zMF hs hok).len b) text
theorem zV9 {n:Norm} (hs:NSm n) (hok:zBI n) {text:List Int} {b:Bool} (ht:text.length≤2000) (hf:(zER n b text).length≤2000):xC n text b=some (zB2 n b text):=by
 have h:=zMF hs hok
 rw [z9W hs hok ht,yDQ h.cv (by have:=h.cl;omega) h.ok hf]
 rfl
end Go.M
namespace Go.M
open Go.AV
noncomputable def wkE (c:Collation) (l:List Span):Nat→List Int→List Element×Bool
 | 0,_=>([],true)
 | k+1,text=>if text= [] then ([],true) else ((stE c l text).2.2++(wkE c l k (stE c l text).2.1).1,decide (zB1 (k8 c).Entries text≠0)&&(wkE c l k (stE c l text).2.1).2)
theorem yDR {c:Collation} {l:List Span} {text:List Int} (h0:text≠[]):1≤(stE c l text).1∧(stE c l text).1+((stE c l text).2.1.length:Int)=(text.length:Int):=by
 have hpos:0 < text.length:=List.length_pos_iff.2 h0
 unfold stE
 split
 refine ⟨by simp,?_⟩
 show (1:Int)+((text.drop 1).length:Int)=_
 rw [List.length_drop];omega
 rename_i hz
 have hle:zB1 (k8 c).Entries text≤text.length:=zPD _ _
 have hinv:=zPE (fd:=fun q=>(zEY (k8 c).Entries q).2) (cl:=clE l) (text.drop (zB1 (k8 c).Entries text)) (text.take (zB1 (k8 c).Entries text)) [] 0
 generalize zEJ (fun q=>(zEY (k8 c).Entries q).2) (clE l) (text.drop (zB1 (k8 c).Entries text)) (text.take (zB1 (k8 c).Entries text)) [] 0=q at*
 obtain ⟨i1,i2,_⟩:=hinv
 rw [List.length_take,Nat.min_eq_left hle] at i1 i2
 rw [List.length_drop] at i2
 simp only [List.length_nil] at i2
 constructor
 show (1:Int)≤(q.1.length:Int);omega
 show (q.1.length:Int)+(q.2.length:Int)=_;omega
theorem zZP {c:Collation} {l:List Span} {text:List Int} (h0:text≠[]):(stE c l text).2.1.length < text.length:=by
 have:=yDR (c:=c) (l:=l) h0
 omega
theorem yBP {c:Collation} (hs:Sm c) {l:List Span} (text:List Int):(stE c l text).2.2.length≤2000:=by
 unfold stE
 split
 exact z9F _ _
 exact z9E (z5N hs) _
theorem zZQ {c:Collation} {l:List Span}:∀(k j:Nat) (text:List Int),text.length≤k→text.length≤j→wkE c l k text=wkE c l j text
 | 0,j,text,h,_=>by
  have:text= []:=List.eq_nil_of_length_eq_zero (by omega)
  subst this
  cases j with
  | zero=>rfl
  | succ j=>simp [wkE]
 | k+1,j,text,h,hj=>by
  by_cases h0:text= []
  subst h0
  cases j <;> simp [wkE]
  have hpos:0 < text.length:=List.length_pos_iff.2 h0
  cases j with
  | zero=>omega
  | succ j=>
   have hlt:=zZP (c:=c) (l:=l) h0
   simp only [wkE,h0,if_false]
   rw [zZQ k j _ (by omega) (by omega)]
noncomputable def wk (c:Collation) (l:List Span) (text:List Int):List Element×Bool:=wkE c l text.length text
theorem zS7 (c:Collation) (l:List Span):wk c l []=([],true):=rfl
theorem zZR {c:Collation} {l:List Span} {text:List Int} (h0:text≠[]):wk c l text=((stE c l text).2.2++(wk c l (stE c l text).2.1).1,decide (zB1 (k8 c).Entries text≠0)&&(wk c l (stE c l text).2.1).2):=by
 have hlt:=zZP (c:=c) (l:=l) h0
 unfold wk
 obtain ⟨k,hk⟩:∃k,text.length=k+1:=⟨text.length - 1,by have:=List.length_pos_iff.2 h0;omega⟩
 rw [hk]
 simp only [wkE,h0,if_false]
 rw [zZQ k (stE c l text).2.1.length _ (by omega) (by omega)]
theorem yDS {c:Collation} (hs:Sm c) {l:List Span}:∀(k:Nat) (text:List Int),text.length≤k→(wk c l text).1.length≤2000*text.length:=by
 intro k
 induction k with
 | zero=>
  intro text h
  have:text= []:=List.eq_nil_of_length_eq_zero (by omega)
  subst this;rw [zS7];simp
 | succ k ih=>
  intro text h
  by_cases h0:text= []
  subst h0;rw [zS7];simp
  have hlt:=zZP (c:=c) (l:=l) h0
  have h1:=ih _ (show (stE c l text).2.1.length≤k by omega)
  have h2:=yBP hs (l:=l) text
  rw [zZR h0]
  show ((stE c l text).2.2++(wk c l (stE c l text).2.1).1).length≤_
  rw [List.length_append]
  omega
section
variable {c:Collation} (hs:Sm c) {l:List Span} (hcv:CV l) (hl:l.length≤2000)
include hs hcv hl
theorem z9Z:∀(k:Nat) (text:List Int) (acc:List Element),text.length≤k→text.length≤2000→acc.length+2000*text.length≤100000000→zE (fun (x:(List Element)×(List Int))=>jJ (zIV c l) x.1 x.2) (acc,text)=some (acc++(wk c l text).1):=by
 intro k
 induction k with
 | zero=>
  intro text acc h _ _
  have:text= []:=List.eq_nil_of_length_eq_zero (by omega)
  subst this
  refine zK ?_
  simp [jJ,zS7]
 | succ k ih=>
  intro text acc h ht ha
  by_cases h0:text= []
  subst h0
  refine zK ?_
  simp [jJ,zS7]
  have hpos:0 < text.length:=List.length_pos_iff.2 h0
  have hlt:=zZP (c:=c) (l:=l) h0
  have h2:=yBP hs (l:=l) text
  obtain ⟨seq,m1,m2⟩:=z6D hs hcv hl ht h0
  have e0:decide ((0:Int) < (text.length:Int))=true:=by simp;omega
  have ea:app acc (stE c l text).2.2=some (acc++(stE c l text).2.2):=u5 (by omega)
  rw [zO (x':=(acc++(stE c l text).2.2,(stE c l text).2.1)) (by simp only [jJ,e0,cond_true,m1,zA,ea,m2])]
  rw [ih _ _ (by omega) (by omega) (by rw [List.length_append];omega),zZR h0,List.append_assoc]
end
theorem z6J (n:Norm):zBM n=(usN n).Classes:=by
 unfold zBM usN
 split <;> rfl
section
variable {n:Norm} {c:Collation} (hn:NSm n) (hok:zBI n) (hs:Sm c) (hg:∀g∈c.Groups,g.Name.length≤MX) {text:List Int} (ht:text.length≤2000) (hf:(zER n false text).length≤2000)
include hn hok hs hg ht hf
theorem zWA:vU n c text=some (wk c (zBM n) (zB2 n false text)).1:=by
 unfold vU
 have hl:(zBM n).length≤2000:=by have:=zRR hn;omega
 have hd:(zB2 n false text).length≤2000:=by rw [zLL];exact hf
 rw [z9C hs hg,zA,z9U hn hok,zA,zV9 hn hok ht hf,zA,z9Z hs (z6A n) hl _ _ [] (Nat.le_refl _) hd (by simp;omega)]
 rfl
end
theorem z6K {n:Norm} {c:Collation} (hs:Sm c) {text:List Int} (hd:(zB2 n false text).length≤2000):(wk c (zBM n) (zB2 n false text)).1.length≤1000000000:=by
 have:=yDS hs (l:=zBM n) _ (zB2 n false text) (Nat.le_refl _)
 omega
end Go.M
namespace Go.M
open Go.AV
section
variable {key:Int→Int}
theorem zWB (l:List Int):srt key (srt key l)=srt key l:=
 zPC (key:=key) (zG2 (key:=key) (srt key l)) (zG2 (key:=key) l) (zLK (srt key l)).symm
theorem zX9:∀(q run u:List Int),(∀x∈q,key x≠0)→rsE key (q++u) run=rsE key u (run++q)
 | [],run,u,_=>by simp
 | x::q,run,u,h=>by
  have hx:=h x (by simp)
  show (if key x=0 then srt key run++x::rsE key (q++u) [] else rsE key (q++u) (run++ [x]))=_
  rw [if_neg hx,zX9 q _ u fun y hy=>h y (by simp [hy])]
  simp
theorem zS8:∀(t run:List Int),(∀x∈run,key x≠0)→rsE key (rsE key t run) []=rsE key t run
 | [],run,h=>by
  show rsE key (srt key run) []=srt key run
  have:=zX9 (key:=key) (srt key run) [] [] fun x hx=>h x ((zLK run).mem.2 hx)
  rw [List.append_nil,List.nil_append] at this
  rw [this]
  exact zWB run
 | x::t,run,h=>by
  by_cases h0:key x=0
  have e:rsE key (x::t) run=srt key run++x::rsE key t []:=by simp [rsE,h0]
  rw [e,zX9 (key:=key) (srt key run) [] _ fun x hx=>h x ((zLK run).mem.2 hx),List.nil_append]
  show (if key x=0 then srt key (srt key run)++x::rsE key (rsE key t []) [] else _)=_
  rw [if_pos h0,zWB,zS8 t [] fun y hy=>by cases hy]
  have e:rsE key (x::t) run=rsE key t (run++ [x]):=by simp [rsE,h0]
  rw [e]
  refine zS8 t (run++ [x]) fun y hy=>?_
  rcases List.mem_append.1 hy with hy | hy
  exact h y hy
  simp only [List.mem_singleton] at hy;rw [hy];exact h0
theorem z6L (hnn:∀x,0≤key x) (t:List Int):csE key (csE key t)=csE key t:=by
 rw [zX8 hnn t,zX8 hnn,zS8 t [] fun y hy=>by cases hy]
end
theorem zZS {l:List Mapping} (hd:DS l) {b:Bool} {c:Int} (hf:fnB l b c=none):∀e∈hdE c,fnB l b e=none∧hdE e= [e]:=by
 intro e he
 have h1:∀{z:Int},syl z=false→hdE z= [z]:=fun {z} hz=>by unfold hdE;rw [if_neg (by simp [hz])]
 cases hs:syl c with
 | true=>
  obtain ⟨p1,p2⟩:=zLE hs he
  refine ⟨zDC ?_,h1 p1⟩
  cases hf2:l.find? (isF e) with
  | none=>rfl
  | some m=>obtain ⟨q1,rfl⟩:=zDB hf2;exact absurd (hd.hk m q1) p2
 | false=>
  rw [h1 hs] at he
  simp only [List.mem_singleton] at he
  subst he
  exact ⟨hf,h1 hs⟩
theorem zZT {l:List Mapping} (hd:DS l) {b:Bool}:∀(k:Nat) (c:Int),DD l k c→∀e∈exF l b k c,fnB l b e=none∧hdE e= [e]
 | 0,c,h,e,he=>zZS hd (zDC h) e he
 | k+1,c,h,e,he=>by
  replace he:e∈(match fnB l b c with | some to=>to.flatMap (exF l b k) | none=>hdE c):=he
  cases hf:fnB l b c with
  | none=>rw [hf] at he;exact zZS hd hf e he
  | some to=>
   rw [hf] at he
   obtain ⟨m,h1,rfl,_⟩:=zFU hf
   obtain ⟨z,hz,he⟩:=List.mem_flatMap.1 he
   exact zZT hd k z (h m h1 z hz) e he
theorem GN.leaf {n:Norm} (h:GN n) {b:Bool} {c e:Int} (he:e∈fu n.Decomp b c):fu n.Decomp b e= [e]:=by
 obtain ⟨h1,h2⟩:=zZT h.ds (b:=b) _ c (h.dd c) e he
 rw [zLH h.dd,h1,h2]
theorem zZU {f:Int→List Int}:∀{L:List Int},(∀e∈L,f e= [e])→L.flatMap f=L
 | [],_=>rfl
 | x::L,h=>by rw [List.flatMap_cons,h x (by simp),zZU fun e he=>h e (by simp [he])];rfl
theorem zRU {n:Norm} (hs:NSm n) (hok:zBI n) (b:Bool) (text:List Int):zER n b (zB2 n b text)=zB2 n b text:=by
 refine zZU fun e he=>?_
 have he':e∈zER n b text:=(zV7 _).mem_iff.1 he
 obtain ⟨z,_,hz⟩:=List.mem_flatMap.1 he'
 exact (zMF hs hok).leaf hz
theorem z2G {n:Norm} (hs:NSm n) (hok:zBI n) (b:Bool) (text:List Int):zB2 n b (zB2 n b text)=zB2 n b text:=by
 have h:=zRU hs hok b text
 show csE _ (zER n b (zB2 n b text))=_
 rw [h]
 exact z6L (yBN (zMF hs hok).cv) _
end Go.M
namespace Go.M
open Go.AV
end Go.M
namespace Go.M
open Go.AV
theorem yF1 (a0 : List Span) (v6 : Nat) (hv : v6 < a0.length) (H : List Range) (hH : H = [{ Lo := 4352, Hi := 4370 }, { Lo := 4449, Hi := 4469 }, { Lo := 4520, Hi := 4546 }, { Lo := 44032, Hi := 55203 }]) :
    (zE (fun (x : Int) => wI H a0 (v6 : Int) x) 0 = some (.inl ()) ∧ hgOk (nth a0 v6)) ∨ (zE (fun (x : Int) => wI H a0 (v6 : Int) x) 0 = some (.inr 11) ∧ ¬ hgOk (nth a0 v6)) := by
  have h := kT (body := fun (x : Int) => wI H a0 (v6 : Int) x) H.length (fun k => ¬ ((nth a0 v6).Lo ≤ (nth H k).Hi ∧ (nth H k).Lo ≤ (nth a0 v6).Hi)) (fun y => y = 11) (fun k hk => by
    have hl : H.length = 4 := by rw [hH]; rfl
    simp only [wI, yZ hk, cond_true, zW hv, zW hk, zA, zN, zL (k := k) (by omega)]
    by_cases h1 : (nth a0 v6).Lo ≤ (nth H k).Hi
    · simp only [h1, decide_true, vX, zA, Bool.true_and, true_and]
      exact uD (by simp) rfl
    · simp only [h1, decide_false, zBA, zA, Bool.false_and, cond_false, false_and]
      exact .inl ⟨by simp, trivial⟩) (fun k hk => by simp only [wI, kM hk, cond_false])
  have e : (∀ j, j < H.length → ¬ ((nth a0 v6).Lo ≤ (nth H j).Hi ∧ (nth H j).Lo ≤ (nth a0 v6).Hi)) ↔ hgOk (nth a0 v6) := by
    subst hH
    unfold hgOk
    constructor
    · intro h; exact ⟨h 0 (by decide), h 1 (by decide), h 2 (by decide), h 3 (by decide)⟩
    · rintro ⟨h0, h1, h2, h3⟩ j hj
      have hj' : j < 4 := hj
      match j, hj' with
      | 0, _ => exact h0
      | 1, _ => exact h1
      | 2, _ => exact h2
      | 3, _ => exact h3
  rw [e] at h
  rcases h with h | ⟨y, rfl, h⟩
  · exact .inl h
  · exact .inr h
theorem z6M {l:List Span} (hl:l.length≤2000):Ver (zC0 l) (CV l):=by
 have h0:=kT (body:=fun (x:Int)=>zAL l x) l.length (fun k=>spOk (nth l k)) (fun y=>y≠0) (fun k hk=>by
  simp only [zAL,yZ hk,cond_true,zW hk,zA,zN,zEI,zL (k:=k) (by omega),spOk,vld]
  generalize nth l k=q
  by_cases h1:0≤q.Lo <;> by_cases h2:q.Lo≤1114111 <;> by_cases h3:0≤q.Hi <;> by_cases h4:q.Hi≤1114111 <;> by_cases h5:q.Hi < q.Lo <;> by_cases h6:q.Value < 1 <;> by_cases h7:254 < q.Value <;> simp [h1,h2,h3,h4,h5,h6,h7,vX,zBA,zA] <;> omega) (fun k hk=>by simp only [zAL,kM hk,cond_false])
 unfold zC0 Ver
 rcases h0 with ⟨h0,p0⟩ | ⟨y,hy,h0,p0⟩
 rw [h0]
 simp only [zA,Sum.elim_inl]
 have h1:=zI4 (body:=fun (x:Int)=>zAM l x) l.length (fun k=>adOk (nth l k) (nth l (k+1))) (fun y=>y≠0) (fun k hk=>by
  have hk':k < l.length:=by omega
  have w:=(p0 k hk').2.1
  have w0:=(p0 k hk').1
  have w1:=(p0 k hk').2.2.1
  simp only [zAM,yZ hk,cond_true,zW hk,zA,zN,zL (k:=k+1) (by omega),zCR (k:=k) (by omega),zW hk']
  by_cases a1:(nth l (k+1)).Lo≤(nth l k).Hi
  simp only [a1,decide_true,Bool.not_true,zBA,zA,Bool.false_and,Bool.true_or,cond_true]
  exact .inr ⟨by unfold adOk;omega,4,by decide,rfl⟩
  simp only [a1,decide_false,Bool.not_false,vX,zA,Bool.true_and,Bool.false_or]
  rw [xF (n:=(nth l k).Hi+1) (by omega) (by omega)]
  by_cases a2:(nth l (k+1)).Lo=(nth l k).Hi+1
  simp only [a2,decide_true,vX,zA,Bool.true_and]
  exact uD (by unfold adOk;simp only [decide_eq_true_eq];omega) (by decide)
  simp only [a2,decide_false,zBA,zA,Bool.false_and,cond_false]
  exact .inl ⟨by unfold adOk;omega,trivial⟩) (fun k hk=>by simp only [zAM,kM hk,cond_false])
 rcases h1 with ⟨h1,p1⟩ | ⟨y,hy,h1,p1⟩
 rw [h1]
 simp only [zA,Sum.elim_inl,zEW]
 have h2:=kT (body:=fun (x:Int)=>zAN l [{Lo:=4352,Hi:=4370},{Lo:=4449,Hi:=4469},{Lo:=4520,Hi:=4546},{Lo:=44032,Hi:=55203}] x) l.length (fun k=>hgOk (nth l k)) (fun y=>y≠0) (fun k hk=>by
  simp only [zAN,yZ hk,cond_true,zL (k:=k) (by omega)]
  rcases yF1 l k hk _ rfl with ⟨h,p⟩ | ⟨h,p⟩
  rw [h];exact .inl ⟨p,rfl⟩
  rw [h];exact .inr ⟨p,11,by decide,rfl⟩) (fun k hk=>by simp only [zAN,kM hk,cond_false])
 rcases h2 with ⟨h2,p2⟩ | ⟨y,hy,h2,p2⟩
 rw [h2];exact ⟨0,rfl,by simp only [true_iff];exact ⟨p0,p1,p2⟩⟩
 rw [h2];exact ⟨y,rfl,by simp only [hy,false_iff];exact fun h=>p2 h.hg⟩
 rw [h1];exact ⟨y,rfl,by simp only [hy,false_iff];exact fun h=>p1 h.ad⟩
 rw [h0];exact ⟨y,rfl,by simp only [hy,false_iff];exact fun h=>p0 h.sp⟩
theorem zLM {l:List Span} (hl:l.length≤2000) (h:CV l) (c:Int):zBY l c=some (clE l c):=by
 obtain ⟨e,he,hp⟩:=z6M hl
 unfold zBY
 rw [he,zA,hp.2 h]
 simp only [decide_true,Bool.not_true,cond_false]
 have hb:∀k,k < l.length→xD l c (k:Int)=if zNN c (nth l k) then some (.done (.inr (nth l k).Value)) else some (.next ((k+1:Nat):Int)):=fun k hk=>by
  simp only [xD,yZ hk,cond_true,zW hk,zA,zN,zL (k:=k) (by omega),zNN]
  by_cases h1:(nth l k).Lo≤c
  · by_cases h2:c≤(nth l k).Hi <;> simp [h1,h2,vX]
  · simp [h1,zBA]
 have key:∀(d k:Nat),l.length - k=d→k≤l.length→(∀j,j < k→zNN c (nth l j)=false)→(zE (fun (x:Int)=>xD l c x) (k:Int)).bind (fun y=>y.elim (fun _=>some 0) fun y=>some y)=some (clE l c):=by
  intro d
  induction d with
  | zero=>
   intro k h1 h2 h3
   have:k=l.length:=by omega
   subst this
   rw [zK (y:= .inl ()) (by simp only [xD,kM (Nat.le_refl _),cond_false])]
   unfold clE
   rw [zS2 h3]
   rfl
  | succ d ih=>
   intro k h1 h2 h3
   have hk:k < l.length:=by omega
   cases hi:zNN c (nth l k) with
   | true=>
    rw [zK (y:= .inr (nth l k).Value) (by show xD l c (k:Int)=_;rw [hb k hk,hi];rfl)]
    unfold clE
    rw [zLF hk h3 hi]
    rfl
   | false=>
    rw [zO (x':=((k+1:Nat):Int)) (by show xD l c (k:Int)=_;rw [hb k hk,hi];rfl)]
    refine ih (k+1) (by omega) (by omega) fun j hj=>?_
    by_cases e:j=k
    · subst e;exact hi
    · exact h3 j (by omega)
 exact key l.length 0 (by omega) (by omega) (fun j hj=>by omega)
end Go.M
namespace Go.M
open Go.AV
theorem yDT {a b c:Mapping} (h1:mlt a b) (h2:mlt b c):mlt a c:=by
 unfold mlt at*
 rcases h1 with h1 | ⟨h1,t1⟩
 rcases h2 with h2 | ⟨h2,t2⟩
 exact .inl (by omega)
 exact .inl (by omega)
 rcases h2 with h2 | ⟨h2,t2⟩
 exact .inl (by omega)
 exact .inr ⟨by omega,List.lt_trans t1 t2⟩
theorem z90 {a b:Mapping} (h:mlt a b):¬(a.From=b.From∧a.Tag=b.Tag):=by
 rintro ⟨h1,h2⟩
 unfold mlt at h
 rcases h with h | ⟨_,h⟩
 omega
 rw [h2] at h;exact List.lt_irrefl _ h
theorem zZV {l:List Mapping} (h:∀k,k+1 < l.length→mlt (nth l k) (nth l (k+1))):∀(d i:Nat),i+d+1 < l.length→mlt (nth l i) (nth l (i+d+1))
 | 0,i,hi=>h i hi
 | d+1,i,hi=>by
  have h1:=zZV h d i (by omega)
  have h3:=h (i+d+1) (by omega)
  have:i+(d+1)+1=i+d+1+1:=by omega
  rw [this]
  exact yDT h1 h3
theorem yF2 (x y:Str):(x==y)=decide (x=y):=by
 rw [Bool.eq_iff_iff];simp
section
variable {l:List Mapping} (hl:l.length≤2000) (hto:∀m∈l,m.To.length≤2000) (htg:∀m∈l,m.Tag.length≤MX)
include hl hto htg
omit hl hto htg in
theorem z6N {m:Mapping} (hm:m.To.length≤2000):∃b,zD8 m=some b∧(b=true↔codesOk m):=by
 unfold zD8
 have h:=kT (body:=fun (x:Int)=>zAO m x) m.To.length (fun j=>vld (nth m.To j)=true) (fun y=>y=false) (fun j hj=>by
  simp only [zAO,yZ hj,cond_true,zW hj,zA,zEI,zL (k:=j) (by omega)]
  exact uD (by simp) rfl) (fun j hj=>by simp only [zAO,kM hj,cond_false])
 rw [zBL (p:=fun c=>vld c=true)] at h
 rcases h with ⟨h,p⟩ | ⟨y,rfl,h,p⟩
 rw [h]
 simp only [zA,Sum.elim_inl,zEI]
 exact ⟨_,rfl,⟨fun a=>⟨a,p⟩,fun a=>a.1⟩⟩
 rw [h];exact ⟨false,rfl,by simp only [Bool.false_eq_true,false_iff];exact fun a=>p a.2⟩
omit hto htg in
theorem z6O:∃b,zD9 l=some b∧(b=true→¬∀k,k+1 < l.length→mlt (nth l k) (nth l (k+1)))∧(b=false→True):=by
 unfold zD9
 have inner:∀i,i < l.length→(zE (fun (x:Int)=>wJ (i:Int) l x) 0=some (.inl ())∧∀j,j < i→¬((nth l i).From=(nth l j).From∧(nth l i).Tag=(nth l j).Tag))∨(∃y,y=true∧zE (fun (x:Int)=>wJ (i:Int) l x) 0=some (.inr y)∧¬∀j,j < i→¬((nth l i).From=(nth l j).From∧(nth l i).Tag=(nth l j).Tag)):=by
  intro i hi
  refine kT (body:=fun (x:Int)=>wJ (i:Int) l x) i _ (fun y=>y=true) (fun j hj=>?_) (fun j hj=>by simp only [wJ,kM hj,cond_false])
  have hj':j < l.length:=by omega
  simp only [wJ,yZ hj,cond_true,zW hi,zW hj',zA,zN,zL (k:=j) (by omega),yF2]
  by_cases a:(nth l i).From=(nth l j).From
  simp only [a,decide_true,vX,zA,Bool.true_and,true_and]
  exact uD (by simp) rfl
  simp only [a,decide_false,zBA,zA,Bool.false_and,cond_false,false_and]
  exact .inl ⟨by simp,trivial⟩
 have h:=kT (body:=fun (x:Int)=>zAP l x) l.length (fun i=> ∀j,j < i→¬((nth l i).From=(nth l j).From∧(nth l i).Tag=(nth l j).Tag)) (fun y=>y=true) (fun k hk=>by
  simp only [zAP,yZ hk,cond_true,zL (k:=k) (by omega)]
  rcases inner k hk with ⟨h,p⟩ | ⟨y,hy,h,p⟩
  rw [h];exact .inl ⟨p,rfl⟩
  rw [h];exact .inr ⟨p,y,hy,rfl⟩) (fun j hj=>by simp only [zAP,kM hj,cond_false])
 rcases h with ⟨h,p⟩ | ⟨y,rfl,h,p⟩
 rw [h];exact ⟨false,rfl,fun h=>(by cases h),fun _=>trivial⟩
 rw [h]
 refine ⟨true,rfl,fun _ hh=>p fun i hi j hj=>?_,fun _=>trivial⟩
 have:=zZV hh (i - j - 1) j (by omega)
 rw [show j+(i - j - 1)+1=i by omega] at this
 have:=z90 this
 exact fun ⟨a,b⟩=>this ⟨a.symm,b.symm⟩
theorem yDU:∃e,zBV l=some e∧(e=0→(∀m∈l,codesOk m)∧(∀m∈l,m.To.length≤64)∧∀m∈l,tagOk m)∧(e≠0→¬MV l):=by
 unfold zBV
 have h0:=kT (body:=fun (x:Int)=>wV l x) l.length (fun k=>codesOk (nth l k)) (fun y=>y≠0) (fun k hk=>by
  obtain ⟨b,hb,hp⟩:=z6N (hto _ (xJ hk))
  simp only [wV,yZ hk,cond_true,zW hk,zA,hb,zL (k:=k) (by omega)]
  exact uD (by rw [←hp];simp) (by decide)) (fun k hk=>by simp only [wV,kM hk,cond_false])
 rw [zBL (p:=codesOk)] at h0
 rcases h0 with ⟨h0,p0⟩ | ⟨y,hy,h0,p0⟩
 case inr=>rw [h0];exact ⟨y,rfl,fun h=>absurd h hy,fun _ h=>p0 h.co⟩
 rw [h0]
 simp only [zA,Sum.elim_inl]
 have h1:=kT (body:=fun (x:Int)=>wW l x) l.length (fun k=>(nth l k).To.length≤64) (fun y=>y≠0) (fun k hk=>by
  simp only [wW,yZ hk,cond_true,zW hk,zA,zL (k:=k) (by omega)]
  exact uD (by simp only [decide_eq_true_eq];omega) (by decide)) (fun k hk=>by simp only [wW,kM hk,cond_false])
 rw [zBL (p:=fun (m:Mapping)=>m.To.length≤64)] at h1
 rcases h1 with ⟨h1,p1⟩ | ⟨y,hy,h1,p1⟩
 case inr=>rw [h1];exact ⟨y,rfl,fun h=>absurd h hy,fun _ h=>p1 h.sz⟩
 rw [h1]
 simp only [zA,Sum.elim_inl]
 have h2:=kT (body:=fun (x:Int)=>wX l x) l.length (fun k=>tagOk (nth l k)) (fun y=>y≠0) (fun k hk=>by
  simp only [wX,yZ hk,cond_true,zW hk,zA,zN,zL (k:=k) (by omega),tagOk,yF2]
  by_cases ht:(nth l k).Tag= []
  ·
   simp only [ht,decide_true,Bool.not_true,zBA,zA,Bool.false_and,cond_false]
   exact .inl ⟨.inl trivial,trivial⟩
  ·
   simp only [ht,decide_false,Bool.not_false,vX,zA,z9A (htg _ (xJ hk)),Bool.true_and,false_or]
   exact uD (by simp) (by decide)) (fun k hk=>by simp only [wX,kM hk,cond_false])
 rw [zBL (p:=tagOk)] at h2
 rcases h2 with ⟨h2,p2⟩ | ⟨y,hy,h2,p2⟩
 case inr=>rw [h2];exact ⟨y,rfl,fun h=>absurd h hy,fun _ h=>p2 h.tg⟩
 rw [h2]
 simp only [zA,Sum.elim_inl]
 obtain ⟨b,hb,hp,_⟩:=z6O hl
 rw [hb,zA]
 cases b with
 | true=>exact ⟨5,rfl,fun h=>absurd h (by decide),fun _ h=>hp rfl h.lt⟩
 | false=>exact ⟨0,rfl,fun _=>⟨p0,p1,p2⟩,fun h=>absurd rfl h⟩
theorem yDV:Ver (zEA l) (MV l):=by
 obtain ⟨e,he,h0,h1⟩:=yDU hl hto htg
 unfold zEA
 rw [he,zA]
 by_cases hz:e=0
 case neg=>
  have:(!decide (e=0))=true:=by simp [hz]
  rw [this,cond_true]
  exact ⟨e,rfl,by simp only [hz,false_iff];exact h1 hz⟩
 obtain ⟨p0,p1,p2⟩:=h0 hz
 rw [hz]
 simp only [decide_true,Bool.not_true,cond_false]
 have h3:=zI4 (body:=fun (x:Int)=>zAQ l x) l.length (fun k=>mlt (nth l k) (nth l (k+1))) (fun y=>y≠0) (fun k hk=>by
  have hk':k < l.length:=by omega
  simp only [zAQ,yZ hk,cond_true,zW hk,zA,zL (k:=k+1) (by omega),zCR (k:=k) (by omega),zW hk',zEX,zN,z5Q]
  exact uD (by unfold mlt;simp only [Bool.not_eq_true',Bool.or_eq_false_iff,Bool.and_eq_false_iff,decide_eq_false_iff_not,not_or,Classical.not_and_iff_not_or_not]) (by decide)) (fun k hk=>by simp only [zAQ,kM hk,cond_false])
 rcases h3 with ⟨h3,p3⟩ | ⟨y,hy,h3,p3⟩
 · rw [h3];exact ⟨0,rfl,by simp only [true_iff];exact ⟨p0,p1,p2,p3⟩⟩
 · rw [h3];exact ⟨y,rfl,by simp only [hy,false_iff];exact fun h=>p3 h.lt⟩
end
end Go.M
namespace Go.M
open Go.AV
section
variable {β:Type} [Inhabited β] (upd:List β→Nat→β)
def zLN:Nat→Nat→List β→List β
 | 0,_,out=>out
 | d+1,i,out=>zLN d (i+1) (out.set i (upd out i))
def zFV (n:Nat):Nat→List β→List β
 | 0,out=>out
 | k+1,out=>zFV n k (zLN upd n 0 out)
end
section
variable {β:Type} [Inhabited β] {upd:List β→Nat→β} {n:Nat} {Inv:List β→Prop}
theorem zNZ {out:List β} {i j:Nat} {x: β} (hi:i < out.length):nth (out.set i x) j=if j=i then x else nth out j:=by
 unfold nth
 rw [List.getD_eq_getElem?_getD,List.getD_eq_getElem?_getD,List.getElem?_set]
 by_cases h:i=j
 subst h;simp [hi]
 rw [if_neg h,if_neg (fun e=>h e.symm)]
theorem z91 {out:List β} {i:Nat} (hi:i < out.length):out.set i (nth out i)=out:=by
 rw [zAX hi];simp
omit [Inhabited β] in
theorem zN0:∀(d i:Nat) (out:List β),(zLN upd d i out).length=out.length
 | 0,_,_=>rfl
 | d+1,i,out=>by rw [zLN,zN0 d];simp
omit [Inhabited β] in
theorem zN1 (hi:∀i out,i < n→out.length=n→Inv out→Inv (out.set i (upd out i))):∀(d i:Nat) (out:List β),i+d=n→out.length=n→Inv out→Inv (zLN upd d i out)
 | 0,_,_,_,_,h=>h
 | d+1,i,out,hd,hl,h=>by
  rw [zLN]
  exact zN1 hi d (i+1) _ (by omega) (by simp [hl]) (hi i out (by omega) hl h)
omit [Inhabited β] in
theorem zS9 (hi:∀i out,i < n→out.length=n→Inv out→Inv (out.set i (upd out i))):∀(k:Nat) (out:List β),out.length=n→Inv out→Inv (zFV upd n k out)∧(zFV upd n k out).length=n
 | 0,_,hl,h=>⟨h,hl⟩
 | k+1,out,hl,h=>by
  rw [zFV]
  exact zS9 hi k _ (by rw [zN0,hl]) (zN1 hi n 0 out (by omega) hl h)
theorem z6P {R R' : Nat → Prop} {t : Nat → β} (hm : ∀ j, R j → R' j) (hi : ∀ i out, i < n → out.length = n → Inv out → Inv (out.set i (upd out i)))
    (hs : ∀ out i, i < n → out.length = n → Inv out → (∀ j, j < n → R j → nth out j = t j) → R' i → upd out i = t i) :
    ∀ (d i : Nat) (out : List β), i + d = n → out.length = n → Inv out → (∀ j, j < n → R j → nth out j = t j) → (∀ j, j < i → R' j → nth out j = t j) → ∀ j, j < n → R' j → nth (zLN upd d i out) j = t j
  | 0, i, out, hd, hl, h, h1, h2, j, hj, hr => h2 j (by omega) hr
  | d + 1, i, out, hd, hl, h, h1, h2, j, hj, hr => by
    have hin : i < n := by omega
    have hu : R' i → upd out i = t i := hs out i hin hl h h1
    rw [zLN]
    refine z6P hm hi hs d (i + 1) _ (by omega) (by simp [hl]) (hi i out hin hl h) (fun j hj hr => ?_) (fun j hj hr => ?_) j hj hr
    · rw [zNZ (by omega)]
      split
      · rename_i e; subst e; exact hu (hm _ hr)
      · exact h1 j hj hr
    · rw [zNZ (by omega)]
      split
      · rename_i e; subst e; exact hu hr
      · exact h2 j (by omega) hr
theorem zTA {R : Nat → Nat → Prop} {t : Nat → β} (hm : ∀ r j, R r j → R (r + 1) j) (hi : ∀ i out, i < n → out.length = n → Inv out → Inv (out.set i (upd out i)))
    (hs : ∀ r out i, i < n → out.length = n → Inv out → (∀ j, j < n → R r j → nth out j = t j) → R (r + 1) i → upd out i = t i) :
    ∀ (k r : Nat) (out : List β), out.length = n → Inv out → (∀ j, j < n → R r j → nth out j = t j) → ∀ j, j < n → R (r + k) j → nth (zFV upd n k out) j = t j
  | 0, _, _, _, _, h, j, hj, hr => h j hj hr
  | k + 1, r, out, hl, h, h1, j, hj, hr => by
    rw [zFV]
    have := z6P (R := R r) (R' := R (r + 1)) (hm r) hi (hs r) n 0 out (by omega) hl h h1 (fun j hj => by omega)
    refine zTA hm hi hs k (r + 1) _ (by rw [zN0, hl]) (zN1 hi n 0 out (by omega) hl h) this j hj ?_
    rw [show r + 1 + k = r + (k + 1) by omega]; exact hr
omit [Inhabited β] in
theorem zLO {X Y : Type} (mk : Nat → List β → X) {body : X → Option (Stp X Y)} (fin : List β → Y)
    (hb : ∀ i out, i < n → out.length = n → Inv out → body (mk i out) = some (.next (mk (i + 1) (out.set i (upd out i)))))
    (hi : ∀ i out, i < n → out.length = n → Inv out → Inv (out.set i (upd out i)))
    (he : ∀ out, body (mk n out) = some (.done (fin out))) : ∀ (d i : Nat) (out : List β), i + d = n → out.length = n → Inv out → zE body (mk i out) = some (fin (zLN upd d i out))
  | 0, i, out, hd, hl, h => by
    have : i = n := by omega
    subst this
    exact zK (he out)
  | d + 1, i, out, hd, hl, h => by
    rw [zO (hb i out (by omega) hl h), zLN]
    exact zLO mk fin hb hi he d (i + 1) _ (by omega) (by simp [hl]) (hi i out (by omega) hl h)
omit [Inhabited β] in
theorem zLP {X Y : Type} (mk : Nat → List β → X) {body : X → Option (Stp X Y)} (fin : List β → Y) {N : Nat}
    (hb : ∀ r out, r < N → out.length = n → Inv out → body (mk r out) = some (.next (mk (r + 1) (zLN upd n 0 out))))
    (hi : ∀ i out, i < n → out.length = n → Inv out → Inv (out.set i (upd out i)))
    (he : ∀ out, body (mk N out) = some (.done (fin out))) : ∀ (k r : Nat) (out : List β), r + k = N → out.length = n → Inv out → zE body (mk r out) = some (fin (zFV upd n k out))
  | 0, r, out, hd, hl, h => by
    have : r = N := by omega
    subst this
    exact zK (he out)
  | k + 1, r, out, hd, hl, h => by
    rw [zO (hb r out (by omega) hl h), zFV]
    exact zLP mk fin hb hi he k (r + 1) _ (by omega) (by rw [zN0, hl]) (zN1 hi n 0 out (by omega) hl h)
end
theorem zWC {A Y:Type} {p:Nat→A→Option Y}:∀{l:List A} {k:Nat} {y:Y},chk p l k=some y→∃j,∃h:j < l.length,p (k+j) l[j]=some y
 | [],_,_,h=>by cases h
 | x::l,k,y,h=>by
  unfold chk at h
  cases hp:p k x with
  | some z=>
   rw [hp] at h
   exact ⟨0,by simp,by simpa [hp] using h⟩
  | none=>
   rw [hp] at h
   obtain ⟨j,hj,e⟩:=zWC h
   exact ⟨j+1,by simpa using hj,by rw [show k+(j+1)=k+1+j by omega];simpa using e⟩
theorem zRV {A Y:Type} {p:Nat→A→Option Y}:∀{l:List A} {k j:Nat} (h:j < l.length),p (k+j) l[j]≠none→∃i,∃hi:i < l.length,i≤j∧chk p l k=p (k+i) l[i]
 | [],_,_,h,_=>by cases h
 | x::l,k,j,h,hp=>by
  unfold chk
  cases hx:p k x with
  | some z=>exact ⟨0,by simp,Nat.zero_le _,by simp [hx]⟩
  | none=>
   cases j with
   | zero=>exact absurd (by simpa using hx) hp
   | succ j=>
    obtain ⟨i,hi,hij,e⟩:=zRV (p:=p) (l:=l) (k:=k+1) (j:=j) (by simpa using h) (by rw [show k+1+j=k+(j+1) by omega];simpa using hp)
    exact ⟨i+1,by simpa using hi,by omega,by rw [show k+(i+1)=k+1+i by omega];simpa using e⟩
def pM (c:Int) (b:Bool) (k:Nat) (m:Mapping):Option Nat:=if m.From=c∧(b ||(m.Tag== []))=true then some k else none
def fi (l:List Mapping) (c:Int) (b:Bool):Option Nat:=chk (pM c b) l 0
theorem zGD {l:List Mapping} {c:Int} {b:Bool} {i:Nat} (h:fi l c b=some i):i < l.length∧(nth l i).From=c∧(b ||((nth l i).Tag== []))=true:=by
 obtain ⟨j,hj,e⟩:=zWC h
 unfold pM at e
 split at e
 rename_i hp
 injection e with e
 have:i=j:=by omega
 subst this
 rw [zAX hj]
 exact ⟨hj,hp⟩
 cases e
theorem zZW {l:List Mapping} {c:Int} {b:Bool} (h:fi l c b=none):∀m∈l,¬(m.From=c∧(b ||(m.Tag== []))=true):=by
 intro m hm hp
 obtain ⟨j,hj,rfl⟩:=List.getElem_of_mem hm
 have:=zLC h j hj
 unfold pM at this
 rw [if_pos hp] at this
 cases this
theorem zRW {l:List Mapping} (hd:DS l) (c:Int) (b:Bool):(∃i,fi l c b=some i∧i < l.length∧(nth l i).From=c∧fnB l b c=some (nth l i).To)∨(fi l c b=none∧fnB l b c=none):=by
 cases hf:fi l c b with
 | some i=>
  obtain ⟨h1,h2,h3⟩:=zGD hf
  refine .inl ⟨i,rfl,h1,h2,?_⟩
  have:=zCA hd (xJ h1)
  rw [h2] at this
  unfold fnB
  rw [this]
  simp only [h3,if_true]
 | none=>
  refine .inr ⟨rfl,?_⟩
  cases hn:fnB l b c with
  | none=>rfl
  | some to=>
   obtain ⟨m,h1,_,h3⟩:=zFU hn
   obtain ⟨h4,h5⟩:=zDB h1
   exact absurd ⟨h5,h3⟩ (zZW hf m h4)
def fiI (l:List Mapping) (c:Int) (b:Bool):Int:=match fi l c b with
 | some i=>(i:Int)
 | none=> -1
end Go.M
namespace Go.M
open Go.AV
section
variable {l:List Mapping} (hd:DS l)
def zKG (l:List Mapping) (out:List Bool) (i:Nat):Bool:=(nth l i).To.all fun e=>match fi l e true with
 | some m=>nth out m
 | none=>true
def z2H (l:List Mapping) (out:List Bool):Prop:= ∀j,j < l.length→nth out j=true→WW l (nth l j).From
include hd
theorem z93 {out:List Bool} (h:z2H l out) {i:Nat} (hi:i < l.length) (hu:zKG l out i=true):WW l (nth l i).From:=by
 refine zV1 fun e he=>?_
 rw [zV0 hd (xJ hi)] at he
 have:=List.all_eq_true.1 hu e he
 rcases zRW hd e true with ⟨m,h1,h2,h3,_⟩ | ⟨h1,h2⟩
 rw [h1] at this
 have:=h m h2 this
 rw [h3] at this;exact this
 cases hs:syl e with
 | true=>exact yDD hd hs
 | false=>
  refine zS4 ?_
  unfold dep
  rw [if_neg (by simp [hs])]
  rw [zPA] at h2
  cases hf:l.find? (isF e) with
  | none=>rfl
  | some m=>rw [hf] at h2;cases h2
theorem zRX (i:Nat) (out:List Bool) (hi:i < l.length) (hl:out.length=l.length) (h:z2H l out):z2H l (out.set i (zKG l out i)):=by
 intro j hj hn
 rw [zNZ (by omega)] at hn
 split at hn
 rename_i e;subst e;exact z93 hd h hi hn
 exact h j hj hn
theorem z94 (r:Nat) (out:List Bool) (i:Nat) (hi:i < l.length) (_hl:out.length=l.length) (h1:∀j,j < l.length→DD l r (nth l j).From→nth out j=true) (hr:DD l (r+1) (nth l i).From):zKG l out i=true:=by
 refine List.all_eq_true.2 fun e he=>?_
 have:=hr (nth l i) (zCA hd (xJ hi)) e he
 rcases zRW hd e true with ⟨m,e1,e2,e3,_⟩ | ⟨e1,_⟩
 rw [e1]
 exact h1 m e2 (by rw [e3];exact this)
 rw [e1]
theorem z6Q:(∀j,j < l.length→nth (zFV (zKG l) l.length l.length (List.replicate l.length false)) j=true)↔∀m∈l,WW l m.From:=by
 have h0:z2H l (List.replicate l.length false):=by
  intro j hj hn
  rw [zAX (by simpa using hj)] at hn
  simp at hn
 constructor
 intro h
 have hv:=(zS9 (upd:=zKG l) (n:=l.length) (Inv:=z2H l) (zRX hd) l.length _ (by simp) h0).1
 rw [←zBL (p:=fun m:Mapping=>WW l m.From)]
 exact fun k hk=>hv k hk (h k hk)
 intro H j hj
 have hp:=z52 hd H
 refine zTA (upd:=zKG l) (n:=l.length) (Inv:=z2H l) (R:=fun r j=>j < l.length∧DD l r (nth l j).From) (t:=fun _=>true) (fun r j h=>⟨h.1,zHQ h.2⟩) (zRX hd) (fun r out i hi hl _ h1 hr=>z94 hd r out i hi hl (fun j hj hr=>h1 j hj ⟨hj,hr⟩) hr.2) l.length 0 _ (by simp) h0 (fun j hj hr=>?_) j hj ⟨hj,by rw [Nat.zero_add];exact hp _ (xJ hj)⟩
 have:l.find? (isF (nth l j).From)=none:=hr.2
 rw [zCA hd (xJ hj)] at this
 cases this
end
section
variable {l:List Mapping} (hd:DS l) (hD:∀c,DD l l.length c) {b:Bool}
def lenOf (l:List Mapping) (b:Bool) (out:List Int) (e:Int):Int:=match fi l e b with
 | some m=>nth out m
 | none=>((hdE e).length:Int)
def updL (l:List Mapping) (b:Bool) (out:List Int) (i:Nat):Int:=if (b ||((nth l i).Tag== []))=true then min (max (((nth l i).To.map (lenOf l b out)).sum) 1) 65 else 1
def zTB (out:List Int):Prop:= ∀x∈out,0≤x∧x≤65
theorem z95 (out:List Int) (i:Nat):0≤updL l b out i∧updL l b out i≤65:=by
 unfold updL;split <;> omega
theorem zMG (i:Nat) (out:List Int) (_hi:i < l.length) (_hl:out.length=l.length) (h:zTB out):zTB (out.set i (updL l b out i)):=by
 intro x hx
 rcases List.mem_or_eq_of_mem_set hx with hx | rfl
 exact h x hx
 exact z95 out i
include hd hD
theorem z96 {i:Nat} (hi:i < l.length):wt l b (nth l i).From=if (b ||((nth l i).Tag== []))=true then min (max (((nth l i).To.map (wt l b)).sum) 1) 65 else 1:=by
 rw [zRQ hD]
 unfold fnB
 rw [zCA hd (xJ hi)]
 by_cases ht:(b ||((nth l i).Tag== []))=true
 simp only [ht,if_true]
 have hs:=zO8 hd (xJ hi)
 have e1:hdE (nth l i).From= [(nth l i).From]:=by unfold hdE;rw [if_neg (by simp [hs])]
 rw [if_neg ht]
 simp only [e1]
 rw [if_neg ht]
 rfl
omit hD in
theorem z6R {out:List Int} {e:Int} (hD':fnB l b e=none→wt l b e=((hdE e).length:Int)) (h:∀m,m < l.length→(nth l m).From=e→nth out m=wt l b e):lenOf l b out e=wt l b e:=by
 unfold lenOf
 rcases zRW hd e b with ⟨m,e1,e2,e3,_⟩ | ⟨e1,e2⟩
 rw [e1];exact h m e2 e3
 rw [e1,hD' e2]
theorem z97 (r : Nat) (out : List Int) (i : Nat) (hi : i < l.length) (h1 : ∀ j, j < l.length → DD l r (nth l j).From → nth out j = wt l b (nth l j).From) (hr : DD l (r + 1) (nth l i).From) : updL l b out i = wt l b (nth l i).From := by
  rw [z96 hd hD hi]
  unfold updL
  split
  · have : (nth l i).To.map (lenOf l b out) = (nth l i).To.map (wt l b) := List.map_congr_left fun e he => by
      have hde := hr (nth l i) (zCA hd (xJ hi)) e he
      exact z6R hd (fun hn => by rw [zRQ hD, hn]) fun m hm hf => by rw [← hf]; exact h1 m hm (by rw [hf]; exact hde)
    rw [this]
  · rfl
theorem zZX (j:Nat) (hj:j < l.length):nth (zFV (updL l b) l.length l.length (List.replicate l.length 0)) j=wt l b (nth l j).From:=by
 have h0:zTB (List.replicate l.length 0):=fun x hx=>by rw [(List.mem_replicate.1 hx).2];omega
 refine zTA (upd:=updL l b) (n:=l.length) (Inv:=zTB) (R:=fun r j=>j < l.length∧DD l r (nth l j).From) (t:=fun j=>wt l b (nth l j).From) (fun r j h=>⟨h.1,zHQ h.2⟩) zMG (fun r out i hi hl _ h1 hr=>z97 hd hD r out i hi (fun j hj hr=>h1 j hj ⟨hj,hr⟩) hr.2) l.length 0 _ (by simp) h0 (fun j hj hr=>?_) j hj ⟨hj,by rw [Nat.zero_add];exact hD _⟩
 have:l.find? (isF (nth l j).From)=none:=hr.2
 rw [zCA hd (xJ hj)] at this
 cases this
end
section
variable {l:List Mapping} (hd:DS l) (hD:∀c,DD l l.length c) {b:Bool}
def zEK (l:List Mapping) (b:Bool) (out:List (List Int)) (e:Int):List Int:=match fi l e b with
 | some m=>nth out m
 | none=>hdE e
def zPF (l:List Mapping) (b:Bool) (out:List (List Int)) (i:Nat):List Int:=if (b ||((nth l i).Tag== []))=true then (nth l i).To.flatMap (zEK l b out) else nth out i
def zQC (l:List Mapping) (b:Bool) (out:List (List Int)):Prop:= ∀j,j < l.length→(nth out j).length≤(fu l b (nth l j).From).length
include hd hD
theorem zZY {i:Nat} (hi:i < l.length) (ht:(b ||((nth l i).Tag== []))=true):fu l b (nth l i).From=(nth l i).To.flatMap (fu l b):=by
 rw [zLH hD]
 unfold fnB
 rw [zCA hd (xJ hi)]
 simp only [ht,if_true]
theorem zZZ {out:List (List Int)} (h:zQC l b out) (e:Int):(zEK l b out e).length≤(fu l b e).length:=by
 unfold zEK
 rcases zRW hd e b with ⟨m,e1,e2,e3,_⟩ | ⟨e1,e2⟩
 rw [e1];have:=h m e2;rw [e3] at this;exact this
 rw [e1,zLH hD,e2];exact Nat.le_refl _
omit hd hD in
theorem zWD {f g:Int→List Int} (h:∀e,(f e).length≤(g e).length):∀L:List Int,(L.flatMap f).length≤(L.flatMap g).length
 | []=>Nat.le_refl _
 | x::L=>by have:=zWD h L;have:=h x;simp only [List.flatMap_cons,List.length_append];omega
theorem z6S {out:List (List Int)} (h:zQC l b out) {i:Nat} (hi:i < l.length):(zPF l b out i).length≤(fu l b (nth l i).From).length:=by
 unfold zPF
 split
 rename_i ht
 rw [zZY hd hD hi ht]
 exact zWD (zZZ hd hD h) _
 exact h i hi
theorem zMH (i:Nat) (out:List (List Int)) (hi:i < l.length) (hl:out.length=l.length) (h:zQC l b out):zQC l b (out.set i (zPF l b out i)):=by
 intro j hj
 rw [zNZ (by omega)]
 split
 rename_i e;subst e;exact z6S hd hD h hi
 exact h j hj
omit hD in
theorem z98 (hD:∀c,DD l l.length c) (r:Nat) (out:List (List Int)) (i:Nat) (hi:i < l.length) (h1:∀j,j < l.length→(b ||((nth l j).Tag== []))=true→DD l r (nth l j).From→nth out j=fu l b (nth l j).From) (ht:(b ||((nth l i).Tag== []))=true) (hr:DD l (r+1) (nth l i).From):zPF l b out i=fu l b (nth l i).From:=by
 rw [zZY hd hD hi ht]
 unfold zPF
 rw [if_pos ht]
 refine zKF fun e he=>?_
 have hde:=hr (nth l i) (zCA hd (xJ hi)) e he
 unfold zEK
 cases hf:fi l e b with
 | some m=>
  obtain ⟨e1,e2,e3⟩:=zGD hf
  show nth out m=_
  rw [h1 m e1 e3 (by rw [e2];exact hde),e2]
 | none=>
  rcases zRW hd e b with ⟨m,e1,_⟩ | ⟨_,e2⟩
  rw [hf] at e1;cases e1
  show hdE e=_
  rw [zLH hD,e2]
def zWE (l:List Mapping) (b:Bool):List (List Int):=zFV (zPF l b) l.length l.length (List.replicate l.length [])
omit hd hD in
theorem yBQ:zQC l b (List.replicate l.length []):=by
 intro j hj
 rw [zAX (by simpa using hj)]
 simp
theorem yDW (j:Nat) (hj:j < l.length) (ht:(b ||((nth l j).Tag== []))=true):nth (zWE l b) j=fu l b (nth l j).From:=by
 refine zTA (upd:=zPF l b) (n:=l.length) (Inv:=zQC l b) (R:=fun r j=>j < l.length∧(b ||((nth l j).Tag== []))=true∧DD l r (nth l j).From) (t:=fun j=>fu l b (nth l j).From) (fun r j h=>⟨h.1,h.2.1,zHQ h.2.2⟩) (zMH hd hD) (fun r out i hi hl _ h1 hr=>z98 hd hD r out i hi (fun j hj ht hr=>h1 j hj ⟨hj,ht,hr⟩) hr.2.1 hr.2.2) l.length 0 _ (by simp) yBQ (fun j hj hr=>?_) j hj ⟨hj,ht,by rw [Nat.zero_add];exact hD _⟩
 have:l.find? (isF (nth l j).From)=none:=hr.2.2
 rw [zCA hd (xJ hj)] at this
 cases this
theorem z99 (e:Int):zEK l b (zWE l b) e=fu l b e:=by
 unfold zEK
 cases hf:fi l e b with
 | some m=>
  obtain ⟨e1,e2,e3⟩:=zGD hf
  show nth (zWE l b) m=_
  rw [yDW hd hD m e1 e3,e2]
 | none=>
  rcases zRW hd e b with ⟨m,e1,_⟩ | ⟨_,e2⟩
  rw [hf] at e1;cases e1
  show hdE e=_
  rw [zLH hD,e2]
end
end Go.M
namespace Go.M
open Go.AV
def plF (n:Int):Bool→List Int→Bool×List Int
 | true,l=>(true,l)
 | false,[]=>(false,[])
 | false,x::l=>if n≤x then (true,if n < x then n::x::l else x::l) else ((plF n false l).1,x::(plF n false l).2)
def plE (n:Int):List Int→List Int
 | []=>[n]
 | x::l=>if n≤x then (if n < x then n::x::l else x::l) else x::plE n l
theorem yBR (n:Int):∀l:List Int,(if (plF n false l).1=true then (plF n false l).2 else (plF n false l).2++ [n])=plE n l
 | []=>rfl
 | x::l=>by
  have:=yBR n l
  unfold plF plE
  by_cases h:n≤x
  simp [h]
  simp only [h,if_false]
  rw [←this]
  split <;> simp
theorem zYA {l : List Int} {n : Int} (hl : l.length ≤ 2000) : ∀ (d k : Nat) (b : Bool) (out : List Int), l.length - k = d → k ≤ l.length → out.length ≤ 2 * k →
    zE (fun (x : Bool × Int × (List Int)) => k5 l n x.1 x.2.1 x.2.2) (b, (k : Int), out) = some ((plF n b (l.drop k)).1, out ++ (plF n b (l.drop k)).2) := by
  intro d
  induction d with
  | zero =>
    intro k b out h1 h2 h3
    rw [List.drop_of_length_le (show l.length ≤ k by omega)]
    refine zK ?_
    simp only [k5, kM (show l.length ≤ k by omega), cond_false]
    cases b <;> simp [plF]
  | succ d ih =>
    intro k b out h1 h2 h3
    have hk : k < l.length := by omega
    have ha : ∀ {o : List Int} (x : Int), o.length ≤ 2 * k + 1 → app o [x] = some (o ++ [x]) := fun {o} x ho => u5 (by simp; omega)
    rw [List.drop_eq_getElem_cons hk]
    have nx : ∀ (b' : Bool) (o' : List Int), o'.length ≤ 2 * (k + 1) → k5 l n b (k : Int) out = some (.next (b', ((k + 1 : Nat) : Int), o')) → (plF n b' (l.drop (k + 1))).1 = (plF n b (l[k] :: l.drop (k + 1))).1 → o' ++ (plF n b' (l.drop (k + 1))).2 = out ++ (plF n b (l[k] :: l.drop (k + 1))).2 →
        zE (fun (x : Bool × Int × (List Int)) => k5 l n x.1 x.2.1 x.2.2) (b, (k : Int), out) = some ((plF n b (l[k] :: l.drop (k + 1))).1, out ++ (plF n b (l[k] :: l.drop (k + 1))).2) := by
      intro b' o' ho hb e1 e2
      rw [zO (body := fun (x : Bool × Int × (List Int)) => k5 l n x.1 x.2.1 x.2.2) (x := (b, (k : Int), out)) hb, ih (k + 1) b' o' (by omega) (by omega) ho, e1, e2]
    cases b with
    | true =>
      refine nx true (out ++ [l[k]]) (by simp; omega) ?_ ?_ ?_
      · simp only [k5, yZ hk, cond_true, zN, Bool.not_true, zBA, zA, Bool.false_and, cond_false, zZ hk, ha _ (show out.length ≤ 2 * k + 1 by omega), zL (k := k) (by omega)]
      · simp [plF]
      · simp [plF]
    | false =>
      by_cases h4 : n ≤ l[k]
      · by_cases h5 : n < l[k]
        · refine nx true (out ++ [n] ++ [l[k]]) (by simp; omega) ?_ ?_ ?_
          · simp only [k5, yZ hk, cond_true, zN, Bool.not_false, vX, zA, Bool.true_and, zZ hk, h4, h5, decide_true, ha _ (show out.length ≤ 2 * k + 1 by omega), ha _ (show (out ++ [n]).length ≤ 2 * k + 1 by simp; omega), zL (k := k) (by omega)]
          · simp [plF, h4]
          · simp [plF, h4, h5]
        · refine nx true (out ++ [l[k]]) (by simp; omega) ?_ ?_ ?_
          · simp only [k5, yZ hk, cond_true, zN, Bool.not_false, vX, zA, Bool.true_and, zZ hk, h4, h5, decide_true, decide_false, cond_false, ha _ (show out.length ≤ 2 * k + 1 by omega), zL (k := k) (by omega)]
          · simp [plF, h4]
          · simp [plF, h4, h5]
      · refine nx false (out ++ [l[k]]) (by simp; omega) ?_ ?_ ?_
        · simp only [k5, yZ hk, cond_true, zN, Bool.not_false, vX, zA, Bool.true_and, zZ hk, h4, decide_false, cond_false, ha _ (show out.length ≤ 2 * k + 1 by omega), zL (k := k) (by omega)]
        · simp [plF, h4]
        · simp [plF, h4]
theorem zZ0 (n:Int):∀l:List Int,(plF n false l).2.length≤l.length+1
 | []=>by simp [plF]
 | x::l=>by
  have:=zZ0 n l
  unfold plF
  by_cases h:n≤x
  by_cases h5:n < x <;> simp [h,h5]
  simp only [h,if_false,List.length_cons];omega
theorem zLQ {l:List Int} (hl:l.length≤2000) (n:Int):zBW l n=some (plE n l):=by
 unfold zBW
 have h:=zYA (n:=n) hl l.length 0 false [] (by omega) (by omega) (by simp)
 have hlen:=zZ0 n l
 rw [List.drop_zero,List.nil_append] at h
 have h':zE (fun (x:Bool×Int×(List Int))=>k5 l n x.1 x.2.1 x.2.2) (false,0,[])=some ((plF n false l).1,(plF n false l).2):=h
 rw [h',zA,←yBR]
 cases (plF n false l).1 with
 | true=>rfl
 | false=>simp only [Bool.not_false,cond_true,u5 (show (plF n false l).2.length+ [n].length≤4294967296 by simp;omega),zA];rfl
def Gd (l:List Int):Prop:=l.Pairwise (· < ·)∧∀x∈l,0≤x∧x≤1114111
theorem zTC (n:Int):∀{l:List Int} {x:Int},x∈plE n l→x=n∨x∈l
 | [],x,h=>by simp [plE] at h;exact .inl h
 | y::l,x,h=>by
  unfold plE at h
  split at h
  split at h
  rcases List.mem_cons.1 h with h | h
  exact .inl h
  exact .inr h
  exact .inr h
  rcases List.mem_cons.1 h with h | h
  exact .inr (by simp [h])
  rcases zTC n h with h | h
  exact .inl h
  exact .inr (by simp [h])
theorem zZ1 (n:Int):∀{l:List Int},l.Pairwise (· < ·)→(plE n l).Pairwise (· < ·)
 | [],_=>by simp [plE]
 | y::l,h=>by
  obtain ⟨h1,h2⟩:=List.pairwise_cons.1 h
  unfold plE
  split
  split
  rename_i hn
  refine List.pairwise_cons.2 ⟨fun z hz=>?_,h⟩
  rcases List.mem_cons.1 hz with rfl | hz
  exact hn
  have:=h1 z hz;omega
  exact h
  rename_i hn
  refine List.pairwise_cons.2 ⟨fun z hz=>?_,zZ1 n h2⟩
  rcases zTC n hz with rfl | hz
  omega
  exact h1 z hz
theorem zMI {n:Int} (hn:0≤n∧n≤1114111) {l:List Int} (h:Gd l):Gd (plE n l):=by
 refine ⟨zZ1 n h.1,fun x hx=>?_⟩
 rcases zTC n hx with rfl | hx
 exact hn
 exact h.2 x hx
theorem zI9 (n:Int):∀l:List Int,(plE n l).length≤l.length+1
 | []=>by simp [plE]
 | x::l=>by
  have:=zI9 n l
  unfold plE
  split
  split <;> simp
  simp only [List.length_cons];omega
theorem zTD {n:Int}:∀{l:List Int},(∀x∈l,x < n)→plE n l=l++ [n]
 | [],_=>rfl
 | y::l,h=>by
  have hy:=h y (by simp)
  unfold plE
  rw [if_neg (by omega),zTD fun x hx=>h x (by simp [hx])]
  rfl
def cuS (c:List Int) (r:Range):List Int:=if 0≤r.Hi∧r.Hi < 1114111 then plE (r.Hi+1) (if vld r.Lo=true then plE r.Lo c else c) else (if vld r.Lo=true then plE r.Lo c else c)
theorem zZ2 (c:List Int) (r:Range):(cuS c r).length≤c.length+2:=by
 have h1:=zI9 r.Lo c
 unfold cuS
 split
 ·
  have h2:=zI9 (r.Hi+1) (if vld r.Lo=true then plE r.Lo c else c)
  split at h2 <;> split <;> simp_all <;> omega
 · split <;> omega
theorem yDX {c:List Int} {r:Range} (h:Gd c):Gd (cuS c r):=by
 have h1:Gd (if vld r.Lo=true then plE r.Lo c else c):=by
  split
  rename_i hv
  unfold vld at hv
  simp only [Bool.and_eq_true,decide_eq_true_eq] at hv
  exact zMI hv h
  exact h
 unfold cuS
 split
 exact zMI (by omega) h1
 exact h1
def cuE (l:List Range) (c:List Int):List Int:=l.foldl cuS c
theorem zTE:∀(l:List Range) {c:List Int},Gd c→Gd (cuE l c)
 | [],_,h=>h
 | r::l,_,h=>zTE l (yDX h)
theorem zTF:∀(l:List Range) (c:List Int),(cuE l c).length≤c.length+2*l.length
 | [],c=>by simp [cuE]
 | r::l,c=>by
  have h1:=zTF l (cuS c r)
  have h2:=zZ2 c r
  show (cuE l (cuS c r)).length≤_
  simp only [List.length_cons];omega
theorem z2J {s : Set} (hl : s.Ranges.length ≤ 12) : ∀ (d k : Nat) (c : List Int), s.Ranges.length - k = d → k ≤ s.Ranges.length → c.length ≤ 100 + 2 * k →
    zE (fun (x : (List Int) × Int) => x9 s x.1 x.2) (c, (k : Int)) = some (cuE (s.Ranges.drop k) c) := by
  intro d
  induction d with
  | zero =>
    intro k c h1 h2 h3
    rw [List.drop_of_length_le (show s.Ranges.length ≤ k by omega)]
    refine zK ?_
    simp only [x9, kM (show s.Ranges.length ≤ k by omega), cond_false]
    rfl
  | succ d ih =>
    intro k c h1 h2 h3
    have hk : k < s.Ranges.length := by omega
    have hs := zZ2 c s.Ranges[k]
    have hb : x9 s c (k : Int) = some (.next (cuS c s.Ranges[k], ((k + 1 : Nat) : Int))) := by
      have hp := zI9 s.Ranges[k].Lo c
      simp only [x9, yZ hk, cond_true, zZ hk, zA, zEI, zN, zL (k := k) (by omega), zLQ (show c.length ≤ 2000 by omega)]
      unfold cuS
      by_cases hv : vld s.Ranges[k].Lo = true
      · simp only [hv, cond_true, zA, if_true]
        by_cases ha : 0 ≤ s.Ranges[k].Hi
        · by_cases hc : s.Ranges[k].Hi < 1114111
          · simp only [ha, hc, decide_true, Bool.and_self, cond_true, and_self, if_true]
            rw [xF (n := s.Ranges[k].Hi + 1) (by omega) (by omega), zLQ (by omega)]
            rfl
          · simp [ha, hc]
        · simp [ha]
      · simp only [hv, Bool.false_eq_true, if_false, cond_false, zA]
        by_cases ha : 0 ≤ s.Ranges[k].Hi
        · by_cases hc : s.Ranges[k].Hi < 1114111
          · simp only [ha, hc, decide_true, Bool.and_self, cond_true, and_self, if_true]
            rw [xF (n := s.Ranges[k].Hi + 1) (by omega) (by omega), zLQ (by omega)]
            rfl
          · simp [ha, hc]
        · simp [ha]
    rw [zO (body := fun (x : (List Int) × Int) => x9 s x.1 x.2) (x := (c, (k : Int))) hb, ih (k + 1) _ (by omega) (by omega) (by omega), List.drop_eq_getElem_cons hk]
    rfl
theorem zZ3 {s:Set} (hl:s.Ranges.length≤12) {c:List Int} (hc:c.length≤100):zDN c s=some (plE 0 (cuE s.Ranges c)):=by
 unfold zDN
 have h:=z2J hl s.Ranges.length 0 c (by omega) (by omega) (by omega)
 rw [List.drop_zero] at h
 have h':zE (fun (x:(List Int)×Int)=>x9 s x.1 x.2) (c,0)=some (cuE s.Ranges c):=h
 have:=zTF s.Ranges c
 rw [h',zA,zLQ (by omega)]
 rfl
def zDW (l:List Range) (c:Int):Bool:=l.any fun r=>vld c&&decide (r.Lo≤c)&&decide (c≤r.Hi)
theorem z6T {s:Set} (hl:s.Ranges.length≤2000) (c:Int):zDO s c=some (zDW s.Ranges c):=by
 unfold zDO
 have h:=kT (body:=fun (x:Int)=>zB6 s c x) s.Ranges.length (fun k=> ¬(vld c&&decide ((nth s.Ranges k).Lo≤c)&&decide (c≤(nth s.Ranges k).Hi))=true) (fun y=>y=true) (fun k hk=>by
  simp only [zB6,yZ hk,cond_true,zEI,zA,zN,zW hk,zL (k:=k) (by omega)]
  cases hv:vld c with
  | false=>simp only [zBA,zA,Bool.false_and,cond_false];exact .inl ⟨by simp,trivial⟩
  | true=>
   simp only [vX,zA,Bool.true_and]
   by_cases h1:(nth s.Ranges k).Lo≤c
   simp only [h1,decide_true,vX,zA,Bool.true_and]
   exact uD (by simp) rfl
   simp only [h1,decide_false,zBA,zA,Bool.false_and,cond_false]
   exact .inl ⟨by simp,trivial⟩) (fun k hk=>by simp only [zB6,kM hk,cond_false])
 rw [zBL (p:=fun r:Range=> ¬(vld c&&decide (r.Lo≤c)&&decide (c≤r.Hi))=true)] at h
 rcases h with ⟨h,p⟩ | ⟨y,rfl,h,p⟩
 rw [h]
 have:zDW s.Ranges c=false:=by unfold zDW;rw [List.any_eq_false];exact p
 rw [this];rfl
 rw [h]
 have:zDW s.Ranges c=true:=by
  cases he:zDW s.Ranges c with
  | true=>rfl
  | false=>exfalso;apply p;unfold zDW at he;rw [List.any_eq_false] at he;exact he
 rw [this];rfl
def nxt:List Int→Int
 | []=>1114111
 | d::_=>d - 1
def coF (has : Int → Bool) : List Int → Bool → List Range → List Range
  | [], _, o => o
  | c :: cs, op, o => if has c = true then (if op = true then coF has cs true (match o with
      | q :: o' => { q with Hi := nxt cs } :: o'
      | [] => []) else coF has cs true ({ Lo := c, Hi := nxt cs } :: o)) else coF has cs false o
theorem yAA {C : List Int} {s : Set} (hl : s.Ranges.length ≤ 12) (hC : C.length ≤ 200) (hg : Gd C) : ∀ (d k : Nat) (op : Bool) (o : List Range), C.length - k = d → k ≤ C.length → o.length ≤ k → (op = true → o ≠ []) →
    zE (fun (x : Bool × Int × (List Range)) => kR C s { Ranges := [] } 1 x.1 x.2.1 x.2.2) (op, (k : Int), o.reverse) = some (coF (zDW s.Ranges) (C.drop k) op o).reverse := by
  intro d
  induction d with
  | zero =>
    intro k op o h1 h2 h3 h4
    rw [List.drop_of_length_le (show C.length ≤ k by omega)]
    refine zK ?_
    simp only [kR, kM (show C.length ≤ k by omega), cond_false]
    rfl
  | succ d ih =>
    intro k op o h1 h2 h3 h4
    have hk : k < C.length := by omega
    have he : zDO { Ranges := [] } C[k] = some false := by rw [z6T (by simp)]; rfl
    have hnx : (cond (decide (((k + 1 : Nat) : Int) < (C.length : Int))) ((yF C ((k + 1 : Nat) : Int)).bind fun t31 => some (wi (t31 - 1))) (some 1114111) : Option Int) = some (nxt (C.drop (k + 1))) := by
      by_cases hk1 : k + 1 < C.length
      · have := hg.2 _ (List.getElem_mem hk1)
        rw [yZ hk1, cond_true, zZ hk1, zA, xF (by omega) (by omega), List.drop_eq_getElem_cons hk1]
        rfl
      · rw [kM (by omega), cond_false, List.drop_of_length_le (by omega)]
        rfl
    rw [List.drop_eq_getElem_cons hk]
    have nx : ∀ (op' : Bool) (o' : List Range), o'.length ≤ k + 1 → (op' = true → o' ≠ []) → kR C s { Ranges := [] } 1 op (k : Int) o.reverse = some (.next (op', ((k + 1 : Nat) : Int), o'.reverse)) → coF (zDW s.Ranges) (C.drop (k + 1)) op' o' = coF (zDW s.Ranges) (C[k] :: C.drop (k + 1)) op o →
        zE (fun (x : Bool × Int × (List Range)) => kR C s { Ranges := [] } 1 x.1 x.2.1 x.2.2) (op, (k : Int), o.reverse) = some (coF (zDW s.Ranges) (C[k] :: C.drop (k + 1)) op o).reverse := by
      intro op' o' ho hne hb e
      rw [zO (body := fun (x : Bool × Int × (List Range)) => kR C s { Ranges := [] } 1 x.1 x.2.1 x.2.2) (x := (op, (k : Int), o.reverse)) hb, ih (k + 1) op' o' (by omega) (by omega) ho hne, e]
    have hb0 : kR C s { Ranges := [] } 1 op (k : Int) o.reverse = ((cond (zDW s.Ranges C[k] && op) ((yF o.reverse (wi ((o.reverse.length : Int) - 1))).bind fun t59 => (vZ o.reverse (wi ((o.reverse.length : Int) - 1)) ({ t59 with Hi := nxt (C.drop (k + 1)) })).bind fun r4160_4 => some r4160_4) (some o.reverse)).bind fun (y3 : List Range) =>
        (cond (zDW s.Ranges C[k] && !op) ((app y3 [({ Lo := C[k], Hi := nxt (C.drop (k + 1)) } : Range)]).bind fun r => some r) (some y3)).bind fun (y5 : List Range) => some (Stp.next (zDW s.Ranges C[k], ((k + 1 : Nat) : Int), y5))) := by
      unfold kR
      simp only [zL (k := k) (show k + 1 ≤ 9223372036854775807 by omega), yZ hk, cond_true, hnx, zA, zZ hk, z6T (show s.Ranges.length ≤ 2000 by omega), he, zF4, decide_true, zN, Bool.or_false]
    cases hh : zDW s.Ranges C[k] with
    | false =>
      refine nx false o (by omega) (fun h => by cases h) ?_ ?_
      · rw [hb0, hh]; rfl
      · simp [coF, hh]
    | true =>
      cases op with
      | false =>
        refine nx true ({ Lo := C[k], Hi := nxt (C.drop (k + 1)) } :: o) (by simp; omega) (fun _ => by simp) ?_ ?_
        · rw [hb0, hh]
          simp only [Bool.and_false, cond_false, zA, Bool.not_false, Bool.and_self, cond_true, u5 (show o.reverse.length + [({ Lo := C[k], Hi := nxt (C.drop (k + 1)) } : Range)].length ≤ 4294967296 by simp; omega)]
          simp
        · simp [coF, hh]
      | true =>
        cases o with
        | nil => exact absurd rfl (h4 rfl)
        | cons q o =>
          refine nx true ({ q with Hi := nxt (C.drop (k + 1)) } :: o) (by simp only [List.length_cons] at h3 ⊢; omega) (fun _ => by simp) ?_ ?_
          · rw [hb0, hh]
            have e1 : wi (((q :: o).reverse.length : Int) - 1) = ((o.length : Nat) : Int) := by
              simp only [List.length_cons] at h3
              have hL : ((q :: o).reverse.length : Int) = (o.length : Int) + 1 := by simp
              rw [hL, xF (by omega) (by omega)]; omega
            have e2 : (q :: o).reverse = o.reverse ++ q :: [] := by simp
            rw [e1, e2, xG (by simp), zA, vB (by simp)]
            simp
          · simp [coF, hh]
theorem z6U {l:List Range} (hl:l.length≤12):zFG l=some {Ranges:=(coF (zDW l) (plE 0 (plE 0 (cuE l []))) false []).reverse}:=by
 unfold zFG zD0
 have h1:=zTF l []
 have h2:=zI9 0 (cuE l [])
 have h3:=zI9 0 (plE 0 (cuE l []))
 simp only [List.length_nil] at h1
 have e0:cuE ([]:List Range) (plE 0 (cuE l []))=plE 0 (cuE l []):=rfl
 have hg:Gd (plE 0 (plE 0 (cuE l []))):=zMI (by omega) (zMI (by omega) (zTE l ⟨.nil,fun x hx=>by cases hx⟩))
 rw [zZ3 (s:={Ranges:=l}) hl (by simp),zA,zZ3 (s:={Ranges:=[]}) (by simp) (show (plE 0 (cuE l [])).length≤100 by omega)]
 rw [zA]
 have h:=yAA (s:={Ranges:=l}) hl (by omega) hg _ 0 false [] rfl (by omega) (by simp) (fun h=>by cases h)
 rw [List.drop_zero] at h
 have h':zE (fun (x:Bool×Int×(List Range))=>kR (plE 0 (plE 0 (cuE l []))) {Ranges:=l} {Ranges:=[]} 1 x.1 x.2.1 x.2.2) (false,0,[])=some (coF (zDW l) (plE 0 (plE 0 (cuE l []))) false []).reverse:=h
 change ((zE (fun (x:Bool×Int×(List Range))=>kR (plE 0 (plE 0 (cuE l []))) {Ranges:=l} {Ranges:=[]} 1 x.1 x.2.1 x.2.2) (false,0,[])).bind fun y1=>some ({Ranges:=y1}:Set)).bind (fun t6=>some t6)=_
 rw [h']
 rfl
end Go.M
namespace Go.M
open Go.AV
theorem zN3 {has:Int→Bool}:∀(C:List Int) (op:Bool) (o:List Range),Gd C→CanR o→(op=true→∀c,C.head? =some c→∃q o',o=q::o'∧q.Hi=c - 1∧q.Lo≤c)→(op=false→∀c q,C.head? =some c→o.head? =some q→q.Hi+1 < c)→(op=true→o≠[])→CanR (coF has C op o)
 | [],_,_,_,h,_,_,_=>h
 | c::cs,op,o,hg,ho,h1,h2,h3=>by
  obtain ⟨ha,hb⟩:=List.pairwise_cons.1 hg.1
  have hgs:Gd cs:=⟨hb,fun x hx=>hg.2 x (by simp [hx])⟩
  have hc:=hg.2 c (by simp)
  have hnx:c≤nxt cs∧nxt cs≤1114111∧∀d,cs.head? =some d→nxt cs=d - 1∧c < d:=by
   cases cs with
   | nil=>exact ⟨hc.2,Int.le_refl _,fun d hd=>by cases hd⟩
   | cons d cs=>
    have h5:=ha d (by simp)
    have h6:=hg.2 d (by simp)
    refine ⟨show c≤d - 1 by omega,show d - 1≤1114111 by omega,fun e he=>?_⟩
    simp only [List.head?_cons,Option.some.injEq] at he
    subst he
    exact ⟨rfl,h5⟩
  unfold coF
  split
  split
  rename_i hop
  obtain ⟨q,o',rfl,e1,e2⟩:=h1 hop c rfl
  refine zN3 cs true _ hgs ?_ (fun _ d hd=>⟨_,_,rfl,(hnx.2.2 d hd).1,?_⟩) (fun h=>by cases h) (fun _=>by simp)
  have hq:=ho.head
  unfold zA3 at hq
  cases o' with
  | nil=>show zA3 _;unfold zA3;simp only;omega
  | cons z o'=>exact ⟨by unfold zA3;simp only;omega,ho.2.1,ho.2.2⟩
  have:=(hnx.2.2 d hd).2
  show q.Lo≤d
  omega
  rename_i hop
  simp only [Bool.not_eq_true] at hop
  refine zN3 cs true _ hgs ?_ (fun _ d hd=>⟨_,_,rfl,(hnx.2.2 d hd).1,?_⟩) (fun h=>by cases h) (fun _=>by simp)
  cases o with
  | nil=>show zA3 _;unfold zA3;simp only;omega
  | cons z o'=>exact ⟨by unfold zA3;simp only;omega,h2 hop c z rfl rfl,ho⟩
  have:=(hnx.2.2 d hd).2
  show c≤d
  omega
  refine zN3 cs false o hgs ho (fun h=>by cases h) (fun _ d q hd hq=>?_) (fun h=>by cases h)
  have h7:=(hnx.2.2 d hd).2
  cases op with
  | true=>
   obtain ⟨q',o',rfl,e1,_⟩:=h1 rfl c rfl
   simp only [List.head?_cons,Option.some.injEq] at hq
   subst hq
   omega
  | false=>
   have:=h2 rfl c q rfl hq
   omega
def zH4 (l:List Range):List Int:=l.flatMap fun r=>r.Lo::if r.Hi < 1114111 then [r.Hi+1] else []
theorem z6V:∀(l:List Range) (c:List Int),Can l→(∀x∈c,∀r,l.head? =some r→x < r.Lo)→cuE l c=c++zH4 l
 | [],c,_,_=>by simp [cuE,zH4]
 | r::l,c,h,hc=>by
  have hr:=h.head
  unfold zA3 at hr
  have hv:vld r.Lo=true:=by unfold vld;simp;omega
  have e1:plE r.Lo c=c++ [r.Lo]:=zTD fun x hx=>hc x hx r rfl
  have e2:cuS c r=c++(r.Lo::if r.Hi < 1114111 then [r.Hi+1] else []):=by
   unfold cuS
   rw [if_pos hv,e1]
   by_cases hm:r.Hi < 1114111
   rw [if_pos ⟨by omega,hm⟩,if_pos hm,zTD]
   simp
   intro x hx
   rcases List.mem_append.1 hx with hx | hx
   have:=hc x hx r rfl;omega
   simp only [List.mem_singleton] at hx;omega
   rw [if_neg (fun h=>hm h.2),if_neg hm]
  show cuE l (cuS c r)=_
  rw [z6V l (cuS c r) h.tail,e2]
  simp [zH4]
  intro x hx q hq
  have hg:r.Hi+1 < q.Lo:=h.gap q (by cases l with | nil=>cases hq | cons a l=>simp only [List.head?_cons,Option.some.injEq] at hq;simp [hq])
  rw [e2] at hx
  rcases List.mem_append.1 hx with hx | hx
  have:=hc x hx r rfl;omega
  rcases List.mem_cons.1 hx with rfl | hx
  omega
  split at hx
  simp only [List.mem_singleton] at hx;omega
  cases hx
theorem yDY {l:List Range} (h:Can l) {r:Range} (hr:r∈l):zDW l r.Lo=true:=by
 have:=h.ok r hr
 unfold zA3 at this
 unfold zDW
 refine List.any_eq_true.2 ⟨r,hr,?_⟩
 unfold vld
 simp;omega
theorem z6W:∀{l:List Range},Can l→∀{r:Range},r∈l→zDW l (r.Hi+1)=false
 | [],_,r,hr=>by cases hr
 | a::l,h,r,hr=>by
  unfold zDW
  rw [List.any_eq_false]
  intro q hq
  have no:∀(c:Int) (q:Range),(c < q.Lo∨q.Hi < c)→¬(vld c&&decide (q.Lo≤c)&&decide (c≤q.Hi))=true:=by
   intro c q hc
   simp only [Bool.and_eq_true,decide_eq_true_eq]
   omega
  rcases List.mem_cons.1 hr with rfl | hr'
  refine no _ _ ?_
  rcases List.mem_cons.1 hq with rfl | hq
  omega
  have:=h.gap q hq;omega
  rcases List.mem_cons.1 hq with rfl | hq
  refine no _ _ ?_
  have h1:=h.gap r hr'
  have h2:=h.tail.ok r hr'
  unfold zA3 at h2
  omega
  have:=z6W h.tail hr'
  unfold zDW at this
  rw [List.any_eq_false] at this
  exact this q hq
theorem zZ4 {has : Int → Bool} : ∀ (l : List Range) (o : List Range), Can l → (∀ r ∈ l, has r.Lo = true ∧ (r.Hi < 1114111 → has (r.Hi + 1) = false)) → coF has (zH4 l) false o = l.reverse ++ o
  | [], o, _, _ => by simp [zH4, coF]
  | r :: l, o, h, hh => by
    obtain ⟨h1, h2⟩ := hh r (by simp)
    have ih := zZ4 (has := has) l (r :: o) h.tail fun q hq => hh q (by simp [hq])
    have hr := h.head
    unfold zA3 at hr
    by_cases hm : r.Hi < 1114111
    · have e : zH4 (r :: l) = r.Lo :: (r.Hi + 1) :: zH4 l := by simp [zH4, hm]
      have en : nxt ((r.Hi + 1) :: zH4 l) = r.Hi := by show r.Hi + 1 - 1 = r.Hi; omega
      rw [e]
      unfold coF
      rw [if_pos h1, if_neg (by simp), en]
      unfold coF
      rw [if_neg (by rw [h2 hm]; simp), ih]
      simp
    · have hl : l = [] := by
        cases l with
        | nil => rfl
        | cons q l =>
          have := h.2.1
          have h3 := h.tail.head
          unfold zA3 at h3
          omega
      subst hl
      have e : zH4 [r] = [r.Lo] := by simp [zH4, hm]
      rw [e]
      unfold coF
      rw [if_pos h1, if_neg (by simp)]
      unfold coF
      have : nxt [] = r.Hi := by show (1114111 : Int) = r.Hi; omega
      rw [this]
      rfl
theorem z6X {l:List Int} (h:Gd l):plE 0 (plE 0 l)=plE 0 l:=by
 cases l with
 | nil=>rfl
 | cons x l=>
  have:=h.2 x (by simp)
  by_cases hx:0 < x
  have e:plE 0 (x::l)=0::x::l:=by unfold plE;rw [if_pos (by omega),if_pos hx]
  rw [e]
  unfold plE
  rw [if_pos (by omega),if_neg (by omega)]
  have e:plE 0 (x::l)=x::l:=by unfold plE;rw [if_pos (by omega),if_neg hx]
  rw [e,e]
theorem z6Y {l:List Range} (h:Can l):(coF (zDW l) (plE 0 (plE 0 (cuE l []))) false []).reverse=l:=by
 rw [z6X (zTE l ⟨.nil,fun x hx=>by cases hx⟩),z6V l [] h (fun x hx=>by cases hx),List.nil_append]
 have hw:=zZ4 (has:=zDW l) l [] h fun r hr=>⟨yDY h hr,fun _=>z6W h hr⟩
 rw [List.append_nil] at hw
 have h0:plE 0 (zH4 l)=zH4 l∨(plE 0 (zH4 l)=0::zH4 l∧zDW l 0=false):=by
  cases l with
  | nil=>exact .inr ⟨rfl,rfl⟩
  | cons r l=>
   have hr:=h.head
   unfold zA3 at hr
   have e:zH4 (r::l)=r.Lo::((if r.Hi < 1114111 then [r.Hi+1] else [])++zH4 l):=by simp [zH4]
   rw [e]
   by_cases hx:0 < r.Lo
   refine .inr ⟨by unfold plE;rw [if_pos (by omega),if_pos hx],?_⟩
   unfold zDW
   rw [List.any_eq_false]
   intro q hq
   simp only [Bool.and_eq_true,decide_eq_true_eq]
   rcases List.mem_cons.1 hq with rfl | hq
   omega
   have:=h.gap q hq;omega
   exact .inl (by unfold plE;rw [if_pos (by omega),if_neg hx])
 rcases h0 with h0 | ⟨h0,h1⟩
 rw [h0,hw,List.reverse_reverse]
 rw [h0]
 unfold coF
 rw [if_neg (by rw [h1];simp),hw,List.reverse_reverse]
theorem z2L (l:List Range):Can (coF (zDW l) (plE 0 (plE 0 (cuE l []))) false []).reverse:=by
 have hg:Gd (plE 0 (plE 0 (cuE l []))):=zMI (by omega) (zMI (by omega) (zTE l ⟨.nil,fun x hx=>by cases hx⟩))
 have:=zN3 (has:=zDW l) _ false [] hg trivial (fun h=>by cases h) (fun _ c q _ hq=>by cases hq) (fun h=>by cases h)
 have h2:=zS0 _ [] this trivial (fun _ _ _ h=>by cases h)
 simpa using h2
theorem yAB {a b:Set} (ha:a.Ranges.length≤2000):zFH a b=some (decide (a.Ranges=b.Ranges)):=by
 unfold zFH
 by_cases hl:a.Ranges.length=b.Ranges.length
 have e:(!decide ((a.Ranges.length:Int)=(b.Ranges.length:Int)))=false:=by simp [hl]
 rw [e,cond_false]
 have h:=kT (body:=fun (x:Int)=>zBD a b x) a.Ranges.length (fun k=>nth a.Ranges k=nth b.Ranges k) (fun y=>y=false) (fun k hk=>by
  simp only [zBD,yZ hk,cond_true,zW hk,zW (show k < b.Ranges.length by omega),zA,zL (k:=k) (by omega)]
  exact uD (by simp) rfl) (fun k hk=>by simp only [zBD,kM hk,cond_false])
 have he:(∀j,j < a.Ranges.length→nth a.Ranges j=nth b.Ranges j)↔a.Ranges=b.Ranges:=by
  constructor
  intro h
  refine List.ext_getElem hl fun i h1 h2=>?_
  have:=h i h1
  rwa [zAX h1,zAX h2] at this
  intro h j _;rw [h]
 rw [he] at h
 rcases h with ⟨h,p⟩ | ⟨y,rfl,h,p⟩
 rw [h];simp [p]
 rw [h];simp [p]
 have e:(!decide ((a.Ranges.length:Int)=(b.Ranges.length:Int)))=true:=by simp;omega
 rw [e,cond_true]
 have:a.Ranges≠b.Ranges:=fun h=>hl (by rw [h])
 simp [this]
theorem yDZ {s:Set} (hl:s.Ranges.length≤12):∃b,zEB s=some b∧(b=true↔Can s.Ranges):=by
 unfold zEB
 rw [z6U hl,zA,yAB (by omega),zA]
 refine ⟨_,rfl,?_⟩
 simp only [decide_eq_true_eq]
 constructor
 intro h;rw [h];exact z2L _
 intro h;rw [z6Y h]
end Go.M
namespace Go.M
open Go.AV
theorem zTG {l:List Mapping} (hl:l.length≤2000) (c:Int) (b:Bool):zBX l c b=some (fiI l c b):=by
 unfold zBX
 have h:zE (fun (x:Int)=>zBE l c b x) 0=some (toS (chk (fun k m=>(pM c b k m).map fun (i:Nat)=>(i:Int)) l 0)):=by
  refine vO l _ (fun k hk=>?_) (fun k hk=>?_)
  simp only [zBE,yZ hk,cond_true,zZ hk,zA,zN,zL (k:=k) (by omega),pM]
  by_cases h1:l[k].From=c
  cases b with
  | true=>simp [h1,zBA,stp]
  | false=>
   cases ht:(l[k].Tag== []) with
   | true=>simp only [h1,decide_true,Bool.not_false,Bool.and_self,vX,zA,Bool.false_or,ht,Bool.true_and,cond_true,and_self,if_true,Option.map_some,stp]
   | false=>simp only [h1,decide_true,Bool.not_false,Bool.and_self,vX,zA,Bool.false_or,ht,Bool.true_and,cond_false,Bool.false_eq_true,and_false,if_false,Option.map_none,stp]
  simp [h1,zBA,stp]
  simp only [zBE,kM hk,cond_false]
 rw [h,zA,vY]
 have e:∀(L:List Mapping) (k:Nat),chk (fun k m=>(pM c b k m).map fun (i:Nat)=>(i:Int)) L k=(chk (pM c b) L k).map fun (i:Nat)=>(i:Int):=by
  intro L
  induction L with
  | nil=>intro k;rfl
  | cons x L ih=>
   intro k
   unfold chk
   cases pM c b k x with
   | none=>exact ih (k+1)
   | some y=>rfl
 rw [e]
 unfold fiI fi
 cases chk (pM c b) l 0 <;> rfl
theorem z6Z (c:Int):zDP c=some (hkE c):=by
 unfold zDP hkE
 simp only [zN]
 by_cases h1:4352≤c∧c < 4371
 rw [if_pos h1]
 have:(decide (4352≤c)&&decide (c≤4370))=true:=by simp;omega
 rw [this];rfl
 rw [if_neg h1]
 have e1:(decide (4352≤c)&&decide (c≤4370))=false:=by simp only [Bool.and_eq_false_iff,decide_eq_false_iff_not];omega
 rw [e1,cond_false]
 by_cases h2:4449≤c∧c < 4470
 rw [if_pos h2]
 have:(decide (4449≤c)&&decide (c≤4469))=true:=by simp;omega
 rw [this];rfl
 rw [if_neg h2]
 have e2:(decide (4449≤c)&&decide (c≤4469))=false:=by simp only [Bool.and_eq_false_iff,decide_eq_false_iff_not];omega
 rw [e2,cond_false]
 by_cases h3:4520≤c∧c < 4547
 rw [if_pos h3]
 have:(decide (4520≤c)&&decide (c≤4546))=true:=by simp;omega
 rw [this];rfl
 rw [if_neg h3]
 have e3:(decide (4520≤c)&&decide (c≤4546))=false:=by simp only [Bool.and_eq_false_iff,decide_eq_false_iff_not];omega
 rw [e3,cond_false]
 by_cases h4:c < 44032∨55204≤c
 rw [if_pos h4]
 have:(decide (44032≤c)&&decide (c≤55203))=false:=by simp only [Bool.and_eq_false_iff,decide_eq_false_iff_not];omega
 rw [this];rfl
 rw [if_neg h4]
 have e4:(decide (44032≤c)&&decide (c≤55203))=true:=by simp;omega
 rw [e4,cond_true,xF (n:=c - 44032) (by omega) (by omega)]
 have er:zGR (c - 44032) 28=some ((c - 44032) % 28):=by
  unfold zGR;rw [if_neg (by decide),Int.tmod_eq_emod_of_nonneg (by omega)]
 rw [er,zA]
 by_cases h5:(c - 44032) % 28=0 <;> simp [h5]
theorem yBS (c:Int):uK c=some (hdE c):=by
 unfold uK
 rw [z6Z,zA]
 cases hs:syl c with
 | false=>
  have:decide (hkE c < 4)=true:=by
   simp only [decide_eq_true_eq]
   have:¬4≤hkE c:=fun h=>by have:=(zEZ c).2 h;rw [hs] at this;cases this
   omega
  rw [this,cond_true]
  unfold hdE;rw [if_neg (by simp [hs])]
 | true=>
  have h4:=(zEZ c).1 hs
  have:decide (hkE c < 4)=false:=by simp only [decide_eq_false_iff_not];omega
  rw [this,cond_false]
  have hr:44032≤c∧c≤55203:=by unfold syl at hs;simpa using hs
  rw [xF (n:=c - 44032) (by omega) (by omega)]
  have d1:zJ0 wi (c - 44032) 28=some ((c - 44032) / 28):=by
   unfold zJ0;rw [if_neg (by decide),Int.tdiv_eq_ediv_of_nonneg (by omega),xF (by omega) (by omega)]
  have d2:zJ0 wi ((c - 44032) / 28) 21=some ((c - 44032) / 28 / 21):=by
   unfold zJ0;rw [if_neg (by decide),Int.tdiv_eq_ediv_of_nonneg (by omega),xF (by omega) (by omega)]
  have d3:zGR ((c - 44032) / 28) 21=some ((c - 44032) / 28 % 21):=by
   unfold zGR;rw [if_neg (by decide),Int.tmod_eq_emod_of_nonneg (by omega)]
  have d4:zGR (c - 44032) 28=some ((c - 44032) % 28):=by
   unfold zGR;rw [if_neg (by decide),Int.tmod_eq_emod_of_nonneg (by omega)]
  simp only [d1,d2,d3,d4,zA]
  unfold hdE
  rw [if_pos hs,xF (n:=4352+(c - 44032) / 28 / 21) (by omega) (by omega),xF (n:=4449+(c - 44032) / 28 % 21) (by omega) (by omega)]
  by_cases h0:0 < (c - 44032) % 28
  rw [if_pos h0,xF (n:=4520+(c - 44032) % 28) (by omega) (by omega),xF (n:=4520+(c - 44032) % 28 - 1) (by omega) (by omega)]
  simp only [h0,decide_true,cond_true]
  rw [u5 (by simp)]
  rfl
  rw [if_neg h0]
  simp only [h0,decide_false,cond_false]
  rfl
section
variable {l:List Mapping} (hl:l.length≤2000) (hto:∀m∈l,m.To.length≤2000)
include hl hto
theorem yAC {out : List Bool} (ho : out.length = l.length) {i : Nat} (hi : i < l.length) : ∀ (d k : Nat) (b : Bool), (nth l i).To.length - k = d → k ≤ (nth l i).To.length →
    zE (fun (x : Bool × Int) => wA l (i : Int) out x.1 x.2) (b, (k : Int)) = some (b && ((nth l i).To.drop k).all fun e => match fi l e true with | some m => nth out m | none => true) := by
  have hlen := hto _ (xJ hi)
  intro d
  induction d with
  | zero =>
    intro k b h1 h2
    rw [List.drop_of_length_le (show (nth l i).To.length ≤ k by omega)]
    refine zK ?_
    simp only [wA, zW hi, zA, kM (show (nth l i).To.length ≤ k by omega), cond_false, List.all_nil, Bool.and_true]
  | succ d ih =>
    intro k b h1 h2
    have hk : k < (nth l i).To.length := by omega
    have hb : wA l (i : Int) out b (k : Int) = some (.next (b && (match fi l (nth l i).To[k] true with | some m => nth out m | none => true), ((k + 1 : Nat) : Int))) := by
      simp only [wA, zW hi, zA, yZ hk, cond_true, zZ hk, zTG hl, zN, zL (k := k) (by omega)]
      unfold fiI
      cases hf : fi l (nth l i).To[k] true with
      | none => simp [zBA]
      | some m =>
        obtain ⟨h3, _, _⟩ := zGD hf
        have e : decide (((m : Nat) : Int) < 0) = false := by simp
        simp only [e, Bool.not_false, Bool.and_true, Bool.false_or]
        cases b with
        | false => simp [zBA]
        | true => simp only [vX, zW (show m < out.length by omega), zA, Bool.true_and]
    rw [zO (body := fun (x : Bool × Int) => wA l (i : Int) out x.1 x.2) (x := (b, (k : Int))) hb, ih (k + 1) _ (by omega) (by omega), List.drop_eq_getElem_cons hk, List.all_cons, Bool.and_assoc]
theorem yAD:zFI l=some (zFV (zKG l) l.length l.length (List.replicate l.length false)):=by
 unfold zFI
 rw [zXZ (by omega),zA]
 have h1:∀(out:List Bool),out.length=l.length→zE (fun (x:Int×(List Bool))=>u2 l x.1 x.2) (0,out)=some (zLN (zKG l) l.length 0 out):=fun out ho=>
  zLO (upd:=zKG l) (n:=l.length) (Inv:=fun _=>True) (body:=fun (x:Int×(List Bool))=>u2 l x.1 x.2) (fun i out=>((i:Int),out)) id (fun i out hi ho _=>by
   have:=yAC hl hto ho hi _ 0 true rfl (by omega)
   rw [List.drop_zero,Bool.true_and] at this
   have h':zE (fun (x:Bool×Int)=>wA l (i:Int) out x.1 x.2) (true,0)=some (zKG l out i):=this
   simp only [u2,yZ hi,cond_true,h',zA,zW (show i < out.length by omega),zFR (show i < out.length by omega),zL (k:=i) (by omega)]) (fun _ _ _ _ _=>trivial) (fun out=>by simp only [u2,kM (Nat.le_refl _),cond_false];rfl) l.length 0 out (by omega) ho trivial
 have h2:=zLP (upd:=zKG l) (n:=l.length) (Inv:=fun _=>True) (body:=fun (x:Int×(List Bool))=>u3 l x.1 x.2) (fun i out=>((i:Int),out)) id (N:=l.length) (fun r out hr ho _=>by
  simp only [u3,yZ hr,cond_true,h1 out ho,zA,zL (k:=r) (by omega)]) (fun _ _ _ _ _=>trivial) (fun out=>by simp only [u3,kM (Nat.le_refl _),cond_false];rfl) l.length 0 (List.replicate l.length false) (by omega) (by simp) trivial
 have h3:zE (fun (x:Int×(List Bool))=>u3 l x.1 x.2) (0,List.replicate l.length false)=some (zFV (zKG l) l.length l.length (List.replicate l.length false)):=h2
 rw [h3]
 rfl
theorem yAE {b : Bool} {out : List Int} (ho : out.length = l.length) (hv : zTB out) {i : Nat} (hi : i < l.length) : ∀ (d k : Nat) (n : Int), (nth l i).To.length - k = d → k ≤ (nth l i).To.length → 0 ≤ n → n ≤ 100 * (k : Int) →
    zE (fun (x : Int × Int) => jT l (i : Int) b out x.1 x.2) (n, (k : Int)) = some (n + (((nth l i).To.drop k).map (lenOf l b out)).sum) := by
  have hlen := hto _ (xJ hi)
  intro d
  induction d with
  | zero =>
    intro k n h1 h2 h3 h4
    rw [List.drop_of_length_le (show (nth l i).To.length ≤ k by omega)]
    refine zK ?_
    simp only [jT, zW hi, zA, kM (show (nth l i).To.length ≤ k by omega), cond_false, List.map_nil, List.sum_nil, Int.add_zero]
  | succ d ih =>
    intro k n h1 h2 h3 h4
    have hk : k < (nth l i).To.length := by omega
    have hbd : 0 ≤ lenOf l b out (nth l i).To[k] ∧ lenOf l b out (nth l i).To[k] ≤ 65 := by
      unfold lenOf
      cases hf : fi l (nth l i).To[k] b with
      | none => have := zKD (nth l i).To[k]; simp only []; omega
      | some m => obtain ⟨h3, _, _⟩ := zGD hf; exact hv _ (xJ (by omega))
    have hb : jT l (i : Int) b out n (k : Int) = some (.next (n + lenOf l b out (nth l i).To[k], ((k + 1 : Nat) : Int))) := by
      have hw : wi (n + lenOf l b out (nth l i).To[k]) = n + lenOf l b out (nth l i).To[k] := xF (by omega) (by omega)
      simp only [jT, zW hi, zA, yZ hk, cond_true, zZ hk, zTG hl, zL (k := k) (by omega), yBS]
      rw [← hw]
      unfold lenOf fiI
      cases hf : fi l (nth l i).To[k] b with
      | none => rfl
      | some m =>
        obtain ⟨h3, _, _⟩ := zGD hf
        have e : decide (0 ≤ ((m : Nat) : Int)) = true := by simp
        simp only [e, cond_true, zW (show m < out.length by omega), zA]
    rw [zO (body := fun (x : Int × Int) => jT l (i : Int) b out x.1 x.2) (x := (n, (k : Int))) hb, ih (k + 1) _ (by omega) (by omega) (by omega) (by omega), List.drop_eq_getElem_cons hk, List.map_cons, List.sum_cons, Int.add_assoc]
theorem zZ5 (b:Bool):zBF l b=some (zFV (updL l b) l.length l.length (List.replicate l.length 0)):=by
 unfold zBF
 rw [zXZ (by omega),zA]
 have h0:zTB (List.replicate l.length 0):=fun x hx=>by rw [(List.mem_replicate.1 hx).2];omega
 have h1:∀(out:List Int),out.length=l.length→zTB out→zE (fun (x:Int×(List Int))=>xW l b x.1 x.2) (0,out)=some (zLN (updL l b) l.length 0 out):=fun out ho hv=>
  zLO (upd:=updL l b) (n:=l.length) (Inv:=zTB) (body:=fun (x:Int×(List Int))=>xW l b x.1 x.2) (fun i out=>((i:Int),out)) id (fun i out hi ho hv=>by
   have:=yAE hl hto (b:=b) ho hv hi _ 0 0 rfl (by omega) (by omega) (by omega)
   rw [List.drop_zero,Int.zero_add] at this
   have h':zE (fun (x:Int×Int)=>jT l (i:Int) b out x.1 x.2) (0,0)=some (((nth l i).To.map (lenOf l b out)).sum):=this
   simp only [xW,yZ hi,cond_true,h',zA,zW (show i < out.length by omega),zFR (show i < out.length by omega),zW hi,zN,zL (k:=i) (by omega)]
   unfold updL
   cases b with
   | true=>simp
   | false=>
    cases ht:((nth l i).Tag== []) with
    | true=>simp
    | false=>simp [zW (show i < (out.set i (min (max (List.map (lenOf l false out) (nth l i).To).sum 1) 65)).length by simp;omega),zFR (show i < (out.set i (min (max (List.map (lenOf l false out) (nth l i).To).sum 1) 65)).length by simp;omega)]) zMG (fun out=>by simp only [xW,kM (Nat.le_refl _),cond_false];rfl) l.length 0 out (by omega) ho hv
 have h2:=zLP (upd:=updL l b) (n:=l.length) (Inv:=zTB) (body:=fun (x:Int×(List Int))=>xX l b x.1 x.2) (fun i out=>((i:Int),out)) id (N:=l.length) (fun r out hr ho hv=>by
  simp only [xX,yZ hr,cond_true,h1 out ho hv,zA,zL (k:=r) (by omega)]) zMG (fun out=>by simp only [xX,kM (Nat.le_refl _),cond_false];rfl) l.length 0 (List.replicate l.length 0) (by omega) (by simp) h0
 have h3:zE (fun (x:Int×(List Int))=>xX l b x.1 x.2) (0,List.replicate l.length 0)=some (zFV (updL l b) l.length l.length (List.replicate l.length 0)):=h2
 rw [h3]
 rfl
end
end Go.M
namespace Go.M
open Go.AV
theorem zN4 {β:Type} [Inhabited β] {upd:List β→Nat→β} {n k:Nat} {out:List β} (h:out.length=n):(zFV upd n k out).length=n:=
 (zS9 (upd:=upd) (n:=n) (Inv:=fun _=>True) (fun _ _ _ _ _=>trivial) k out h trivial).2
theorem zWF {l:List Mapping} (h:∀k,k+1 < l.length→(nth l k).From < (nth l (k+1)).From):∀(d i:Nat),i+d+1 < l.length→(nth l i).From < (nth l (i+d+1)).From
 | 0,i,hi=>h i hi
 | d+1,i,hi=>by
  have h1:=zWF h d i (by omega)
  have h3:=h (i+d+1) (by omega)
  have:i+(d+1)+1=i+d+1+1:=by omega
  rw [this]
  omega
theorem z2M {l:List Mapping} (hlt:∀k,k+1 < l.length→mlt (nth l k) (nth l (k+1))):(∀k,k < l.length→¬fiI l (nth l k).From true < (k:Int))↔∀k,k+1 < l.length→(nth l (k+1)).From≠(nth l k).From:=by
 constructor
 intro h k hk e
 have hk':k < l.length:=by omega
 have hp:pM (nth l (k+1)).From true (0+k) l[k]≠none:=by
  unfold pM
  rw [if_pos ⟨by rw [e,zAX hk'],rfl⟩]
  simp
 obtain ⟨i,hi,hik,hc⟩:=zRV (p:=pM (nth l (k+1)).From true) (l:=l) (k:=0) hk' hp
 have hfi:fi l (nth l (k+1)).From true=some i:=by
  unfold fi
  rw [hc]
  unfold pM
  split
  simp
  rename_i hn
  exfalso
  have:chk (pM (nth l (k+1)).From true) l 0=none:=by rw [hc];unfold pM;rw [if_neg hn]
  exact hp (zLC this k hk')
 refine h (k+1) hk ?_
 unfold fiI
 rw [hfi]
 simp only []
 omega
 intro h k hk hlt'
 have hs:∀k,k+1 < l.length→(nth l k).From < (nth l (k+1)).From:=fun k hk=>by
  have a:=hlt k hk
  have b:=h k hk
  unfold mlt at a
  omega
 unfold fiI at hlt'
 cases hf:fi l (nth l k).From true with
 | none=>exact absurd ⟨rfl,rfl⟩ (zZW hf _ (xJ hk))
 | some i=>
  rw [hf] at hlt'
  simp only [] at hlt'
  obtain ⟨h1,h2,_⟩:=zGD hf
  have:=zWF hs (k - i - 1) i (by omega)
  rw [show i+(k - i - 1)+1=k by omega] at this
  omega
theorem yD0 {n:Norm} (hs:NSm n) (hok:zBI n):Ver (zEC n) (VD0 n):=by
 obtain ⟨e1,he1,p1⟩:=z6M (l:=n.Classes) (by have:=hs.cl;omega)
 obtain ⟨e2,he2,p2⟩:=yDV (l:=n.Decomp) (by have:=hs.de;omega) (fun m hm=>by have:=hs.to m hm;omega) (fun m hm=>by have:=hs.tg m hm;unfold MX;omega)
 obtain ⟨e3,he3,p3⟩:=yDZ (s:=n.Excluded) hs.ex
 have hde:=hs.de
 have hl:n.Decomp.length≤2000:=by omega
 have hto:∀m∈n.Decomp,m.To.length≤2000:=fun m hm=>by have:=hs.to m hm;omega
 unfold zEC
 rw [he1,zA]
 by_cases h1:e1=0
 case neg=>
  have:(!decide (e1=0))=true:=by simp [h1]
  rw [this,cond_true]
  exact ⟨e1,rfl,by simp only [h1,false_iff];exact fun h=>h1 (p1.2 h.cv)⟩
 rw [h1]
 simp only [decide_true,Bool.not_true,cond_false]
 have cv:=p1.1 h1
 rw [he2,zA]
 by_cases h2:e2=0
 case neg=>
  have:(!decide (e2=0))=true:=by simp [h2]
  rw [this,cond_true]
  exact ⟨e2,rfl,by simp only [h2,false_iff];exact fun h=>h2 (p2.2 h.mv)⟩
 rw [h2]
 simp only [decide_true,Bool.not_true,cond_false]
 have mv:=p2.1 h2
 rw [he3,zA]
 cases e3 with
 | false=>exact ⟨11,rfl,by simp only [show ((11:Int)=0)=False by simp,false_iff];exact fun h=>by have:=p3.2 h.ca;cases this⟩
 | true=>
 have ca:=p3.1 rfl
 simp only [Bool.not_true,cond_false]
 have l0:=kT (body:=fun (x:Int)=>zAR n x) n.Decomp.length (fun k=> ¬fiI n.Decomp (nth n.Decomp k).From true < (k:Int)) (fun y=>y≠0) (fun k hk=>by
  simp only [zAR,yZ hk,cond_true,zW hk,zA,zTG hl,zL (k:=k) (by omega)]
  exact uD (by simp) (by decide)) (fun k hk=>by simp only [zAR,kM hk,cond_false])
 rw [z2M mv.lt] at l0
 rcases l0 with ⟨l0,ne⟩ | ⟨y,hy,l0,ne⟩
 case inr=>rw [l0];exact ⟨y,rfl,by simp only [hy,false_iff];exact fun h=>ne h.ne⟩
 rw [l0]
 simp only [zA,Sum.elim_inl]
 have hbt:∀m:Mapping,(m.Tag== [])=decide (m.Tag= []):=fun m=>by cases m.Tag <;> rfl
 have l1:=kT (body:=fun (x:Int)=>zAS n x) n.Decomp.length (fun k=>(nth n.Decomp k).Tag= []→(nth n.Decomp k).To.length=1∨(nth n.Decomp k).To.length=2) (fun y=>y≠0) (fun k hk=>by
  simp only [zAS,yZ hk,cond_true,zW hk,zA,zN,zL (k:=k) (by omega),hbt]
  by_cases ht:(nth n.Decomp k).Tag= []
  ·
   simp only [ht,decide_true,vX,zA,Bool.true_and,true_implies]
   by_cases h5:((nth n.Decomp k).To.length:Int)=1
   ·
    simp only [h5,decide_true,Bool.not_true,zBA,zA,Bool.false_and,cond_false]
    exact .inl ⟨.inl (by omega),trivial⟩
   ·
    simp only [h5,decide_false,Bool.not_false,vX,zA,Bool.true_and]
    exact uD (by simp only [Bool.not_eq_true',decide_eq_false_iff_not];omega) (by decide)
  ·
   simp only [ht,decide_false,zBA,zA,Bool.false_and,cond_false,false_implies]
   exact .inl ⟨trivial,trivial⟩) (fun k hk=>by simp only [zAS,kM hk,cond_false])
 rw [zBL (p:=fun m:Mapping=>m.Tag= []→m.To.length=1∨m.To.length=2)] at l1
 rcases l1 with ⟨l1,kd⟩ | ⟨y,hy,l1,kd⟩
 case inr=>rw [l1];exact ⟨y,rfl,by simp only [hy,false_iff];exact fun h=>kd h.kd⟩
 rw [l1]
 simp only [zA,Sum.elim_inl]
 have l2:=kT (body:=fun (x:Int)=>zAT n x) n.Decomp.length (fun k=>hkE (nth n.Decomp k).From=0∧((nth n.Decomp k).Tag≠[]→clE n.Classes (nth n.Decomp k).From=0)) (fun y=>y≠0) (fun k hk=>by
  simp only [zAT,yZ hk,cond_true,zW hk,zA,zN,z6Z,zL (k:=k) (by omega),hbt]
  by_cases h5:hkE (nth n.Decomp k).From=0
  ·
   simp only [h5,decide_true,Bool.not_true,Bool.not_false,vX,zA,Bool.true_and,Bool.false_or,true_and]
   by_cases ht:(nth n.Decomp k).Tag= []
   ·
    simp only [ht,decide_true,Bool.not_true,zBA,zA,Bool.false_and,cond_false]
    exact .inl ⟨fun h=>absurd rfl h,trivial⟩
   ·
    simp only [ht,decide_false,Bool.not_false,vX,zA,Bool.true_and,zLM (show n.Classes.length≤2000 by have:=hs.cl;omega) cv]
    exact uD (by simp [ht]) (by decide)
  ·
   have:(!decide (hkE (nth n.Decomp k).From=0))=true:=by simp [h5]
   simp only [this,Bool.not_true,zBA,zA,Bool.false_and,Bool.true_or,cond_true]
   exact .inr ⟨fun h=>h5 h.1,11,by decide,rfl⟩) (fun k hk=>by simp only [zAT,kM hk,cond_false])
 rw [zBL (p:=fun m:Mapping=>hkE m.From=0∧(m.Tag≠[]→clE n.Classes m.From=0))] at l2
 rcases l2 with ⟨l2,hk⟩ | ⟨y,hy,l2,hk⟩
 case inr=>rw [l2];exact ⟨y,rfl,by simp only [hy,false_iff];exact fun h=>hk fun m hm=>⟨h.hk m hm,h.tc m hm⟩⟩
 rw [l2]
 simp only [zA,Sum.elim_inl]
 have hds:DS n.Decomp:=⟨fun k hk'=>by
  have a:=mv.lt k hk'
  have b:=ne k hk'
  unfold mlt at a
  omega,fun m hm=>(hk m hm).1,fun m hm=>by have:=mv.sz m hm;omega⟩
 have hms:=z56 hds (by omega)
 rw [yAD hl hto,zA]
 have l3:=kT (body:=fun (x:Int)=>zAU n (zFV (zKG n.Decomp) n.Decomp.length n.Decomp.length (List.replicate n.Decomp.length false)) x) n.Decomp.length (fun k=>nth (zFV (zKG n.Decomp) n.Decomp.length n.Decomp.length (List.replicate n.Decomp.length false)) k=true) (fun y=>y≠0) (fun k hk=>by
  simp only [zAU,yZ hk,cond_true,zW (show k < (zFV (zKG n.Decomp) n.Decomp.length n.Decomp.length (List.replicate n.Decomp.length false)).length by rw [zN4 (by simp)];exact hk),zA,zL (k:=k) (by omega)]
  exact uD (by simp) (by decide)) (fun k hk=>by simp only [zAU,kM hk,cond_false])
 rw [z6Q hds] at l3
 rcases l3 with ⟨l3,H⟩ | ⟨y,hy,l3,H⟩
 case inr=>rw [l3];exact ⟨y,rfl,by simp only [hy,false_iff];exact fun h=>H (hms.1 h.ms).1⟩
 rw [l3]
 simp only [zA,Sum.elim_inl]
 have hD:=zO9 hds H
 rw [zZ5 hl hto false,zA,zZ5 hl hto true,zA]
 have l4:=kT (body:=fun (x:Int)=>zAV n (zFV (updL n.Decomp false) n.Decomp.length n.Decomp.length (List.replicate n.Decomp.length 0)) (zFV (updL n.Decomp true) n.Decomp.length n.Decomp.length (List.replicate n.Decomp.length 0)) x) n.Decomp.length (fun k=>wt n.Decomp true (nth n.Decomp k).From≤64) (fun y=>y≠0) (fun k hk=>by
  have hmo:wt n.Decomp false (nth n.Decomp k).From≤wt n.Decomp true (nth n.Decomp k).From:=zZH hds _ _
  simp only [zAV,yZ hk,cond_true,zW (show k < (zFV (updL n.Decomp false) n.Decomp.length n.Decomp.length (List.replicate n.Decomp.length 0)).length by rw [zN4 (by simp)];exact hk),zW (show k < (zFV (updL n.Decomp true) n.Decomp.length n.Decomp.length (List.replicate n.Decomp.length 0)).length by rw [zN4 (by simp)];exact hk),zA,zN,zZX hds hD (b:=false) k hk,zZX hds hD (b:=true) k hk,zL (k:=k) (by omega)]
  by_cases h6:64 < wt n.Decomp false (nth n.Decomp k).From
  ·
   simp only [h6,decide_true,Bool.not_true,zBA,zA,Bool.true_or,cond_true]
   exact .inr ⟨by omega,13,by decide,rfl⟩
  ·
   simp only [h6,decide_false,Bool.not_false,vX,zA,Bool.false_or]
   exact uD (by simp) (by decide)) (fun k hk=>by simp only [zAV,kM hk,cond_false])
 rw [zBL (p:=fun m:Mapping=>wt n.Decomp true m.From≤64)] at l4
 rcases l4 with ⟨l4,W⟩ | ⟨y,hy,l4,W⟩
 ·
  rw [l4]
  exact ⟨0,rfl,by simp only [true_iff];exact ⟨cv,mv,ca,ne,kd,fun m hm=>(hk m hm).1,fun m hm=>(hk m hm).2,hms.2 ⟨H,W⟩⟩⟩
 · rw [l4];exact ⟨y,rfl,by simp only [hy,false_iff];exact fun h=>W (hms.1 h.ms).2⟩
theorem yD1 {n:Norm} (hs:NSm n) (hok:zBI n):zFJ n=some (usN n):=by
 obtain ⟨e,he,hv⟩:=yD0 hs hok
 unfold zFJ usN
 rw [he,zA]
 by_cases hz:e=0
 rw [if_pos (hv.1 hz)];simp [hz]
 rw [if_neg (fun h=>hz (hv.2 h))];simp [hz]
end Go.M
namespace Go.M
open Go.AV
theorem zZ6 {l:List Mapping} (hl:l.length≤2000) {b:Bool} {lists:List (List Int)} (hn:lists.length=l.length) (hb:∀e,(zEK l b lists e).length≤64) {text:List Int} (ht:text.length≤2000):wK l lists text b=some (text.flatMap (zEK l b lists)):=by
 have key:∀(d k:Nat) (out:List Int),text.length - k=d→k≤text.length→out.length≤64*k→zE (fun (x:Int×(List Int))=>kY text l b lists x.1 x.2) ((k:Int),out)=some (out++(text.drop k).flatMap (zEK l b lists)):=by
  intro d
  induction d with
  | zero=>
   intro k out h1 h2 h3
   rw [List.drop_of_length_le (show text.length≤k by omega)]
   refine zK ?_
   simp only [kY,kM (show text.length≤k by omega),cond_false,List.flatMap_nil,List.append_nil]
  | succ d ih=>
   intro k out h1 h2 h3
   have hk:k < text.length:=by omega
   have hbd:=hb text[k]
   have hb0:kY text l b lists (k:Int) out=some (.next (((k+1:Nat):Int),out++zEK l b lists text[k])):=by
    have ha:app out (zEK l b lists text[k])=some (out++zEK l b lists text[k]):=u5 (by omega)
    simp only [kY,yZ hk,cond_true,zZ hk,zA,zTG hl,zL (k:=k) (by omega),yBS]
    unfold zEK at ha ⊢
    unfold fiI
    cases hf:fi l text[k] b with
    | none=>
     rw [hf] at ha
     simp only [] at ha
     simp only [show decide ((0:Int)≤ -1)=false by decide,cond_false,ha,zA]
    | some m=>
     rw [hf] at ha
     simp only [] at ha
     obtain ⟨h4,_,_⟩:=zGD hf
     have e:decide (0≤((m:Nat):Int))=true:=by simp
     simp only [e,cond_true,zW (show m < lists.length by omega),zA,ha]
   rw [zO (body:=fun (x:Int×(List Int))=>kY text l b lists x.1 x.2) (x:=((k:Int),out)) hb0,ih (k+1) _ (by omega) (by omega) (by rw [List.length_append];omega),List.drop_eq_getElem_cons hk,List.flatMap_cons,List.append_assoc]
 unfold wK
 have h:=key text.length 0 [] (by omega) (by omega) (by simp)
 rw [List.drop_zero,List.nil_append] at h
 have h':zE (fun (x:Int×(List Int))=>kY text l b lists x.1 x.2) (0,[])=some (text.flatMap (zEK l b lists)):=h
 rw [h']
 rfl
theorem yD2 {n:Norm} (h:GN n) (b:Bool):zED n.Decomp b=some (zWE n.Decomp b):=by
 have hl:n.Decomp.length≤2000:=by have:=h.de;omega
 have hbd:∀{out:List (List Int)},zQC n.Decomp b out→∀e,(zEK n.Decomp b out e).length≤64:=fun hv e=>Nat.le_trans (zZZ h.ds h.dd hv e) (h.len b e)
 unfold zED
 rw [zXZ (by omega),zA]
 have h1:∀(out:List (List Int)),out.length=n.Decomp.length→zQC n.Decomp b out→zE (fun (x:Int×(List (List Int)))=>vV n.Decomp b x.1 x.2) (0,out)=some (zLN (zPF n.Decomp b) n.Decomp.length 0 out):=fun out ho hv=>
  zLO (upd:=zPF n.Decomp b) (n:=n.Decomp.length) (Inv:=zQC n.Decomp b) (body:=fun (x:Int×(List (List Int)))=>vV n.Decomp b x.1 x.2) (fun i out=>((i:Int),out)) id (fun i out hi ho hv=>by
   have hr:=zZ6 hl (b:=b) ho (hbd hv) (text:=(nth n.Decomp i).To) (h.ds.len _ (xJ hi))
   simp only [vV,yZ hi,cond_true,zN,zW hi,zW (show i < out.length by omega),zA,hr,zFR (show i < out.length by omega),zL (k:=i) (by omega)]
   unfold zPF
   cases b with
   | true=>simp [zBA]
   | false=>
    simp only [Bool.not_false,vX,zA,Bool.false_or]
    cases ht:((nth n.Decomp i).Tag== []) with
    | true=>simp
    | false=>simp [z91 (show i < out.length by omega)]) (zMH h.ds h.dd) (fun out=>by simp only [vV,kM (Nat.le_refl _),cond_false];rfl) n.Decomp.length 0 out (by omega) ho hv
 have h2:=zLP (upd:=zPF n.Decomp b) (n:=n.Decomp.length) (Inv:=zQC n.Decomp b) (body:=fun (x:Int×(List (List Int)))=>vW n.Decomp b x.1 x.2) (fun i out=>((i:Int),out)) id (N:=n.Decomp.length) (fun r out hr ho hv=>by
  simp only [vW,yZ hr,cond_true,h1 out ho hv,zA,zL (k:=r) (by omega)]) (zMH h.ds h.dd) (fun out=>by simp only [vW,kM (Nat.le_refl _),cond_false];rfl) n.Decomp.length 0 (List.replicate n.Decomp.length []) (by omega) (by simp) yBQ
 have h3:zE (fun (x:Int×(List (List Int)))=>vW n.Decomp b x.1 x.2) (0,List.replicate n.Decomp.length [])=some (zWE n.Decomp b):=h2
 rw [h3]
 rfl
theorem yAF {n:Norm} (h:GN n) (b:Bool) {text:List Int} (ht:text.length≤2000):zFK n text b=some (text.flatMap (fu n.Decomp b)):=by
 have hl:n.Decomp.length≤2000:=by have:=h.de;omega
 unfold zFK
 have e:∀c,zEK n.Decomp b (zWE n.Decomp b) c=fu n.Decomp b c:=z99 h.ds h.dd
 rw [yD2 h,zA,zZ6 (lists:=zWE n.Decomp b) hl (zN4 (by simp)) (fun c=>by rw [e];exact h.len b c) ht,zA,show zEK n.Decomp b (zWE n.Decomp b)=fu n.Decomp b from funext e]
section
variable {l:List Span} (hcv:CV l) (hl:l.length≤2000)
include hcv hl
theorem sIn {text : List Int} {v : Nat} (hv : v < text.length) : ∀ (r s : List Int), r.length ≤ 2000 → zE (fun (q : Int × (List Int)) => vD (clE l text[v]) l text (v : Int) q.1 q.2) ((r.length : Int), r.reverse ++ text[v] :: s) = some (wN (ltC (clE l)) r text[v] s)
  | [], s, _ => by
    refine zK ?_
    simp [vD, zN, zBA, zA, wN]
  | y :: r, s, hr => by
    simp only [List.length_cons] at hr
    have e0 : decide ((0 : Int) < ((r.length + 1 : Nat) : Int)) = true := by simp only [decide_eq_true_eq]; omega
    have e1 : (y :: r).reverse ++ text[v] :: s = r.reverse ++ y :: text[v] :: s := by simp
    have i1 : yF (r.reverse ++ y :: text[v] :: s) (r.length : Int) = some y := xG (by simp)
    have i2 : yF (r.reverse ++ y :: text[v] :: s) ((r.length + 1 : Nat) : Int) = some text[v] := by
      have := xG (p := r.reverse ++ [y]) (s := s) (x := text[v]) (k := r.length + 1) (by simp)
      simpa using this
    have s1 : vZ (r.reverse ++ y :: text[v] :: s) ((r.length + 1 : Nat) : Int) y = some (r.reverse ++ y :: y :: s) := by
      have := vB (p := r.reverse ++ [y]) (s := s) (x := text[v]) (y := y) (k := r.length + 1) (by simp)
      simpa using this
    have i3 : yF (r.reverse ++ y :: y :: s) (r.length : Int) = some y := xG (by simp)
    have s2 : vZ (r.reverse ++ y :: y :: s) (r.length : Int) text[v] = some (r.reverse ++ text[v] :: y :: s) := vB (by simp)
    rw [e1]
    show zE _ (((r.length + 1 : Nat) : Int), _) = _
    by_cases h0 : 0 < clE l text[v]
    · by_cases hlt : clE l text[v] < clE l y
      · rw [zO (x' := ((r.length : Int), r.reverse ++ text[v] :: (y :: s))) (by
          simp only [vD, zN, e0, h0, decide_true, Bool.and_self, zCR (k := r.length) (by omega), vX, i1, zA, zLM hl hcv, hlt, cond_true, i2, s1, zZ hv, i3, s2])]
        rw [sIn hv r (y :: s) (by omega)]
        have : ltC (clE l) text[v] y = true := by unfold ltC; simp [h0, hlt]
        simp [wN, this]
      · refine zK ?_
        have : ltC (clE l) text[v] y = false := by unfold ltC; simp [hlt]
        simp only [vD, zN, e0, h0, decide_true, Bool.and_self, zCR (k := r.length) (by omega), vX, i1, zA, zLM hl hcv, hlt, decide_false, Bool.and_false, cond_false, wN, this, Bool.false_eq_true, if_false, e1]
    · refine zK ?_
      have : ltC (clE l) text[v] y = false := by unfold ltC; simp [h0]
      simp only [vD, zN, e0, h0, decide_false, Bool.and_false, zBA, zA, Bool.false_and, cond_false, wN, this, Bool.false_eq_true, if_false, e1]
theorem yAG {text:List Int} (ht:text.length≤900):zDQ l text=some (csE (clE l) text):=by
 have key:∀(d k:Nat) (out:List Int),text.length - k=d→k≤text.length→out.length=k→zE (fun (x:Int×(List Int))=>wB text l x.1 x.2) ((k:Int),out)=some (vE (ltC (clE l)) (text.drop k) out):=by
  intro d
  induction d with
  | zero=>
   intro k out h1 h2 h3
   rw [List.drop_of_length_le (show text.length≤k by omega)]
   refine zK ?_
   simp only [wB,kM (show text.length≤k by omega),cond_false]
   rfl
  | succ d ih=>
   intro k out h1 h2 h3
   have hk:k < text.length:=by omega
   have hi:=sIn hcv hl hk out.reverse [] (by simp;omega)
   rw [List.reverse_reverse,List.length_reverse] at hi
   have hb:wB text l (k:Int) out=some (.next (((k+1:Nat):Int),wN (ltC (clE l)) out.reverse text[k] [])):=by
    have e1:wi (((out++ [text[k]]).length:Int) - 1)=(out.length:Int):=by
     have hL:((out++ [text[k]]).length:Int)=(out.length:Int)+1:=by simp
     rw [hL,xF (by omega) (by omega)];omega
    simp only [wB,yZ hk,cond_true,zZ hk,zA,u5 (show out.length+ [text[k]].length≤4294967296 by simp;omega),zLM hl hcv,e1,hi,zL (k:=k) (by omega)]
   rw [zO (body:=fun (x:Int×(List Int))=>wB text l x.1 x.2) (x:=((k:Int),out)) hb,ih (k+1) _ (by omega) (by omega) (by rw [zO5];simp;omega),List.drop_eq_getElem_cons hk]
   rfl
 unfold zDQ
 have h:=key text.length 0 [] (by omega) (by omega) rfl
 rw [List.drop_zero] at h
 have h':zE (fun (x:Int×(List Int))=>wB text l x.1 x.2) (0,[])=some (csE (clE l) text):=h
 rw [h']
 rfl
end
theorem yD3 {n:Norm} (hs:NSm n) (hok:zBI n) {text:List Int} {b:Bool} (ht:text.length≤2000) (hf:(zER n b text).length≤900):zFL n text b=some (zB2 n b text):=by
 have h:=zMF hs hok
 unfold zFL
 rw [yD1 hs hok,zA,yAF h b ht,zA]
 have e:=yAG h.cv (by have:=h.cl;omega) hf
 have e':zDQ (usN n).Classes (text.flatMap (fu (usN n).Decomp b))=some (zB2 n b text):=e
 rw [e']
 rfl
end Go.M
namespace Go.M
open Go.AV
end Go.M
namespace Go.M
open Go.AV
end Go.M
namespace Go.M
open Go.AV
def ckO (o:Options):Int:=if o.Strength < 1∨4 < o.Strength then 1 else if o.Variable < 1∨3 < o.Variable then 8 else 0
def zCW (o:Options):Options:=if ckO o=0 then o else {Strength:=3,Variable:=1,Backward:=false,Identical:=false}
theorem zYB (o:Options):xY o=some (ckO o):=by
 unfold xY ckO
 rw [zN]
 by_cases h1:o.Strength < 1∨4 < o.Strength
 have:(decide (o.Strength < 1) ||decide (4 < o.Strength))=true:=by simpa using h1
 rw [this,if_pos h1];rfl
 have:(decide (o.Strength < 1) ||decide (4 < o.Strength))=false:=by simpa using h1
 rw [this,if_neg h1,cond_false]
 by_cases v1:o.Variable=1
 simp [v1]
 by_cases v2:o.Variable=2
 simp [v2]
 by_cases v3:o.Variable=3
 simp [v3]
 rw [if_pos (by omega)]
 simp [v1,v2,v3]
theorem zZ7 (o:Options):wQ o=some (zCW o):=by
 unfold wQ zCW
 rw [zYB,zA]
 by_cases h:ckO o=0 <;> simp [h]
theorem z60 (o:Options):ckO (zCW o)=0:=by
 unfold zCW
 split
 assumption
 rfl
theorem yF3 {o:Options} (h:ckO o=0):zCW o=o:=by unfold zCW;rw [if_pos h]
theorem yHV {o:Options} (h:ckO o=0):1≤o.Strength∧o.Strength≤4∧1≤o.Variable∧o.Variable≤3:=by
 unfold ckO at h
 split at h
 cases h
 split at h
 cases h
 omega
def nz (x:Int):List Int:=if x=0 then [] else [x]
def col:Nat→A4Int→Int
 | 0,w=>w.x0
 | 1,w=>w.x1
 | 2,w=>w.x2
 | _,w=>w.x3
def row (k:Nat) (L:List A4Int):List Int:=L.flatMap fun w=>nz (col k w)
def zTH (f:Bool) (e:Element):Bool:=if e.Variable=true∨e.Primary≠0 then e.Variable else f
def zWG (e:Element):Prop:=e.Primary=0∧e.Secondary=0∧e.Tertiary=0
instance (e:Element):Decidable (zWG e):=by unfold zWG;infer_instance
def tr1 (v:Int) (f:Bool) (e:Element):A4Int:=
 if v=1 then {x0:=e.Primary,x1:=e.Secondary,x2:=e.Tertiary,x3:=if zWG e then 0 else 65535}
 else if zTH f e=true then {x0:=0,x1:=0,x2:=0,x3:=if v=3∧e.Variable=true then e.Primary else 0}
 else {x0:=e.Primary,x1:=e.Secondary,x2:=e.Tertiary,x3:=if v=3∧¬zWG e then 65535 else 0}
def trL (v:Int):Bool→List Element→List A4Int
 | _,[]=>[]
 | f,e::l=>tr1 v f e::trL v (zTH f e) l
theorem zTI (v:Int):∀(l:List Element) (f:Bool),(trL v f l).length=l.length
 | [],_=>rfl
 | e::l,f=>by simp [trL,zTI v l]
theorem z62 {v:Int} (hv:1≤v∧v≤3) (e:Element) (f:Bool):w8 e v f=some (tr1 v f e,if v=1 then f else zTH f e):=by
 obtain ⟨p,s,t,va⟩:=e
 unfold w8 tr1 zTH zWG
 rcases (by omega:v=1∨v=2∨v=3) with rfl | rfl | rfl <;> cases va <;> cases f <;> by_cases hp:p=0 <;> by_cases hs:s=0 <;> by_cases ht:t=0 <;> simp [hp,hs,ht]
theorem yF4 (f g:Bool) (e:Element):tr1 1 f e=tr1 1 g e:=rfl
theorem yBU:∀(l:List Element) (f g:Bool),trL 1 f l=trL 1 g l
 | [],_,_=>rfl
 | e::l,f,g=>by
  show tr1 1 f e::trL 1 _ l=tr1 1 g e::trL 1 _ l
  rw [yF4 f g,yBU l (zTH f e) (zTH g e)]
theorem z63 (x:Int):(nz x).length≤1:=by unfold nz;split <;> simp
theorem zTJ {r:List Int} {x:Int} (h:r.length+1≤4294967296):(cond (!decide (x=0)) ((app r [x]).bind fun q=>some q) (some r))=some (r++nz x):=by
 unfold nz
 by_cases hx:x=0
 simp [hx]
 simp only [hx,decide_false,Bool.not_false,cond_true,if_false]
 rw [u5 (by simpa using h)];rfl
theorem wl1 (t : A4Int × Bool) {r0 r1 r2 r3 : List Int} {n : Nat} (hn : n + 1 ≤ 4294967296) (h0 : r0.length ≤ n) (h1 : r1.length ≤ n) (h2 : r2.length ≤ n) (h3 : r3.length ≤ n) :
    zE (fun (x : Int × (List Int) × (List Int) × (List Int) × (List Int)) => jA t x.1 x.2.1 x.2.2.1 x.2.2.2.1 x.2.2.2.2) (0, r0, r1, r2, r3) = some (r0 ++ nz t.1.x0, r1 ++ nz t.1.x1, r2 ++ nz t.1.x2, r3 ++ nz t.1.x3) := by
  have i0 : yF [t.1.x0, t.1.x1, t.1.x2, t.1.x3] (0 : Int) = some t.1.x0 := rfl
  have i1 : yF [t.1.x0, t.1.x1, t.1.x2, t.1.x3] (1 : Int) = some t.1.x1 := rfl
  have i2 : yF [t.1.x0, t.1.x1, t.1.x2, t.1.x3] (2 : Int) = some t.1.x2 := rfl
  have i3 : yF [t.1.x0, t.1.x1, t.1.x2, t.1.x3] (3 : Int) = some t.1.x3 := rfl
  rw [zO (x' := (1, r0 ++ nz t.1.x0, r1, r2, r3)) (by
    simp only [jA, i0, zA, zTJ (x := t.1.x0) (show r0.length + 1 ≤ 4294967296 by omega)]; rfl)]
  rw [zO (x' := (2, r0 ++ nz t.1.x0, r1 ++ nz t.1.x1, r2, r3)) (by
    simp only [jA, i1, zA, zTJ (x := t.1.x1) (show r1.length + 1 ≤ 4294967296 by omega)]; rfl)]
  rw [zO (x' := (3, r0 ++ nz t.1.x0, r1 ++ nz t.1.x1, r2 ++ nz t.1.x2, r3)) (by
    simp only [jA, i2, zA, zTJ (x := t.1.x2) (show r2.length + 1 ≤ 4294967296 by omega)]; rfl)]
  rw [zO (x' := (4, r0 ++ nz t.1.x0, r1 ++ nz t.1.x1, r2 ++ nz t.1.x2, r3 ++ nz t.1.x3)) (by
    simp only [jA, i3, zA, zTJ (x := t.1.x3) (show r3.length + 1 ≤ 4294967296 by omega)]; rfl)]
  exact zK (by simp only [jA]; rfl)
theorem wl0 {l : List Element} {o : Options} (hv : 1 ≤ o.Variable ∧ o.Variable ≤ 3) (hl : l.length ≤ 4000000000) : ∀ (m k : Nat) (f : Bool) (r0 r1 r2 r3 : List Int), k + m = l.length → r0.length ≤ k → r1.length ≤ k → r2.length ≤ k → r3.length ≤ k →
    zE (fun (x : Int × Bool × (List Int) × (List Int) × (List Int) × (List Int)) => xV l o x.1 x.2.1 x.2.2.1 x.2.2.2.1 x.2.2.2.2.1 x.2.2.2.2.2) ((k : Int), f, r0, r1, r2, r3) =
      some (r0 ++ row 0 (trL o.Variable f (l.drop k)), r1 ++ row 1 (trL o.Variable f (l.drop k)), r2 ++ row 2 (trL o.Variable f (l.drop k)), r3 ++ row 3 (trL o.Variable f (l.drop k)))
  | 0, k, f, r0, r1, r2, r3, h, _, _, _, _ => by
    rw [List.drop_of_length_le (by omega)]
    refine zK ?_
    simp only [xV, kM (show l.length ≤ k by omega), cond_false, trL, row, List.flatMap_nil, List.append_nil]
  | m + 1, k, f, r0, r1, r2, r3, h, h0, h1, h2, h3 => by
    have hk : k < l.length := by omega
    have q : ∀ {r : List Int} (x : Int), r.length ≤ k → (r ++ nz x).length ≤ k + 1 := fun x hr => by rw [List.length_append]; have := z63 x; omega
    rw [zO (x' := (((k + 1 : Nat) : Int), (if o.Variable = 1 then f else zTH f l[k]), r0 ++ nz (tr1 o.Variable f l[k]).x0, r1 ++ nz (tr1 o.Variable f l[k]).x1, r2 ++ nz (tr1 o.Variable f l[k]).x2, r3 ++ nz (tr1 o.Variable f l[k]).x3)) (by
      simp only [xV, yZ hk, cond_true, zZ hk, zA, z62 hv, wl1 _ (n := k) (by omega) h0 h1 h2 h3, zL (k := k) (by omega)])]
    rw [wl0 hv hl m (k + 1) _ _ _ _ _ (by omega) (q _ h0) (q _ h1) (q _ h2) (q _ h3), List.drop_eq_getElem_cons hk]
    have e : trL o.Variable (if o.Variable = 1 then f else zTH f l[k]) (l.drop (k + 1)) = trL o.Variable (zTH f l[k]) (l.drop (k + 1)) := by
      by_cases h1 : o.Variable = 1
      · rw [h1]; exact yBU _ _ _
      · rw [if_neg h1]
    rw [e]
    simp [trL, row, col]
theorem z64 : ∀ (n : Nat) (a m b : List Int), m.length = n → a.length = b.length → a.length + m.length + b.length ≤ 9000000000000000000 →
    zE (fun (x : Int × Int × (List Int)) => k9 x.1 x.2.1 x.2.2) ((a.length : Int), ((a.length + m.length : Nat) : Int) - 1, a ++ m ++ b) = some (a ++ m.reverse ++ b) := by
  intro n
  induction n using Nat.strongRecOn with
  | ind n ih =>
    intro a m b hn hab hb
    by_cases h2 : m.length ≤ 1
    · have e : decide ((a.length : Int) < ((a.length + m.length : Nat) : Int) - 1) = false := by simp; omega
      refine zK ?_
      have hr : m.reverse = m := by
        match m, h2 with
        | [], _ => rfl
        | [x], _ => rfl
      simp only [k9, e, cond_false, hr]
    · obtain ⟨x, m1, rfl⟩ := List.exists_cons_of_ne_nil (l := m) (fun e => by rw [e] at h2; simp at h2)
      have hm1 : m1 ≠ [] := fun e => by rw [e] at h2; simp at h2
      obtain ⟨m2, y, rfl⟩ : ∃ m2 y, m1 = m2 ++ [y] := ⟨m1.dropLast, m1.getLast hm1, (List.dropLast_concat_getLast hm1).symm⟩
      simp only [List.length_cons, List.length_append, List.length_nil] at hn hb h2
      have e : decide ((a.length : Int) < ((a.length + (x :: (m2 ++ [y])).length : Nat) : Int) - 1) = true := by simp; omega
      have ej : ((a.length + (x :: (m2 ++ [y])).length : Nat) : Int) - 1 = ((a.length + 1 + m2.length : Nat) : Int) := by simp; omega
      have g1 : yF (a ++ (x :: (m2 ++ [y])) ++ b) (((a.length + 1 + m2.length : Nat) : Int)) = some y := by
        rw [zZ (by simp; omega)]; congr 1
        rw [List.getElem_append_left (by simp; omega), List.getElem_append_right (by omega)]
        simp only [show a.length + 1 + m2.length - a.length = m2.length + 1 by omega, List.getElem_cons_succ]
        rw [List.getElem_append_right (by omega)]; simp
      have g2 : yF (a ++ (x :: (m2 ++ [y])) ++ b) ((a.length : Nat) : Int) = some x := by
        rw [zZ (by simp)]; congr 1
        rw [List.getElem_append_left (by simp), List.getElem_append_right (by omega)]; simp
      have s1 : vZ (a ++ (x :: (m2 ++ [y])) ++ b) ((a.length : Nat) : Int) y = some (a ++ (y :: (m2 ++ [y])) ++ b) := by
        rw [zFR (by simp)]; congr 1; simp
      have g3 : yF (a ++ (y :: (m2 ++ [y])) ++ b) (((a.length + 1 + m2.length : Nat) : Int)) = some y := by
        rw [zZ (by simp; omega)]; congr 1
        rw [List.getElem_append_left (by simp; omega), List.getElem_append_right (by omega)]
        simp only [show a.length + 1 + m2.length - a.length = m2.length + 1 by omega, List.getElem_cons_succ]
        rw [List.getElem_append_right (by omega)]; simp
      have s2 : vZ (a ++ (y :: (m2 ++ [y])) ++ b) (((a.length + 1 + m2.length : Nat) : Int)) x = some ((a ++ [y]) ++ m2 ++ (x :: b)) := by
        rw [zFR (by simp; omega)]; congr 1
        have e1 : a ++ (y :: (m2 ++ [y])) ++ b = (a ++ y :: m2) ++ y :: b := by simp
        rw [e1, show a.length + 1 + m2.length = (a ++ y :: m2).length by simp; omega, List.set_append_right _ _ (Nat.le_refl _)]
        simp
      rw [zO (x' := (((a ++ [y]).length : Int), (((a ++ [y]).length + m2.length : Nat) : Int) - 1, (a ++ [y]) ++ m2 ++ (x :: b))) (by
        simp only [k9, e, cond_true]
        rw [ej]
        simp only [g1, g2, s1, g3, s2, zA]
        rw [zL (k := a.length) (by omega), xF (by omega) (by omega)]
        simp only [List.length_append, List.length_cons, List.length_nil])]
      rw [ih m2.length (by omega) (a ++ [y]) m2 (x :: b) rfl (by simp; omega) (by simp; omega)]
      simp
theorem yD4 {l:List Int} (h:l.length≤4294967296):jS l=some l.reverse:=by
 unfold jS
 have:=z64 l.length [] l [] rfl rfl (by simp;omega)
 simp only [List.nil_append,List.append_nil,List.length_nil,Nat.zero_add] at this
 rw [xF (by omega) (by omega)]
 rw [show ((0:Nat):Int)=0 from rfl] at this
 rw [this];rfl
def yAH (b:Bool) (l:List Int):List Int:=if b=true then l.reverse else l
def rows (b:Bool) (L:List A4Int):List (List Int):=[row 0 L,yAH b (row 1 L),row 2 L,row 3 L]
def wts (l:List Element) (o:Options):List (List Int):=(rows o.Backward (trL o.Variable false l)).take o.Strength.toNat
theorem zTK (k:Nat):∀(L:List A4Int),(row k L).length≤L.length
 | []=>by simp [row]
 | w::L=>by
  have:=zTK k L
  have h2:=z63 (col k w)
  simp only [row,List.flatMap_cons,List.length_append,List.length_cons] at this ⊢
  omega
theorem zPH {l:List Element} (hl:l.length≤4000000000) (o:Options):uJ l o=some (wts l (zCW o)):=by
 have hb:=yHV (z60 o)
 unfold uJ wts
 have e0:({Strength:=o.Strength,Variable:=o.Variable,Backward:=o.Backward,Identical:=o.Identical}:Options)=o:=rfl
 rw [e0,zZ7,zA]
 generalize zCW o=q at*
 have hw:=wl0 (l:=l) (o:=q) hb.2.2 hl l.length 0 false [] [] [] [] (by omega) (by simp) (by simp) (by simp) (by simp)
 simp only [List.drop_zero,List.nil_append] at hw
 rw [show ((0:Nat):Int)=0 from rfl] at hw
 unfold zBJ
 rw [zA,hw,zA]
 have hr:(cond q.Backward ((jS (row 1 (trL q.Variable false l))).bind fun t45=>some t45) (some (row 1 (trL q.Variable false l))))=some (yAH q.Backward (row 1 (trL q.Variable false l))):=by
  cases q.Backward with
  | false=>rfl
  | true=>
   have:=zTK 1 (trL q.Variable false l)
   rw [zTI] at this
   rw [cond_true,yD4 (by omega)];rfl
 simp only [hr,zA]
 have hs:q.Strength=((q.Strength.toNat:Nat):Int):=by omega
 have hsl:slc [row 0 (trL q.Variable false l),yAH q.Backward (row 1 (trL q.Variable false l)),row 2 (trL q.Variable false l),row 3 (trL q.Variable false l)] 0 q.Strength=some ((rows q.Backward (trL q.Variable false l)).take q.Strength.toNat):=by
  rw [hs,zIU (by simp;omega)];rfl
 rw [hsl,zA,u5 (by simp [rows];omega)]
 rfl
end Go.M
namespace Go.M
open Go.AV
theorem z65 {l:List Element} {o:Options} {x:List Int} (h:x∈wts l o):x.length≤l.length:=by
 unfold wts at h
 have h:=List.mem_of_mem_take h
 have key:∀k,(row k (trL o.Variable false l)).length≤l.length:=fun k=>by have:=zTK k (trL o.Variable false l);rwa [zTI] at this
 simp only [rows,List.mem_cons,List.not_mem_nil,or_false] at h
 rcases h with rfl | rfl | rfl | rfl
 exact key 0
 unfold yAH;split
 rw [List.length_reverse];exact key 1
 exact key 1
 exact key 2
 exact key 3
end Go.M
namespace Go.M
open Go.AV
def jn:Nat→List Int→List (List Int)→List Int
 | _,acc,[]=>acc
 | k,acc,x::xs=>jn (k+1) ((if 0 < k then acc++ [0] else acc)++x) xs
theorem zYC {N:Nat}:∀(l:List (List Int)) (k:Nat) (acc:List Int),(∀x∈l,x.length≤N)→(jn k acc l).length≤acc.length+l.length*(N+1)
 | [],_,acc,_=>by simp [jn]
 | x::xs,k,acc,h=>by
  have h1:=h x (by simp)
  have h2:=zYC xs (k+1) ((if 0 < k then acc++ [0] else acc)++x) (fun y hy=>h y (by simp [hy]))
  have h3:((if 0 < k then acc++ [0] else acc)++x).length≤acc.length+1+N:=by
   split <;> simp <;> omega
  simp only [jn,List.length_cons,Nat.add_mul]
  omega
theorem yHX {acc:List Int} {k:Nat} (h:acc.length+1≤4294967296):(cond (decide ((0:Int) < (k:Int))) ((app acc [0]).bind fun q=>some q) (some acc))=some (if 0 < k then acc++ [0] else acc):=by
 by_cases hk:0 < k
 have e:decide ((0:Int) < (k:Int))=true:=by simp;omega
 rw [e,cond_true,u5 (by simpa using h),if_pos hk];rfl
 have e:decide ((0:Int) < (k:Int))=false:=by simp;omega
 rw [e,cond_false,if_neg hk]
section
variable {l:List (List Int)} {N:Nat} (hN:∀x∈l,x.length≤N) (hl:l.length≤1000000)
include hN hl
theorem yF5:∀(m k:Nat) (acc:List Int),k+m=l.length→acc.length+m*(N+1)≤4294967296→zE (fun (x:Int×(List Int))=>zAJ l x.1 x.2) ((k:Int),acc)=some (jn k acc (l.drop k))
 | 0,k,acc,h,_=>by
  rw [List.drop_of_length_le (by omega)]
  refine zK ?_
  simp only [zAJ,kM (show l.length≤k by omega),cond_false,jn]
 | m+1,k,acc,h,ha=>by
  have hk:k < l.length:=by omega
  have hx:=hN _ (List.getElem_mem hk)
  rw [Nat.add_mul] at ha
  have h3:(if 0 < k then acc++ [0] else acc).length≤acc.length+1:=by split <;> simp
  rw [zO (x':=(((k+1:Nat):Int),(if 0 < k then acc++ [0] else acc)++l[k])) (by
   simp only [zAJ,yZ hk,cond_true,zZ hk,zA,yHX (k:=k) (show acc.length+1≤4294967296 by omega),u5 (show (if 0 < k then acc++ [0] else acc).length+l[k].length≤4294967296 by omega),zL (k:=k) (by omega)])]
  rw [yF5 m (k+1) _ (by omega) (by rw [List.length_append];omega),List.drop_eq_getElem_cons hk]
  rfl
end
def idn (t:List Int):List Int:=t.flatMap fun c=>if 0≤c∧c≤1114111 then [c+1] else []
theorem yD6 (c : Int) {acc : List Int} (h : acc.length + 1 ≤ 4294967296) : (cond (decide (0 ≤ c) && decide (c ≤ 1114111)) ((app acc [wi (c + 1)]).bind fun q => some q) (some acc)) = some (acc ++ if 0 ≤ c ∧ c ≤ 1114111 then [c + 1] else []) := by
  by_cases hc : 0 ≤ c ∧ c ≤ 1114111
  · have e : (decide (0 ≤ c) && decide (c ≤ 1114111)) = true := by simpa using hc
    rw [e, cond_true, u5 (by simpa using h), if_pos hc, xF (by omega) (by omega)]; rfl
  · have e : (decide (0 ≤ c) && decide (c ≤ 1114111)) = false := by
      cases h : (decide (0 ≤ c) && decide (c ≤ 1114111)) with
      | false => rfl
      | true => exact absurd (by simpa using h) hc
    rw [e, cond_false, if_neg hc, List.append_nil]
theorem zZ9 (c:Int):(if 0≤c∧c≤1114111 then [c+1] else ([]:List Int)).length≤1:=by split <;> simp
theorem yF6 {t:List Int} (hl:t.length≤1000000):∀(m k:Nat) (acc:List Int),k+m=t.length→acc.length+m≤4294967296→zE (fun (x:Int×(List Int))=>zAK t x.1 x.2) ((k:Int),acc)=some (acc++idn (t.drop k))
 | 0,k,acc,h,_=>by
  rw [List.drop_of_length_le (by omega)]
  refine zK ?_
  simp only [zAK,kM (show t.length≤k by omega),cond_false,idn,List.flatMap_nil,List.append_nil]
 | m+1,k,acc,h,ha=>by
  have hk:k < t.length:=by omega
  have h1:=zZ9 t[k]
  rw [zO (x':=(((k+1:Nat):Int),acc++if 0≤t[k]∧t[k]≤1114111 then [t[k]+1] else [])) (by
   simp only [zAK,yZ hk,cond_true,zZ hk,zA,zN,yD6 t[k] (show acc.length+1≤4294967296 by omega),zL (k:=k) (by omega)])]
  rw [yF6 hl m (k+1) _ (by omega) (by rw [List.length_append];omega),List.drop_eq_getElem_cons hk]
  simp only [idn,List.flatMap_cons,List.append_assoc]
def zYD (o:Options) (el:List Element) (t:List Int):List Int:=jn 0 [] (wts el o)++if o.Identical=true then [0]++idn t else []
theorem z0A (l:List Element) (o:Options):(wts l o).length≤4:=by unfold wts;simp [rows];omega
theorem yAI (o:Options):zCW (zCW o)=zCW o:=yF3 (z60 o)
section
variable {n:Norm} {c:Collation} (hn:NSm n) (hok:zBI n) (hs:Sm c) (hg:∀g∈c.Groups,g.Name.length≤MX) {text:List Int} (ht:text.length≤2000) (hf:(zER n false text).length≤2000)
include hn hok hs hg ht hf
theorem zYE (o:Options):uT n c o text=some (zYD (zCW o) (wk c (zBM n) (zB2 n false text)).1 (zB2 n false text)):=by
 unfold uT zYD
 have hd:(zB2 n false text).length≤2000:=by rw [zLL];exact hf
 have hel:=z6K (n:=n) hs (text:=text) hd
 rw [show ({Strength:=o.Strength,Variable:=o.Variable,Backward:=o.Backward,Identical:=o.Identical}:Options)=o from rfl,zZ7,zA,zWA hn hok hs hg ht hf,zA,show ({Strength:=(zCW o).Strength,Variable:=(zCW o).Variable,Backward:=(zCW o).Backward,Identical:=(zCW o).Identical}:Options)=zCW o from rfl,zPH (by omega),yAI,zA]
 generalize (wk c (zBM n) (zB2 n false text)).1=el at*
 have h4:=z0A el (zCW o)
 have hN:∀x∈wts el (zCW o),x.length≤1000000000:=fun x hx=>Nat.le_trans (z65 hx) hel
 have hk0:=yF5 hN (by omega) (wts el (zCW o)).length 0 [] (by omega) (by simp;omega)
 rw [show ((0:Nat):Int)=0 from rfl,List.drop_zero] at hk0
 have hjl:=zYC (wts el (zCW o)) 0 [] hN
 simp only [List.length_nil] at hjl
 rw [hk0,zA]
 cases hi:(zCW o).Identical with
 | false=>simp
 | true=>
  have h5:(jn 0 [] (wts el (zCW o))).length≤4000000004:=by omega
  rw [Bool.not_true,cond_false,u5 (by simp;omega),zA,zV9 hn hok ht hf,zA]
  have hk1:=yF6 (t:=zB2 n false text) (by omega) (zB2 n false text).length 0 (jn 0 [] (wts el (zCW o))++ [0]) (by omega) (by simp;omega)
  rw [show ((0:Nat):Int)=0 from rfl,List.drop_zero] at hk1
  rw [hk1,zA,if_pos rfl,List.append_assoc]
omit hn hok hg ht in
theorem z66 (o:Options):(zYD (zCW o) (wk c (zBM n) (zB2 n false text)).1 (zB2 n false text)).length≤4611686018427387904:=by
 have hd:(zB2 n false text).length≤2000:=by rw [zLL];exact hf
 have hel:=z6K (n:=n) hs (text:=text) hd
 unfold zYD
 generalize (wk c (zBM n) (zB2 n false text)).1=el at*
 have h4:=z0A el (zCW o)
 have hjl:=zYC (wts el (zCW o)) 0 [] (N:=1000000000) (fun x hx=>Nat.le_trans (z65 hx) hel)
 have hid:∀t:List Int,(idn t).length≤t.length:=by
  intro t
  induction t with
  | nil=>simp [idn]
  | cons x t ih=>
   have:=zZ9 x
   simp only [idn,List.flatMap_cons,List.length_append,List.length_cons] at ih ⊢
   omega
 have:=hid (zB2 n false text)
 simp only [List.length_nil] at hjl
 rw [List.length_append]
 split <;> simp <;> omega
end
def nZ:Norm:={Classes:=[],Decomp:=[],Excluded:={Ranges:=[]}}
def cZ:Collation:={Entries:=[{Codes:=[97],Elements:=[{Primary:=16,Secondary:=32,Tertiary:=2,Variable:=false}]},{Codes:=[98],Elements:=[{Primary:=17,Secondary:=32,Tertiary:=2,Variable:=false}]}],Groups:=[],Base:=100,Second:=32,Third:=2}
theorem yHY:NSm nZ:=⟨by decide,by decide,fun m hm=>(by cases hm),fun m hm=>(by cases hm),by decide⟩
theorem yF7:zBI nZ:=by unfold zBI okSpan z4F nZ;simp
theorem yHZ:Sm cZ:=⟨by decide,by decide,by decide,by decide⟩
theorem z67:usN nZ=nZ:=by unfold usN;split <;> rfl
theorem yF8:zBM nZ= []:=by rw [z6J,z67];rfl
theorem z0B:zER nZ false [97,98]= [97,98]:=by unfold zER;rw [z67];decide
theorem yD7:zB2 nZ false [97,98]= [97,98]:=by unfold zB2;rw [z0B,z67];decide
theorem yF9:(wk cZ [] [97,98]).1= [{Primary:=16,Secondary:=32,Tertiary:=2,Variable:=false},{Primary:=17,Secondary:=32,Tertiary:=2,Variable:=false}]:=by decide
end Go.M
namespace Go.M
open Go.AV
theorem yD8:zCP [258]=some [0,0,1,2]:=by
 unfold zCP
 have h0:zE (fun (x:Int×(List Int))=>zB7 [258] x.1 x.2) (0,[])=some [0,0,1,2]:=by
  rw [zO (x':=(1,[0,0,1,2])) (by rfl)]
  exact zK (by rfl)
 rw [h0];decide
theorem yAJ:zBZ=some true:=by
 unfold zBZ
 have hw:=zPH (l:=[({Primary:=16,Secondary:=32,Tertiary:=2,Variable:=false}:Element),({Primary:=17,Secondary:=32,Tertiary:=2,Variable:=false}:Element)]) (by simp) ({Strength:=2,Variable:=1,Backward:=false,Identical:=false}:Options)
 rw [hw,zA]
 have hk:=zYE yHY yF7 yHZ (fun g hg=>by cases hg) (text:=[97,98]) (by simp) (by rw [z0B];simp) ({Strength:=2,Variable:=1,Backward:=false,Identical:=false}:Options)
 rw [yF8,yD7,yF9] at hk
 have hv:zYD (zCW ({Strength:=2,Variable:=1,Backward:=false,Identical:=false}:Options)) [{Primary:=16,Secondary:=32,Tertiary:=2,Variable:=false},{Primary:=17,Secondary:=32,Tertiary:=2,Variable:=false}] [97,98]= [16,17,0,32,32]:=by decide
 rw [hv] at hk
 have s1:slc [({Primary:=16,Secondary:=32,Tertiary:=2,Variable:=false}:Element),({Primary:=17,Secondary:=32,Tertiary:=2,Variable:=false}:Element)] 0 1=some [{Primary:=16,Secondary:=32,Tertiary:=2,Variable:=false}]:=by decide
 have s2:slc [({Primary:=16,Secondary:=32,Tertiary:=2,Variable:=false}:Element),({Primary:=17,Secondary:=32,Tertiary:=2,Variable:=false}:Element)] 1 ([({Primary:=16,Secondary:=32,Tertiary:=2,Variable:=false}:Element),({Primary:=17,Secondary:=32,Tertiary:=2,Variable:=false}:Element)].length)=some [{Primary:=17,Secondary:=32,Tertiary:=2,Variable:=false}]:=by decide
 rw [s1,zA,s2,zA]
 have hk':uT ({Classes:=[],Decomp:=[],Excluded:=(({Ranges:=[]}):Set)}:Norm) ({Entries:=[({Codes:=[97],Elements:=[{Primary:=16,Secondary:=32,Tertiary:=2,Variable:=false}]}:Entry),({Codes:=[98],Elements:=[{Primary:=17,Secondary:=32,Tertiary:=2,Variable:=false}]}:Entry)],Groups:=[],Base:=100,Second:=32,Third:=2}:Collation) ({Strength:=2,Variable:=1,Backward:=false,Identical:=false}:Options) [97,98]=some [16,17,0,32,32]:=hk
 have c1:xY ({Strength:=0,Variable:=0,Backward:=false,Identical:=false}:Options)=some 1:=by rw [zYB];decide
 have c2:xY ({Strength:=1,Variable:=0,Backward:=false,Identical:=false}:Options)=some 8:=by rw [zYB];decide
 have w2:(wts [({Primary:=16,Secondary:=32,Tertiary:=2,Variable:=false}:Element),({Primary:=17,Secondary:=32,Tertiary:=2,Variable:=false}:Element)] (zCW ({Strength:=2,Variable:=1,Backward:=false,Identical:=false}:Options))).length=2:=by decide
 have e1:zBU [16,17,0,32,32] [16,17,0,32,32]=some true:=by rw [zVQ (by simp)];simp
 rw [hk',zA,zN,w2]
 simp only [e1,yD8,c1,c2,zN,vX,zA,Bool.and_self,decide_true,BEq.rfl,show decide (((2:Nat):Int)=2)=true from rfl]
end Go.M
namespace Go.M
open Go.AV
theorem s22 {n:Norm} (hl:n.Decomp.length≤40):∀(m k:Nat),k+m=n.Decomp.length→∃y,zE (fun (x:Int)=>wL n x) (k:Int)=some y∧(y= .inr false∨(y= .inl ()∧∀x∈n.Decomp.drop k,x.To.length≤70∧x.Tag.length≤40))
 | 0,k,h=>⟨.inl (),zK (by simp only [wL,kM (show n.Decomp.length≤k by omega),cond_false]),.inr ⟨rfl,by rw [List.drop_of_length_le (by omega)];intro x hx;cases hx⟩⟩
 | m+1,k,h=>by
  have hk:k < n.Decomp.length:=by omega
  by_cases h1:70 < n.Decomp[k].To.length
  have e:decide ((70:Int) < (n.Decomp[k].To.length:Int))=true:=by simp;omega
  exact ⟨.inr false,zK (by simp only [wL,yZ hk,cond_true,zZ hk,zA,zN,e,Bool.not_true,zBA,Bool.true_or]),.inl rfl⟩
  have e:decide ((70:Int) < (n.Decomp[k].To.length:Int))=false:=by simp;omega
  by_cases h2:40 < n.Decomp[k].Tag.length
  have e2:decide ((40:Int) < (n.Decomp[k].Tag.length:Int))=true:=by simp;omega
  exact ⟨.inr false,zK (by simp only [wL,yZ hk,cond_true,zZ hk,zA,zN,e,Bool.not_false,vX,e2,Bool.or_true]),.inl rfl⟩
  have e2:decide ((40:Int) < (n.Decomp[k].Tag.length:Int))=false:=by simp;omega
  obtain ⟨y,h3,h4⟩:=s22 hl m (k+1) (by omega)
  refine ⟨y,?_,?_⟩
  rw [zO (x':=((k+1:Nat):Int)) (by simp only [wL,yZ hk,cond_true,zZ hk,zA,zN,e,Bool.not_false,vX,e2,Bool.or_self,cond_false,zL (k:=k) (by omega)])]
  exact h3
  rcases h4 with h4 | ⟨h4,h5⟩
  exact .inl h4
  refine .inr ⟨h4,?_⟩
  rw [List.drop_eq_getElem_cons hk]
  intro x hx
  rcases List.mem_cons.1 hx with rfl | hx
  exact ⟨by omega,by omega⟩
  exact h5 x hx
theorem yAK (n:Norm):∃b,zEE n=some b∧(b=true→NSm n):=by
 unfold zEE
 by_cases h:40 < n.Classes.length∨40 < n.Decomp.length∨12 < n.Excluded.Ranges.length
 have e:((decide ((40:Int) < (n.Classes.length:Int)) ||decide ((40:Int) < (n.Decomp.length:Int))) ||decide ((12:Int) < (n.Excluded.Ranges.length:Int)))=true:=by simp;omega
 simp only [zN,e,cond_true]
 exact ⟨false,rfl,fun h=>by cases h⟩
 have e:((decide ((40:Int) < (n.Classes.length:Int)) ||decide ((40:Int) < (n.Decomp.length:Int))) ||decide ((12:Int) < (n.Excluded.Ranges.length:Int)))=false:=by simp;omega
 obtain ⟨y,h3,h4⟩:=s22 (n:=n) (by omega) n.Decomp.length 0 (by omega)
 rw [show ((0:Nat):Int)=0 from rfl] at h3
 simp only [zN,e,cond_false,h3,zA]
 rcases h4 with rfl | ⟨rfl,h5⟩
 exact ⟨false,rfl,fun h=>by cases h⟩
 rw [List.drop_zero] at h5
 exact ⟨true,rfl,fun _=>⟨by omega,by omega,fun m hm=>(h5 m hm).1,fun m hm=>(h5 m hm).2,by omega⟩⟩
theorem f42 {c:Collation} (hl:c.Entries.length≤12):∀(m k:Nat),k+m=c.Entries.length→∃y,zE (fun (x:Int)=>uV c x) (k:Int)=some y∧(y= .inr false∨(y= .inl ()∧∀x∈c.Entries.drop k,x.Codes.length≤16∧x.Elements.length≤16))
 | 0,k,h=>⟨.inl (),zK (by simp only [uV,kM (show c.Entries.length≤k by omega),cond_false]),.inr ⟨rfl,by rw [List.drop_of_length_le (by omega)];intro x hx;cases hx⟩⟩
 | m+1,k,h=>by
  have hk:k < c.Entries.length:=by omega
  by_cases h1:16 < c.Entries[k].Codes.length
  have e:decide ((16:Int) < (c.Entries[k].Codes.length:Int))=true:=by simp;omega
  exact ⟨.inr false,zK (by simp only [uV,yZ hk,cond_true,zZ hk,zA,zN,e,Bool.not_true,zBA,Bool.true_or]),.inl rfl⟩
  have e:decide ((16:Int) < (c.Entries[k].Codes.length:Int))=false:=by simp;omega
  by_cases h2:c.Entries[k].Elements.length≤16
  have e2:decide ((c.Entries[k].Elements.length:Int)≤16)=true:=by simp;omega
  obtain ⟨y,h3,h4⟩:=f42 hl m (k+1) (by omega)
  refine ⟨y,?_,?_⟩
  rw [zO (x':=((k+1:Nat):Int)) (by simp only [uV,w9,yZ hk,cond_true,zZ hk,zA,zN,e,Bool.not_false,vX,e2,Bool.not_true,Bool.or_self,cond_false,zL (k:=k) (by omega)])]
  exact h3
  rcases h4 with h4 | ⟨h4,h5⟩
  exact .inl h4
  refine .inr ⟨h4,?_⟩
  rw [List.drop_eq_getElem_cons hk]
  intro x hx
  rcases List.mem_cons.1 hx with rfl | hx
  exact ⟨by omega,h2⟩
  exact h5 x hx
  have e2:decide ((c.Entries[k].Elements.length:Int)≤16)=false:=by simp;omega
  exact ⟨.inr false,zK (by simp only [uV,w9,yZ hk,cond_true,zZ hk,zA,zN,e,Bool.not_false,vX,e2,Bool.or_true]),.inl rfl⟩
theorem yGA {c:Collation} (hl:c.Groups.length≤8):∀(m k:Nat),k+m=c.Groups.length→∃y,zE (fun (x:Int)=>zA0 c x) (k:Int)=some y
 | 0,k,h=>⟨.inl (),zK (by simp only [zA0,kM (show c.Groups.length≤k by omega),cond_false])⟩
 | m+1,k,h=>by
  have hk:k < c.Groups.length:=by omega
  by_cases h1:(40:Int) < (c.Groups[k].Name.length:Int)
  exact ⟨.inr false,zK (by simp only [zA0,yZ hk,cond_true,zZ hk,zA,h1,decide_true])⟩
  obtain ⟨y,h3⟩:=yGA hl m (k+1) (by omega)
  refine ⟨y,?_⟩
  rw [zO (x':=((k+1:Nat):Int)) (by simp only [zA0,yZ hk,cond_true,zZ hk,zA,h1,decide_false,cond_false,zL (k:=k) (by omega)])]
  exact h3
theorem yGB (c:Collation):∃b,zGT c=some b∧(b=true→Sm c):=by
 unfold zGT
 by_cases h:12 < c.Entries.length∨8 < c.Groups.length
 have e:(decide ((12:Int) < (c.Entries.length:Int)) ||decide ((8:Int) < (c.Groups.length:Int)))=true:=by simp;omega
 simp only [zN,e,cond_true]
 exact ⟨false,rfl,fun h=>by cases h⟩
 have e:(decide ((12:Int) < (c.Entries.length:Int)) ||decide ((8:Int) < (c.Groups.length:Int)))=false:=by simp;omega
 obtain ⟨y,h3,h4⟩:=f42 (c:=c) (by omega) c.Entries.length 0 (by omega)
 obtain ⟨z,h6⟩:=yGA (c:=c) (by omega) c.Groups.length 0 (by omega)
 rw [show ((0:Nat):Int)=0 from rfl] at h3 h6
 simp only [zN,e,cond_false,h3,zA]
 rcases h4 with rfl | ⟨rfl,h5⟩
 exact ⟨false,rfl,fun h=>by cases h⟩
 rw [List.drop_zero] at h5
 have hs:Sm c:=⟨by omega,by omega,fun x hx=>(h5 x hx).1,fun x hx=>by have:=(h5 x hx).2;omega⟩
 rw [Sum.elim_inl,h6,zA]
 cases z with
 | inl z=>exact ⟨true,rfl,fun _=>hs⟩
 | inr z=>exact ⟨z,rfl,fun _=>hs⟩
theorem yAL (d:Unicodetextlaw44_Data):∃b,zEF d=some b∧(b=true→NSm d.Norm∧Sm d.Collation):=by
 obtain ⟨b,hb,pb⟩:=yAK d.Norm
 obtain ⟨c,hc,pc⟩:=yGB d.Collation
 unfold zEF
 rw [hb,zA,zN,hc]
 cases b with
 | false=>exact ⟨false,rfl,fun h=>by cases h⟩
 | true=>exact ⟨c,by simp only [vX,zA,Bool.true_and],fun h=>⟨pb rfl,pc h⟩⟩
section
variable {d:Unicodetextlaw44_Data} (hn:NSm d.Norm) (hc:Sm d.Collation) (ok:zAC d) {t:List Int} (ht:t.length≤12)
include hn hc ok ht
omit hc in
theorem z68:(zER d.Norm false t).length≤900:=by have:=z2F hn ok.1 false t;omega
theorem yH0 (o:Options):uT d.Norm d.Collation o t=some (zYD (zCW o) (wk d.Collation (zBM d.Norm) (zB2 d.Norm false t)).1 (zB2 d.Norm false t)):=
 zYE hn ok.1 hc (zY5 ok.2.1) (by omega) (by have:=z68 hn ok ht;omega) o
omit ht in
theorem yH1 (ht:t.length≤12) (o:Options):(zYD (zCW o) (wk d.Collation (zBM d.Norm) (zB2 d.Norm false t)).1 (zB2 d.Norm false t)).length≤4611686018427387904:=
 z66 hc (by have:=z68 hn ok ht;omega) o
end
end Go.M
namespace Go.M
open Go.AV
theorem law44_SortkeyEquivalent_true (d:Unicodetextlaw44_Data) (t:List Int) (ok:zAC d) {q:Prop} (_:q):wY d t=some true:=by
 unfold wY
 obtain ⟨b,hb,hp⟩:=yAL d
 rw [hb,yAJ,zA,zN]
 cases b with
 | false=>rfl
 | true=>
 obtain ⟨hn,hc⟩:=hp rfl
 by_cases h:12 < t.length
 have e:decide ((12:Int) < (t.length:Int))=true:=by simp;omega
 simp only [e,Bool.or_true,cond_true,zA]
 have e:decide ((12:Int) < (t.length:Int))=false:=by simp;omega
 have ht:t.length≤12:=by omega
 have hf:=z68 hn ok ht
 have l1:=yH1 hn hc ok ht d.Options
 have hdl:(zB2 d.Norm false t).length≤900:=by rw [zLL];exact hf
 have k2:=zYE hn ok.1 hc (zY5 ok.2.1) (text:=zB2 d.Norm false t) (by omega) (by rw [zRU hn ok.1];omega) d.Options
 rw [z2G hn ok.1] at k2
 rw [e,Bool.or_false,Bool.not_true,cond_false,yD3 hn ok.1 (by omega) hf,zA]
 by_cases h2:(200:Int) < ((zB2 d.Norm false t).length:Int)
 simp only [h2,decide_true,cond_true,zA]
 simp only [h2,decide_false,cond_false,yH0 hn hc ok ht,k2,zA,zVQ l1,zN,decide_true,vX,Bool.and_self]
end Go.M


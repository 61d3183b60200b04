/- What the plain counterparts answer. Conditions: none. -/
import Derived.Test.YtjcbhabmkcdcnaaDoorPu1
set_option linter.unusedSimpArgs false
set_option linter.unusedVariables false
set_option linter.unnecessarySimpa false
namespace Go.M
open Go.AV
open Classical in
noncomputable def zA5 (n:Norm):List Span:=if VD0 n then n.Classes else []
theorem zZE:CV []:=⟨fun k h=>(by cases h),fun k h=>(by cases h),fun k h=>(by cases h)⟩
theorem zZF (n:Norm):CV (zA5 n):=by
 unfold zA5
 split
 rename_i h;exact h.cv
 exact zZE
theorem zNE {n:Norm} (hs:NSm n):(zA5 n).length≤40:=by
 unfold zA5
 split
 exact hs.cl
 simp
def zL5 (l:List Span) (t:Int):Int:=l.foldl (fun t s=>max t s.Value) t
def zFR (c:Collation) (l:List Span):Colltable_table:={zIL c with classes:=l,top:=zL5 l 0}
theorem zZG {l:List Span} (hl:l.length≤2000):∀(d k:Nat) (t:Int),l.length - k=d→k≤l.length→zE (fun (x:Int×Int)=>kR l x.1 x.2) ((k:Int),t)=some (zL5 (l.drop k) t):=by
 intro d
 induction d with
 | zero=>
  intro k t h1 h2
  rw [List.drop_of_length_le (by omega)]
  refine zN ?_
  simp only [kR,jW (show l.length≤k by omega),cond_false]
  rfl
 | succ d ih=>
  intro k t h1 h2
  have hk:k < l.length:=by omega
  rw [List.drop_eq_getElem_cons hk]
  rw [zT (x':=(((k+1:Nat):Int),max t l[k].Value)) (by simp only [kR,jQ hk,cond_true,z9 hk,zA,zW (k:=k) (by omega)])]
  exact ih (k+1) _ (by omega) (by omega)
theorem z2K {c:Collation} {n:Norm} (hs:NSm n) (hok:zDN n):xT (zIL c) n=some (zFR c (zA5 n)):=by
 obtain ⟨e,he,hp⟩:=zY8 hs hok
 unfold xT
 rw [he,zA]
 have h1:(cond (decide (e=0)) (some n.Classes) (some (zIL c).classes):Option (List Span))=some (zA5 n):=by
  unfold zA5
  by_cases h:e=0
  rw [if_pos (hp.1 h)];simp [h]
  rw [if_neg (fun hh=>h (hp.2 hh))];simp [h,zIL]
 rw [h1,zA]
 have h2:=zZG (l:=zA5 n) (by have:=zNE hs;omega) (zA5 n).length 0 0 (by omega) (by omega)
 rw [List.drop_zero] at h2
 have h2':zE (fun (x:Int×Int)=>kR (zA5 n) x.1 x.2) (0,(zIL c).top)=some (zL5 (zA5 n) 0):=h2
 rw [h2']
 rfl
theorem zFS {c:Collation} (hs:Sm c) {l:List Span} {codes:List Int}:kV (zFR c l) codes=some (zCH (kW c).Entries codes):=z11 hs (codes:=codes)
theorem zF4 {c:Collation} {l:List Span} (h:CV l) (hl:l.length≤2000) (x:Int):xC (zFR c l) x=some (clE l x):=by
 obtain ⟨j,hj,hr,hlo,hhi⟩:=zOD (n:=l.length) hl (body:=fun (q:Int×Int)=>vY (fun x0=>jU x0 (zFR c l) x) q.1 q.2) (fun k=>decide (x≤(nth l k).Hi))
  (fun k _=>by simp only [vY,jW (Nat.le_refl _),cond_false])
  (fun lo hi h1 h2=>by
   have hm:(lo+hi) / 2 < l.length:=by omega
   have hi1:kO (zFR c l).classes (((lo+hi) / 2:Nat):Int)=some (nth l ((lo+hi) / 2)):=kU hm
   simp only [vY,jQ h1,cond_true,zG2 (show lo+hi≤4611686018427387903 by omega),jU,hi1,zA,zW (k:=(lo+hi) / 2) (by omega)]
   by_cases hc:x≤(nth l ((lo+hi) / 2)).Hi <;> simp [hc])
  (fun i j hij hj hi=>by
   have:=h.hi hij hj
   simp only [decide_eq_true_eq] at hi ⊢
   omega)
 simp only [decide_eq_false_iff_not,decide_eq_true_eq] at hlo hhi
 unfold xC zDE
 have e0:(zFR c l).classes=l:=rfl
 rw [e0,hr,z3R h hj (fun k hk=>by have:=hlo k hk;omega) hhi]
 simp only [zA,z1]
 by_cases hn:j < l.length
 simp only [jQ hn,zDT,kU hn,zA,Bool.true_and,hn,true_and]
 by_cases hc2:(nth l j).Lo≤x <;> simp [hc2]
 simp only [jW (show l.length≤j by omega),zG0,zA,Bool.false_and,cond_false,hn,false_and,if_false]
theorem zSI:∀(l:List Span) (t:Int),t≤zL5 l t∧∀s∈l,s.Value≤zL5 l t
 | [],t=>⟨Int.le_refl _,fun s h=>by cases h⟩
 | x::l,t=>by
  have ih:=zSI l (max t x.Value)
  refine ⟨by show t≤zL5 l (max t x.Value);omega,fun s hs=>?_⟩
  show s.Value≤zL5 l (max t x.Value)
  rcases List.mem_cons.1 hs with rfl | hs
  omega
  exact ih.2 s hs
theorem z8L {l:List Span} (x:Int):clE l x≤zL5 l 0:=by
 unfold clE
 cases hf:l.find? (zQX x) with
 | none=>exact (zSI l 0).1
 | some s=>exact (zSI l 0).2 s (List.mem_of_find?_eq_some hf)
theorem z8M {l:List Span} (h:CV l) (x:Int):0≤clE l x:=by
 unfold clE
 cases hf:l.find? (zQX x) with
 | none=>exact Int.le_refl _
 | some s=>
  have:=List.mem_of_find?_eq_some hf
  obtain ⟨k,hk,rfl⟩:=List.getElem_of_mem this
  have:=h.sp k hk
  rw [zB7 hk] at this
  unfold spOk at this
  show 0≤(l[k]).Value
  omega
def zHX (p:Nat→Bool):Nat→Nat
 | 0=>0
 | k+1=>if p (k+1) then k+1 else zHX p k
theorem zK8 (p:Nat→Bool):∀k,zHX p k≤k
 | 0=>Nat.le_refl _
 | k+1=>by unfold zHX;split;omega;have:=zK8 p k;omega
theorem zNF {p : Nat → Bool} {m : Nat} : ∀ {k : Nat}, m ≤ k → (∀ j, m < j → j ≤ k → p j = false) → zHX p k = zHX p m
  | 0, h, _ => by have : m = 0 := by omega
                  rw [this]
  | k + 1, h, hp => by
    by_cases e : m = k + 1
    · rw [e]
    · unfold zHX
      rw [hp (k + 1) (by omega) (Nat.le_refl _)]
      simp only [Bool.false_eq_true, if_false]
      rw [zNF (m := m) (by omega) fun j h1 h2 => hp j h1 (by omega)]
      cases m <;> rfl
def pfx (es:List Entry) (text:List Int) (k:Nat):Bool:=(zCH es (text.take k)).2
def u7 (es:List Entry) (text:List Int):Nat:=zHX (pfx es text) text.length
def zB1 (fd:List Int→Bool) (cl:Int→Int):List Int→List Int→List Int→Int→List Int×List Int
 | [],p,s,_=>(p,s)
 | x::r,p,s,h=>if cl x=0 then (p,s++x::r) else if fd (p++ [x])&&decide (h < cl x) then zB1 fd cl r (p++ [x]) s h else zB1 fd cl r p (s++ [x]) (max h (cl x))
theorem zNG {fd:List Int→Bool} {cl:Int→Int}:∀(r p s:List Int) (h:Int),(∀x,cl x≤h)→zB1 fd cl r p s h=(p,s++r)
 | [],p,s,h,_=>by simp [zB1]
 | x::r,p,s,h,hc=>by
  have hx:=hc x
  unfold zB1
  split
  rfl
  have e:decide (h < cl x)=false:=by simp;omega
  rw [e,Bool.and_false,if_neg (by simp),zNG r p (s++ [x]) (max h (cl x)) (fun y=>by have:=hc y;omega)]
  simp
theorem zK9 {fd:List Int→Bool} {cl:Int→Int}:∀(r p s:List Int) (h:Int),p.length≤(zB1 fd cl r p s h).1.length∧(zB1 fd cl r p s h).1.length+(zB1 fd cl r p s h).2.length=p.length+s.length+r.length∧((zB1 fd cl r p s h).1.length=p.length→zB1 fd cl r p s h=(p,s++r))
 | [],p,s,h=>by simp [zB1]
 | x::r,p,s,h=>by
  unfold zB1
  split
  refine ⟨Nat.le_refl _,by simp;omega,fun _=>rfl⟩
  split
  have ih:=zK9 (fd:=fd) (cl:=cl) r (p++ [x]) s h
  simp only [List.length_append,List.length_cons,List.length_nil] at ih ⊢
  exact ⟨by omega,by omega,fun e=>by omega⟩
  have ih:=zK9 (fd:=fd) (cl:=cl) r p (s++ [x]) (max h (cl x))
  simp only [List.length_append,List.length_cons,List.length_nil] at ih ⊢
  refine ⟨ih.1,by omega,fun e=>?_⟩
  rw [ih.2.2 e];simp
section
variable {c:Collation} (hs:Sm c) {l:List Span} (hcv:CV l) (hl:l.length≤2000)
include hs
theorem mL0 {text:List Int} (ht:text.length≤2000):∀k,k≤text.length→zE (fun (x:Int)=>kD text (zFR c l) x) (k:Int)=some ((zHX (pfx (kW c).Entries text) k:Nat):Int)
 | 0,_=>by
  refine zN ?_
  have:decide ((0:Int) < ((0:Nat):Int))=false:=rfl
  simp only [kD,this,cond_false]
  rfl
 | k+1,hk=>by
  have hd:decide ((0:Int) < ((k+1:Nat):Int))=true:=by simp <;> omega
  have ih:=mL0 ht k (by omega)
  unfold zHX
  cases hp:pfx (kW c).Entries text (k+1) with
  | true=>
   rw [if_pos rfl]
   refine zN ?_
   unfold pfx at hp
   simp only [kD,hd,cond_true,zFO hk,zA,zFS hs,hp]
  | false=>
   rw [if_neg (by simp),←ih]
   refine zT ?_
   unfold pfx at hp
   simp only [kD,hd,cond_true,zFO hk,zA,zFS hs,hp,cond_false,zDJ (k:=k) (by omega)]
omit hs in
theorem zZH {text:List Int} {k:Nat} (hk:k≤text.length) (h:zHT (kW c).Entries 0 < (k:Int)):pfx (kW c).Entries text k=false:=by
 have h1:=zOA (kW c).Entries 0
 unfold pfx zCH
 have:(kW c).Entries.find? (fun x=>decide (x.Codes=text.take k))=none:=by
  rw [List.find?_eq_none]
  intro x hx
  simp only [decide_eq_true_eq]
  intro e
  have h2:=h1.2 x hx
  rw [e] at h2
  have:(text.take k).length=k:=by simp;omega
  omega
 rw [this]
theorem z54 {text:List Int} (ht:text.length≤2000):zE (fun (x:Int)=>kD text (zFR c l) x) (min (zFR c l).longest (text.length:Int))=some ((u7 (kW c).Entries text:Nat):Int):=by
 have h1:=zOA (kW c).Entries 0
 have e:(zFR c l).longest=zHT (kW c).Entries 0:=rfl
 rw [e]
 obtain ⟨m,hm⟩:∃m:Nat,min (zHT (kW c).Entries 0) (text.length:Int)=(m:Int):=⟨(min (zHT (kW c).Entries 0) (text.length:Int)).toNat,by omega⟩
 rw [hm,mL0 hs ht m (by omega)]
 unfold u7
 rw [zNF (p:=pfx (kW c).Entries text) (m:=m) (k:=text.length) (by omega) fun j h2 h3=>zZH h3 (by omega)]
omit hs in
theorem z55 {p s r:List Int} {x:Int}:uU (cpM (p++s++x::r) ((p.length+1:Nat):Int) ((p.length+s.length+1:Nat):Int) (p.length:Int) ((p.length+s.length:Nat):Int)) (p.length:Int) x=some ((p++ [x])++s++r):=by
 have e1:((p++s++x::r).drop p.length).take (p.length+s.length - p.length)=s:=by
  rw [List.append_assoc,List.drop_left]
  have:p.length+s.length - p.length=s.length:=by omega
  rw [this,List.take_left]
 have e2:min (p.length+s.length - p.length) (p.length+s.length+1 - (p.length+1))=s.length:=by omega
 unfold cpM
 simp only [Int.toNat_natCast]
 rw [e1,e2,List.take_of_length_le (Nat.le_refl _)]
 cases s with
 | nil=>
  have hx:(p++ []++x::r)=p++x::r:=by simp
  rw [hx]
  have e3:(p++x::r).take (p.length+1)=p++ [x]:=by
   rw [List.take_append,List.take_of_length_le (by omega)]
   simp
  have e4:(p++x::r).drop (p.length+1+([]:List Int).length)=r:=by
   rw [List.drop_append,List.drop_of_length_le (by simp)]
   simp
  rw [e3,e4]
  have:p++ [x]++ []++r=p++x::r:=by simp
  rw [this,uC rfl]
 | cons y s=>
  have hx:(p++(y::s)++x::r)=p++y::(s++x::r):=by simp
  rw [hx]
  have e3:(p++y::(s++x::r)).take (p.length+1)=p++ [y]:=by
   rw [List.take_append,List.take_of_length_le (by omega)]
   simp
  have e4:(p++y::(s++x::r)).drop (p.length+1+(y::s).length)=r:=by
   have:p++y::(s++x::r)=(p++y::(s++ [x]))++r:=by simp
   rw [this,List.drop_left' (by simp;omega)]
  rw [e3,e4]
  have:p++ [y]++(y::s)++r=p++y::((y::s)++r):=by simp
  rw [this,uC rfl]
  simp
include hcv hl
theorem mL1 : ∀ (r p s : List Int) (h : Int), p.length + s.length + r.length ≤ 2000 →
    zE (fun (x : Int × Int × Int × (List Int)) => yI (zFR c l) x.1 x.2.1 x.2.2.1 x.2.2.2) ((p.length : Int), h, ((p.length + s.length : Nat) : Int), p ++ s ++ r) =
      some ((((zB1 (fun q => (zCH (kW c).Entries q).2) (clE l) r p s h).1.length : Nat) : Int), (zB1 (fun q => (zCH (kW c).Entries q).2) (clE l) r p s h).1 ++ (zB1 (fun q => (zCH (kW c).Entries q).2) (clE l) r p s h).2)
  | [], p, s, h, _ => by
    refine zN ?_
    have : decide (((p.length + s.length : Nat) : Int) < ((p ++ s ++ []).length : Int)) = false := by simp
    simp only [yI, z1, this, Bool.false_and, cond_false]
    simp [zB1]
  | x :: r, p, s, h, hn => by
    simp only [List.length_cons] at hn
    have hd : decide (((p.length + s.length : Nat) : Int) < ((p ++ s ++ x :: r).length : Int)) = true := by simp <;> omega
    have hi : kO (p ++ s ++ x :: r) ((p.length + s.length : Nat) : Int) = some x := wF (by simp)
    have etop : (zFR c l).top = zL5 l 0 := rfl
    by_cases htop : h < zL5 l 0
    · have hd2 : decide (h < (zFR c l).top) = true := by rw [etop]; simpa using htop
      by_cases h0 : clE l x = 0
      · refine zN ?_
        simp only [yI, z1, hd, hd2, Bool.and_self, cond_true, hi, zA, zF4 hcv hl, h0, decide_true, Sum.elim_inl]
        unfold zB1
        rw [if_pos h0]
        simp
      · unfold zB1
        rw [if_neg h0]
        by_cases hk : clE l x ≤ h
        · have e : decide (h < clE l x) = false := by simp; omega
          rw [e, Bool.and_false, if_neg (by simp)]
          rw [zT (x' := ((p.length : Int), h, ((p.length + (s ++ [x]).length : Nat) : Int), p ++ (s ++ [x]) ++ r)) (by
            have e2 : p ++ (s ++ [x]) ++ r = p ++ s ++ x :: r := by simp
            have e3 : p.length + (s ++ [x]).length = p.length + s.length + 1 := by simp; omega
            rw [e2, e3]
            simp only [yI, z1, hd, hd2, Bool.and_self, cond_true, hi, zA, zF4 hcv hl, h0, hk, decide_true, decide_false, cond_false, Sum.elim_inr, zW (k := p.length + s.length) (by omega)])]
          have := mL1 r p (s ++ [x]) h (by simp; omega)
          rw [show max h (clE l x) = h by omega]
          exact this
        · have e : decide (h < clE l x) = true := by simp; omega
          rw [e, Bool.and_true]
          have s1 : slc (p ++ s ++ x :: r) 0 (p.length : Int) = some p := by
            rw [zFO (by simp)]
            simp
          have a1 : app p [x] = some (p ++ [x]) := uQ (by simp; omega)
          cases hf : (zCH (kW c).Entries (p ++ [x])).2 with
          | false =>
            rw [if_neg (by simp)]
            rw [zT (x' := ((p.length : Int), clE l x, ((p.length + (s ++ [x]).length : Nat) : Int), p ++ (s ++ [x]) ++ r)) (by
              have e2 : p ++ (s ++ [x]) ++ r = p ++ s ++ x :: r := by simp
              have e3 : p.length + (s ++ [x]).length = p.length + s.length + 1 := by simp; omega
              rw [e2, e3]
              simp only [yI, z1, hd, hd2, Bool.and_self, cond_true, hi, zA, zF4 hcv hl, h0, hk, decide_false, cond_false, s1, a1, zFS hs, hf, Bool.not_false, Sum.elim_inr, zW (k := p.length + s.length) (by omega)])]
            have := mL1 r p (s ++ [x]) (clE l x) (by simp; omega)
            rw [show max h (clE l x) = clE l x by omega]
            exact this
          | true =>
            rw [if_pos rfl]
            have sc1 : ∃ q, slc (p ++ s ++ x :: r) ((p.length + 1 : Nat) : Int) ((p.length + s.length + 1 : Nat) : Int) = some q := ⟨_, zN8 (by omega) (by simp; omega)⟩
            have sc2 : ∃ q, slc (p ++ s ++ x :: r) (p.length : Int) ((p.length + s.length : Nat) : Int) = some q := ⟨_, zN8 (by omega) (by simp)⟩
            obtain ⟨q1, hq1⟩ := sc1
            obtain ⟨q2, hq2⟩ := sc2
            have hcp := z55 (p := p) (s := s) (r := r) (x := x)
            obtain ⟨_, _, hlt⟩ := zFY hcp
            have hix : ∃ q, kO (cpM (p ++ s ++ x :: r) ((p.length + 1 : Nat) : Int) ((p.length + s.length + 1 : Nat) : Int) (p.length : Int) ((p.length + s.length : Nat) : Int)) (p.length : Int) = some q := ⟨_, z9 (by simpa using hlt)⟩
            obtain ⟨q3, hq3⟩ := hix
            rw [zT (x' := (((p ++ [x]).length : Int), h, (((p ++ [x]).length + s.length : Nat) : Int), (p ++ [x]) ++ s ++ r)) (by
              have e3 : (p ++ [x]).length + s.length = p.length + s.length + 1 := by simp; omega
              have e4 : (p ++ [x]).length = p.length + 1 := by simp
              rw [e3, e4]
              simp only [yI, z1, hd, hd2, Bool.and_self, cond_true, hi, zA, zF4 hcv hl, h0, hk, decide_false, cond_false, s1, a1, zFS hs, hf, Bool.not_true, zW (k := p.length + s.length) (by omega), zW (k := p.length) (by omega), hq1, hq2, hq3, hcp, Sum.elim_inr])]
            exact mL1 r (p ++ [x]) s h (by simp; omega)
    · have hd2 : decide (h < (zFR c l).top) = false := by rw [etop]; simpa using htop
      have hm := zNG (fd := fun q => (zCH (kW c).Entries q).2) (cl := clE l) (x :: r) p s h (fun y => by have := z8L (l := l) y; omega)
      rw [hm]
      refine zN ?_
      simp only [yI, z1, hd, hd2, Bool.and_false, cond_false, List.append_assoc]
noncomputable def stE (c:Collation) (l:List Span) (text:List Int):Int×List Int×List Element:=if u7 (kW c).Entries text=0 then (1,text.drop 1,zSD (kW c) (nth text 0)) else
 ((((zB1 (fun q=>(zCH (kW c).Entries q).2) (clE l) (text.drop (u7 (kW c).Entries text)) (text.take (u7 (kW c).Entries text)) [] 0).1.length:Nat):Int),(zB1 (fun q=>(zCH (kW c).Entries q).2) (clE l) (text.drop (u7 (kW c).Entries text)) (text.take (u7 (kW c).Entries text)) [] 0).2,(zCH (kW c).Entries (zB1 (fun q=>(zCH (kW c).Entries q).2) (clE l) (text.drop (u7 (kW c).Entries text)) (text.take (u7 (kW c).Entries text)) [] 0).1).1)
theorem zZI {text:List Int} (ht:text.length≤2000) (h0:text≠[]):∃seq,xD (zFR c l) text=some ((stE c l text).1,(stE c l text).2.2,decide (u7 (kW c).Entries text≠0),seq)∧slc seq (stE c l text).1 (seq.length:Int)=some (stE c l text).2.1:=by
 unfold xD
 rw [z54 hs ht,zA]
 have hpos:0 < text.length:=List.length_pos_iff.2 h0
 by_cases hz:u7 (kW c).Entries text=0
 have e1:decide (((u7 (kW c).Entries text:Nat):Int)=0)=true:=by simp [hz]
 have i0:kO text (0:Int)=some (nth text 0):=kU (k:=0) hpos
 have hst:stE c l text=(1,text.drop 1,zSD (kW c) (nth text 0)):=by unfold stE;rw [if_pos hz]
 have him:jA (zFR c l) (nth text 0)=some (zSD (kW c) (nth text 0)):=zQP c (nth text 0)
 rw [e1,cond_true,i0,zA,him,zA,hst]
 refine ⟨text,?_,?_⟩
 simp [hz]
 exact zQI (l:=text) (a:=1) (by omega)
 have e1:decide (((u7 (kW c).Entries text:Nat):Int)=0)=false:=by simp;omega
 rw [e1,cond_false]
 have hle:u7 (kW c).Entries text≤text.length:=zK8 _ _
 have h1:=mL1 hs hcv hl (text.drop (u7 (kW c).Entries text)) (text.take (u7 (kW c).Entries text)) [] 0 (by simp;omega)
 have e2:(text.take (u7 (kW c).Entries text)).length=u7 (kW c).Entries text:=by simp;omega
 have e3:text.take (u7 (kW c).Entries text)++ []++text.drop (u7 (kW c).Entries text)=text:=by simp
 rw [e3,e2] at h1
 simp only [List.length_nil,Nat.add_zero] at h1
 rw [h1,zA]
 have hst:stE c l text=((((zB1 (fun q=>(zCH (kW c).Entries q).2) (clE l) (text.drop (u7 (kW c).Entries text)) (text.take (u7 (kW c).Entries text)) [] 0).1.length:Nat):Int),(zB1 (fun q=>(zCH (kW c).Entries q).2) (clE l) (text.drop (u7 (kW c).Entries text)) (text.take (u7 (kW c).Entries text)) [] 0).2,(zCH (kW c).Entries (zB1 (fun q=>(zCH (kW c).Entries q).2) (clE l) (text.drop (u7 (kW c).Entries text)) (text.take (u7 (kW c).Entries text)) [] 0).1).1):=by unfold stE;rw [if_neg hz]
 rw [hst]
 generalize zB1 (fun q=>(zCH (kW c).Entries q).2) (clE l) (text.drop (u7 (kW c).Entries text)) (text.take (u7 (kW c).Entries text)) [] 0=q
 have s1:slc (q.1++q.2) 0 ((q.1.length:Nat):Int)=some q.1:=by rw [zFO (by simp)];simp
 simp only [s1,zA,zFS hs]
 refine ⟨q.1++q.2,?_,?_⟩
 simp [hz]
 rw [zQI (by simp)];simp
end
end Go.M
namespace Go.M
open Go.AV
def n0:Norm:={Classes:=[{Lo:=769,Hi:=769,Value:=230},{Lo:=803,Hi:=803,Value:=220}],Decomp:=[],Excluded:={Ranges:=[]}}
def c0:Collation:={Entries:=[{Codes:=[97],Elements:=[{Primary:=7,Secondary:=1,Tertiary:=1,Variable:=false}]},{Codes:=[97,769],Elements:=[{Primary:=8,Secondary:=1,Tertiary:=1,Variable:=false}]}],Groups:=[],Base:=100,Second:=1,Third:=1}
end Go.M
namespace Go.M
open Go.AV
theorem zZJ {n:Norm} (h:DS n.Decomp) (hl:n.Decomp.length≤2000) (c:Int) (b:Bool):xS n c b=some (if syl c=true then (hdE c,true) else ((fnB n.Decomp b c).getD [],(fnB n.Decomp b c).isSome)):=by
 unfold xS
 rw [zF1,zA]
 by_cases hs:syl c=true
 have e:decide (4≤hkE c)=true:=by simpa using (zEO c).1 hs
 simp only [e,cond_true,zTH hs,zA,hs,if_true]
 have e:decide (4≤hkE c)=false:=by simp only [decide_eq_false_iff_not];exact fun hh=>hs ((zEO c).2 hh)
 simp only [Bool.not_eq_true] at hs
 simp only [e,cond_false,hs,Bool.false_eq_true,if_false]
 obtain ⟨i,hb,hp⟩:=zTK h hl c
 rw [hb]
 simp only [zA,z1]
 unfold fnB
 cases hf:n.Decomp.find? (isF c) with
 | none=>simp [zG0]
 | some m=>
  obtain ⟨h1,h2⟩:=hp m hf
  simp only [Option.isSome_some,Bool.not_true,Bool.not_false,zDT,kU h1,h2,zA,Bool.false_or]
  cases b <;> cases hm:(m.Tag== []) <;> simp [hm]
section
variable {n:Norm} {b:Bool} (hd:DS n.Decomp) (hl:n.Decomp.length≤2000) (hD:∀c,DD n.Decomp n.Decomp.length c) (hw:∀c,(fu n.Decomp b c).length≤64)
def XOk (l:List Mapping) (b:Bool) (m:List (Int×List Int)):Prop:= ∀k v,mget m k=some v→v=fu l b k
def zTX (l:List Mapping) (f:Nat) (c:Int):Prop:=(∃k,DD l k c∧k+2≤f)∨(l.find? (isF c)=none∧syl c=false∧1≤f)
include hw in
theorem z56 {f : Nat} (ih : ∀ c m, XOk n.Decomp b m → zTX n.Decomp f c → ∃ m', yK f c m n b = some (fu n.Decomp b c, m') ∧ XOk n.Decomp b m') (L : List Int) (hL : L.length ≤ 2000) (hn : ∀ e ∈ L, zTX n.Decomp f e) :
    ∀ (d i : Nat) (acc : List Int) (m : List (Int × List Int)), L.length - i = d → i ≤ L.length → acc.length ≤ 64 * i → XOk n.Decomp b m →
      ∃ m', zE (fun (x : Int × (List Int) × (List (Int × (List Int)))) => kG (L, true) (yK f) n b x.1 x.2.1 x.2.2) ((i : Int), acc, m) = some (acc ++ (L.drop i).flatMap (fu n.Decomp b), m') ∧ XOk n.Decomp b m' := by
  intro d
  induction d with
  | zero =>
    intro i acc m h1 h2 h3 h4
    refine ⟨m, ?_, h4⟩
    refine zN ?_
    rw [List.drop_of_length_le (show L.length ≤ i by omega)]
    simp only [kG, jW (show L.length ≤ i by omega), cond_false, List.flatMap_nil, List.append_nil]
  | succ d ihd =>
    intro i acc m h1 h2 h3 h4
    have hi : i < L.length := by omega
    obtain ⟨m1, hr, r1⟩ := ih L[i] m h4 (hn _ (List.getElem_mem hi))
    have hw1 := hw L[i]
    have ha : app acc (fu n.Decomp b L[i]) = some (acc ++ fu n.Decomp b L[i]) := uQ (by omega)
    rw [zT (x' := (((i + 1 : Nat) : Int), acc ++ fu n.Decomp b L[i], m1)) (by
      simp only [kG, jQ hi, cond_true, z9 hi, zA, hr, ha, zW (k := i) (by omega)])]
    obtain ⟨m2, hq, q1⟩ := ihd (i + 1) (acc ++ fu n.Decomp b L[i]) m1 (by omega) (by omega) (by rw [List.length_append]; omega) r1
    refine ⟨m2, ?_, q1⟩
    rw [hq, List.drop_eq_getElem_cons hi, List.flatMap_cons, List.append_assoc]
include hd hl hD hw in
theorem z8N:∀(f:Nat) (c:Int) (m:List (Int×List Int)),XOk n.Decomp b m→zTX n.Decomp f c→∃m',yK f c m n b=some (fu n.Decomp b c,m')∧XOk n.Decomp b m':=by
 intro f
 induction f with
 | zero=>intro c m _ hn;exfalso;rcases hn with ⟨k,_,h⟩ | ⟨_,_,h⟩ <;> omega
 | succ f ih=>
  intro c m hm hn
  show ∃m',jX (yK f) c m n b=some _∧_
  unfold jX
  cases hh:uK m c with
  | true=>
   obtain ⟨v,hv⟩:=Option.isSome_iff_exists.1 hh
   have hg:wY m c []=v:=by unfold wY;rw [hv];rfl
   rw [cond_true,hg,hm c v hv]
   exact ⟨m,rfl,hm⟩
  | false=>
   rw [cond_false,zZJ hd hl,zA]
   have fin:∀(L:List Int),L.length≤2000→(∀e∈L,zTX n.Decomp f e)→L.flatMap (fu n.Decomp b)=fu n.Decomp b c→∃m',(cond (!((L,true):List Int×Bool).2) (some ([c],m)) ((zE (fun (x:Int×(List Int)×(List (Int×(List Int))))=>kG (L,true) (yK f) n b x.1 x.2.1 x.2.2) (0,[],m)).bind fun (y1:(List Int)×(List (Int×(List Int))))=>some (y1.1,w7 y1.2 c y1.1)))=some (fu n.Decomp b c,m')∧XOk n.Decomp b m':=by
    intro L hL hne hfl
    obtain ⟨m1,hq,q1⟩:=z56 hw ih L hL hne L.length 0 [] m (by omega) (by omega) (by simp) hm
    rw [List.drop_zero,List.nil_append,hfl] at hq
    have hq':zE (fun (x:Int×(List Int)×(List (Int×(List Int))))=>kG (L,true) (yK f) n b x.1 x.2.1 x.2.2) (0,[],m)=some (fu n.Decomp b c,m1):=hq
    simp only [Bool.not_true,cond_false]
    rw [hq']
    refine ⟨w7 m1 c (fu n.Decomp b c),rfl,fun k v hk=>?_⟩
    rw [jV] at hk
    split at hk
    rename_i hx;cases hk;rw [hx]
    exact q1 k v hk
   cases hs:syl c with
   | true=>
    simp only [if_true]
    have hnone:=zQ1 hd hs
    have hpt:∀e∈hdE c,n.Decomp.find? (isF e)=none∧syl e=false:=by
     intro e he
     obtain ⟨p1,p2⟩:=zK4 hs he
     refine ⟨?_,p1⟩
     cases hf2:n.Decomp.find? (isF e) with
     | none=>rfl
     | some m=>obtain ⟨q1,rfl⟩:=zCJ hf2;exact absurd (hd.hk m q1) p2
    refine fin (hdE c) (by have:=zIN c;omega) (fun e he=>?_) ?_
    obtain ⟨p1,p2⟩:=hpt e he
    refine .inr ⟨p1,p2,?_⟩
    rcases hn with ⟨k,_,h⟩ | ⟨_,h,_⟩
    omega
    rw [hs] at h;cases h
    have h1:fu n.Decomp b c=hdE c:=by rw [zTR hD,zC4 hnone]
    rw [h1]
    have:∀L:List Int,(∀e∈L,n.Decomp.find? (isF e)=none∧syl e=false)→L.flatMap (fu n.Decomp b)=L:=by
     intro L
     induction L with
     | nil=>intro _;rfl
     | cons x L ihL=>
      intro h
      obtain ⟨p1,p2⟩:=h x (by simp)
      have hx:fu n.Decomp b x= [x]:=by rw [zTR hD,zC4 p1];show hdE x= [x];unfold hdE;rw [if_neg (by simp [p2])]
      rw [List.flatMap_cons,hx,ihL fun e he=>h e (by simp [he])]
      rfl
    exact this _ hpt
   | false=>
    simp only [Bool.false_eq_true,if_false]
    cases hf:fnB n.Decomp b c with
    | none=>
     simp only [Option.getD_none,Option.isSome_none,Bool.not_false,cond_true]
     refine ⟨m,?_,hm⟩
     rw [zTR hD,hf]
     have:hdE c= [c]:=by unfold hdE;rw [if_neg (by simp [hs])]
     simp only [this]
    | some to=>
     simp only [Option.getD_some,Option.isSome_some]
     obtain ⟨mm,h1,rfl,_⟩:=zFQ hf
     obtain ⟨h2,_⟩:=zCJ h1
     refine fin mm.To (hd.len mm h2) (fun e he=>?_) (by rw [zTR hD c,hf])
     rcases hn with ⟨k,hk,h⟩ | ⟨h,_,_⟩
     cases k with
     | zero=>have:n.Decomp.find? (isF c)=none:=hk;rw [this] at h1;cases h1
     | succ k=>exact .inl ⟨k,hk mm h1 e he,by omega⟩
     rw [h] at h1;cases h1
end
noncomputable def usN (n:Norm):Norm:=open Classical in if VD0 n then n else {Classes:=[],Decomp:=[],Excluded:={Ranges:=[]}}
structure GN (n:Norm):Prop where
 ds:DS n.Decomp
 cv:CV n.Classes
 H:∀m∈n.Decomp,WW n.Decomp m.From
 w:∀m∈n.Decomp,wt n.Decomp true m.From≤64
 cl:n.Classes.length≤40
 de:n.Decomp.length≤40
 ok:∀x∈n.Classes,okSpan x
theorem zZK {n:Norm} (hs:NSm n) (hok:zDN n):GN (usN n):=by
 unfold usN
 split
 rename_i h
 obtain ⟨h1,h2⟩:=(z50 h.ds (by have:=hs.de;omega)).1 h.ms
 exact ⟨h.ds,h.cv,h1,h2,hs.cl,hs.de,hok.1.2⟩
 exact ⟨⟨fun k hk=>(by cases hk),fun m hm=>(by cases hm),fun m hm=>(by cases hm)⟩,zZE,fun m hm=>(by cases hm),fun m hm=>(by cases hm),by simp,by simp,fun x hx=>by cases hx⟩
theorem GN.dd {n:Norm} (h:GN n):∀c,DD n.Decomp n.Decomp.length c:=zOF h.ds h.H
theorem GN.len {n:Norm} (h:GN n) (b:Bool) (c:Int):(fu n.Decomp b c).length≤64:=z5Z h.ds (z51 h.ds h.H h.w) b c
theorem GN.ex {n:Norm} (h:GN n) {b:Bool} (c:Int) (m:List (Int×List Int)) (hm:XOk n.Decomp b m):∃m',yK 100 c m n b=some (fu n.Decomp b c,m')∧XOk n.Decomp b m':=
 z8N h.ds (by have:=h.de;omega) h.dd (h.len b) 100 c m hm (.inl ⟨_,h.dd c,by have:=h.de;omega⟩)
theorem z2L {n:Norm} (hs:NSm n) (hok:zDN n):wO n=some (usN n):=by
 obtain ⟨e,he,hv⟩:=zY8 hs hok
 unfold wO usN
 rw [he,zA]
 by_cases hz:e=0
 rw [if_pos (hv.1 hz)];simp [hz]
 rw [if_neg (fun h=>hz (hv.2 h))];simp [hz]
theorem zVW {n : Norm} (h : GN n) {b : Bool} {text : List Int} (ht : text.length ≤ 2000) : ∀ (d i : Nat) (acc : List Int) (m : List (Int × List Int)), text.length - i = d → i ≤ text.length → acc.length ≤ 64 * i → XOk n.Decomp b m →
    zE (fun (x : Int × (List Int) × (List (Int × (List Int)))) => jC text n b x.1 x.2.1 x.2.2) ((i : Int), acc, m) = some (acc ++ (text.drop i).flatMap (fu n.Decomp b)) := by
  intro d
  induction d with
  | zero =>
    intro i acc m h1 h2 h3 h4
    refine zN ?_
    rw [List.drop_of_length_le (show text.length ≤ i by omega)]
    simp only [jC, jW (show text.length ≤ i by omega), cond_false, List.flatMap_nil, List.append_nil]
  | succ d ih =>
    intro i acc m h1 h2 h3 h4
    have hi : i < text.length := by omega
    obtain ⟨m1, hr, r1⟩ := h.ex (b := b) text[i] m h4
    have hw1 := h.len b text[i]
    have ha : app acc (fu n.Decomp b text[i]) = some (acc ++ fu n.Decomp b text[i]) := uQ (by omega)
    rw [zT (x' := (((i + 1 : Nat) : Int), acc ++ fu n.Decomp b text[i], m1)) (by
      simp only [jC, jQ hi, cond_true, z9 hi, zA, hr, ha, zW (k := i) (by omega)])]
    rw [ih (i + 1) (acc ++ fu n.Decomp b text[i]) m1 (by omega) (by omega) (by rw [List.length_append]; omega) r1, List.drop_eq_getElem_cons hi, List.flatMap_cons, List.append_assoc]
noncomputable def zGO (n:Norm) (b:Bool) (text:List Int):List Int:=text.flatMap (fu (usN n).Decomp b)
theorem z2M {n:Norm} (hs:NSm n) (hok:zDN n) {text:List Int} (ht:text.length≤2000) (b:Bool):jY n text b=vN (usN n).Classes (zGO n b text):=by
 have h:=zZK hs hok
 unfold jY uG
 have hu:wO {Classes:=n.Classes,Decomp:=n.Decomp,Excluded:={Ranges:=n.Excluded.Ranges}}=some (usN n):=z2L hs hok
 have hlp:=zVW h (b:=b) ht text.length 0 [] [] (by omega) (by omega) (by simp) (fun k v h=>by cases h)
 rw [List.drop_zero,List.nil_append] at hlp
 have hlp':zE (fun (x:Int×(List Int)×(List (Int×(List Int))))=>jC text (usN n) b x.1 x.2.1 x.2.2) (0,[],[])=some (zGO n b text):=hlp
 rw [hu,zA,zA,hlp',zA]
 cases vN (usN n).Classes (zGO n b text) <;> rfl
end Go.M
namespace Go.M
open Go.AV
section
variable (key:Int→Int)
def ltK (a b:Int):Bool:=decide (key a < key b)
def ltC (a b:Int):Bool:=decide (0 < key a)&&decide (key a < key b)
def srt (l:List Int):List Int:=wW (ltK key) l []
def csE (l:List Int):List Int:=wW (ltC key) l []
def rsE:List Int→List Int→List Int
 | [],run=>srt key run
 | x::t,run=>if key x=0 then srt key run++x::rsE t [] else rsE t (run++ [x])
end
section
variable {key:Int→Int}
theorem zZL (l:List Int) (x:Int):srt key (l++ [x])=wX (ltK key) (srt key l).reverse x []:=by
 unfold srt wW
 rw [List.foldl_append]
 rfl
theorem zTZ (l:List Int):Flt key l (srt key l):=by
 have:=zF3 (key:=key) l []
 exact this
theorem zT0 (l:List Int):(srt key l).length=l.length:=(zTZ l).len.symm
theorem zT1 {x:Int} (hx:0 < key x):∀(r q s:List Int),(∀y,q.head? =some y→key y=0)→wX (ltC key) (r++q) x s=q.reverse++wX (ltK key) r x s
 | [],q,s,hq=>by
  cases q with
  | nil=>rfl
  | cons y q=>
   have:ltC key x y=false:=by unfold ltC;rw [hq y rfl];simp;omega
   show wX (ltC key) (y::q) x s=_
   simp only [wX,this,Bool.false_eq_true,if_false]
 | y::r,q,s,hq=>by
  have e:ltC key x y=ltK key x y:=by unfold ltC ltK;simp [hx]
  show wX (ltC key) (y::(r++q)) x s=q.reverse++wX (ltK key) (y::r) x s
  simp only [wX,e]
  cases ltK key x y with
  | true=>simp only [if_true];exact zT1 hx r q (y::s) hq
  | false=>simp
theorem zZM (hnn : ∀ x, 0 ≤ key x) : ∀ (t run p : List Int), (∀ y, p.reverse.head? = some y → key y = 0) → wW (ltC key) t (p ++ srt key run) = p ++ rsE key t run
  | [], run, p, _ => rfl
  | x :: t, run, p, hp => by
    show wW (ltC key) t (wX (ltC key) (p ++ srt key run).reverse x []) = p ++ rsE key (x :: t) run
    by_cases h0 : key x = 0
    · have e : ∀ r : List Int, wX (ltC key) r x [] = r.reverse ++ [x] := by
        intro r
        cases r with
        | nil => rfl
        | cons y r =>
          have : ltC key x y = false := by unfold ltC; rw [h0]; simp
          simp [wX, this]
      have ih := zZM hnn t [] (p ++ srt key run ++ [x]) (fun y hy => by simp at hy; rw [← hy]; exact h0)
      have e2 : srt key [] = [] := rfl
      rw [e2, List.append_nil] at ih
      rw [e, List.reverse_reverse, ih]
      simp [rsE, h0]
    · have hx : 0 < key x := by have := hnn x; omega
      rw [List.reverse_append, zT1 hx _ _ _ hp, List.reverse_reverse, ← zZL, zZM hnn t (run ++ [x]) p hp]
      simp [rsE, h0]
theorem z58 (hnn:∀x,0≤key x) (t:List Int):csE key t=rsE key t []:=by
 have:=zZM hnn t [] [] (fun y hy=>by cases hy)
 exact this
theorem zZN (t:List Int):(csE key t).Perm t:=by
 have:=zEM (ltC key) t []
 rw [List.nil_append] at this
 exact this
theorem z2N (t:List Int):(csE key t).length=t.length:=(zZN t).length_eq
theorem zQ7 {f:List Int→Option (List Int)} {P run T r:List Int} (hpos:0 < run.length) (hf:f run=some r):zES f (P++run++T) (P.length:Int) ((P.length+run.length:Nat):Int)=some (P++r++T):=by
 unfold zES
 have a1:((P.length:Int)).toNat=P.length:=by simp
 have a2:(((P.length+run.length:Nat):Int)).toNat=P.length+run.length:=by omega
 rw [a1,a2,if_pos ⟨by omega,by omega,by rw [List.length_append,List.length_append];omega⟩]
 have e1:((P++run++T).drop P.length).take (P.length+run.length - P.length)=run:=by
  rw [List.append_assoc,List.drop_left,show P.length+run.length - P.length=run.length by omega,List.take_left]
 have d1:(P++run++T).take P.length=P:=by rw [List.append_assoc,List.take_left]
 have d2:(P++run++T).drop (P.length+run.length)=T:=by rw [←List.length_append,List.drop_left]
 rw [e1,d1,d2,hf]
 rfl
theorem zT2 {f : List Int → Option (List Int)} {st : Int → Bool} (hst : ∀ x, st x = decide (key x = 0)) (hf : ∀ l, l.length ≤ 2000 → f l = some (srt key l)) : ∀ (t run P : List Int) (s : Int), P.length + run.length + t.length ≤ 2000 → (run = [] ∧ s = -1 ∨ run ≠ [] ∧ s = (P.length : Int)) →
    wS f Range.Lo Range.Hi (P ++ run ++ t) (jD st t ((P.length + run.length : Nat) : Int) s) = some (P ++ rsE key t run)
  | [], run, P, s, hl, hs => by
    rcases hs with ⟨rfl, rfl⟩ | ⟨hne, rfl⟩
    · simp only [jD, show ¬ (0 : Int) ≤ -1 by decide, if_false]
      show some (P ++ [] ++ []) = some (P ++ [])
      simp
    · have h0 : (0 : Int) ≤ (P.length : Int) := by omega
      simp only [jD, h0, if_true]
      have hpos : 0 < run.length := List.length_pos_iff.2 hne
      show (some (P ++ run ++ [])).bind (fun l => zES f l (P.length : Int) ((P.length + run.length : Nat) : Int)) = _
      rw [zA, zQ7 hpos (hf run (by simp at hl; omega))]
      simp [rsE]
  | x :: t, run, P, s, hl, hs => by
    have hl' : P.length + run.length + t.length + 1 ≤ 2000 := by simp only [List.length_cons] at hl; omega
    by_cases h0 : key x = 0
    · have hsx : st x = true := by rw [hst]; simp [h0]
      rcases hs with ⟨rfl, rfl⟩ | ⟨hne, rfl⟩
      · have e : jD st (x :: t) ((P.length + ([] : List Int).length : Nat) : Int) (-1) = jD st t (((P ++ [x]).length + ([] : List Int).length : Nat) : Int) (-1) := by
          simp only [jD, hsx]
          simp
        have ih := zT2 hst hf t [] (P ++ [x]) (-1) (by simp only [List.length_append, List.length_singleton, List.length_nil]; simp at hl'; omega) (.inl ⟨rfl, rfl⟩)
        rw [e, show P ++ [] ++ x :: t = P ++ [x] ++ [] ++ t by simp, ih]
        have e2 : srt key [] = [] := rfl
        simp [rsE, h0, e2]
      · have h00 : (0 : Int) ≤ (P.length : Int) := by omega
        have hpos : 0 < run.length := List.length_pos_iff.2 hne
        have e : jD st (x :: t) ((P.length + run.length : Nat) : Int) (P.length : Int) = { Lo := (P.length : Int), Hi := ((P.length + run.length : Nat) : Int) } :: jD st t (((P ++ srt key run ++ [x]).length + ([] : List Int).length : Nat) : Int) (-1) := by
          have e3 : (((P ++ srt key run ++ [x]).length + ([] : List Int).length : Nat) : Int) = ((P.length + run.length : Nat) : Int) + 1 := by simp [zT0]; omega
          rw [e3]
          simp only [jD, hsx, Bool.not_true, Bool.false_and, Bool.false_eq_true, if_false, Bool.true_and, h00, decide_true, if_true]
        have ih := zT2 hst hf t [] (P ++ srt key run ++ [x]) (-1) (by simp [zT0]; omega) (.inl ⟨rfl, rfl⟩)
        have e4 : zES f (P ++ run ++ x :: t) (P.length : Int) ((P.length + run.length : Nat) : Int) = some (P ++ srt key run ++ [x] ++ [] ++ t) := by
          rw [zQ7 hpos (hf run (by omega))]
          simp
        have e5 : wS f Range.Lo Range.Hi (P ++ run ++ x :: t) ({ Lo := (P.length : Int), Hi := ((P.length + run.length : Nat) : Int) } :: jD st t (((P ++ srt key run ++ [x]).length + ([] : List Int).length : Nat) : Int) (-1)) = wS f Range.Lo Range.Hi (P ++ srt key run ++ [x] ++ [] ++ t) (jD st t (((P ++ srt key run ++ [x]).length + ([] : List Int).length : Nat) : Int) (-1)) := by
          unfold wS
          rw [List.foldl_cons, zA, e4]
        rw [e, e5, ih]
        simp [rsE, h0]
    · have hsx : st x = false := by rw [hst]; simp [h0]
      have e : jD st (x :: t) ((P.length + run.length : Nat) : Int) s = jD st t ((P.length + (run ++ [x]).length : Nat) : Int) (P.length : Int) := by
        have e3 : ((P.length + (run ++ [x]).length : Nat) : Int) = ((P.length + run.length : Nat) : Int) + 1 := by simp; omega
        rw [e3]
        rcases hs with ⟨rfl, rfl⟩ | ⟨hne, rfl⟩
        · simp [jD, hsx]
        · have : ¬ ((P.length : Int) < 0) := by omega
          simp only [jD, hsx, Bool.not_false, Bool.true_and, this, decide_false, Bool.false_eq_true, if_false, Bool.false_and]
      have ih := zT2 hst hf t (run ++ [x]) P (P.length : Int) (by simp; omega) (.inr ⟨by simp, rfl⟩)
      rw [e, show P ++ run ++ x :: t = P ++ (run ++ [x]) ++ t by simp, ih]
      simp [rsE, h0]
end
theorem zZO {l:List Span} (h:CV l) (hl:l.length≤2000) (x y:Int):xA x y l=some (sg (clE l x) (clE l y)):=by
 unfold xA
 simp only [zC3 h hl,zA,zVQ]
 unfold sg
 rfl
theorem z59 {l:List Span} (h:CV l) (hl:l.length≤2000) (hok:∀x∈l,okSpan x) {text:List Int} (ht:text.length≤2000):vN l text=some (csE (clE l) text):=by
 have hnn:∀x,0≤clE l x:=z8M h
 unfold vN vI
 have hst:∀x,(yY l x==some 0)=decide (clE l x=0):=fun x=>by rw [zC3 h hl];by_cases hx:clE l x=0 <;> simp [hx]
 rw [zNC hl hok h,zA,z94 ht,zA,zQZ h hl ht hst rfl,zA]
 have:=zT2 (key:=clE l) (f:=fun p=>yS p (fun x0 x1=>xA x0 x1 l)) (st:=fun c=>yY l c==some 0) hst (fun p hp=>by
  obtain ⟨r,r1,r2,r3⟩:=zVV (key:=clE l) (f:=fun x0 x1=>xA x0 x1 l) (fun x y=>zZO h hl x y) p hp
  rw [r1]
  have:=zQ4 (key:=clE l) r2 (zIQ (key:=clE l) p) (r3.symm.trans (zTZ p))
  rw [this]
  rfl) text [] [] (-1) (by simpa using ht) (.inl ⟨rfl,rfl⟩)
 rw [z58 hnn]
 exact this
noncomputable def zG3 (n:Norm) (b:Bool) (text:List Int):List Int:=csE (clE (usN n).Classes) (zGO n b text)
theorem zQ8 (n:Norm) (b:Bool) (text:List Int):(zG3 n b text).length=(zGO n b text).length:=z2N _
theorem zQ9 {n:Norm} (hs:NSm n) (hok:zDN n) {text:List Int} {b:Bool} (ht:text.length≤2000) (hf:(zGO n b text).length≤2000):jY n text b=some (zG3 n b text):=by
 have h:=zZK hs hok
 rw [z2M hs hok ht,z59 h.cv (by have:=h.cl;omega) h.ok hf]
 rfl
end Go.M
namespace Go.M
open Go.AV
noncomputable def wkE (c:Collation) (l:List Span):Nat→List Int→List Element×Bool
 | 0,_=>([],true)
 | k+1,text=>if text= [] then ([],true) else ((stE c l text).2.2++(wkE c l k (stE c l text).2.1).1,decide (u7 (kW c).Entries text≠0)&&(wkE c l k (stE c l text).2.1).2)
theorem z6A {c:Collation} {l:List Span} {text:List Int} (h0:text≠[]):1≤(stE c l text).1∧(stE c l text).1+((stE c l text).2.1.length:Int)=(text.length:Int):=by
 have hpos:0 < text.length:=List.length_pos_iff.2 h0
 unfold stE
 split
 refine ⟨by simp,?_⟩
 show (1:Int)+((text.drop 1).length:Int)=_
 rw [List.length_drop];omega
 rename_i hz
 have hle:u7 (kW c).Entries text≤text.length:=zK8 _ _
 have hinv:=zK9 (fd:=fun q=>(zCH (kW c).Entries q).2) (cl:=clE l) (text.drop (u7 (kW c).Entries text)) (text.take (u7 (kW c).Entries text)) [] 0
 generalize zB1 (fun q=>(zCH (kW c).Entries q).2) (clE l) (text.drop (u7 (kW c).Entries text)) (text.take (u7 (kW c).Entries text)) [] 0=q at*
 obtain ⟨i1,i2,_⟩:=hinv
 rw [List.length_take,Nat.min_eq_left hle] at i1 i2
 rw [List.length_drop] at i2
 simp only [List.length_nil] at i2
 constructor
 show (1:Int)≤(q.1.length:Int);omega
 show (q.1.length:Int)+(q.2.length:Int)=_;omega
theorem zT3 {c:Collation} {l:List Span} {text:List Int} (h0:text≠[]):(stE c l text).2.1.length < text.length:=by
 have:=z6A (c:=c) (l:=l) h0
 omega
theorem z30 {c:Collation} (hs:Sm c) {l:List Span} (text:List Int):(stE c l text).2.2.length≤2000:=by
 unfold stE
 split
 exact z13 _ _
 exact z12 (zYU hs) _
theorem zT4 {c:Collation} {l:List Span}:∀(k j:Nat) (text:List Int),text.length≤k→text.length≤j→wkE c l k text=wkE c l j text
 | 0,j,text,h,_=>by
  have:text= []:=List.eq_nil_of_length_eq_zero (by omega)
  subst this
  cases j with
  | zero=>rfl
  | succ j=>simp [wkE]
 | k+1,j,text,h,hj=>by
  by_cases h0:text= []
  subst h0
  cases j <;> simp [wkE]
  have hpos:0 < text.length:=List.length_pos_iff.2 h0
  cases j with
  | zero=>omega
  | succ j=>
   have hlt:=zT3 (c:=c) (l:=l) h0
   simp only [wkE,h0,if_false]
   rw [zT4 k j _ (by omega) (by omega)]
noncomputable def wk (c:Collation) (l:List Span) (text:List Int):List Element×Bool:=wkE c l text.length text
theorem zOI (c:Collation) (l:List Span):wk c l []=([],true):=rfl
theorem zT5 {c:Collation} {l:List Span} {text:List Int} (h0:text≠[]):wk c l text=((stE c l text).2.2++(wk c l (stE c l text).2.1).1,decide (u7 (kW c).Entries text≠0)&&(wk c l (stE c l text).2.1).2):=by
 have hlt:=zT3 (c:=c) (l:=l) h0
 unfold wk
 obtain ⟨k,hk⟩:∃k,text.length=k+1:=⟨text.length - 1,by have:=List.length_pos_iff.2 h0;omega⟩
 rw [hk]
 simp only [wkE,h0,if_false]
 rw [zT4 k (stE c l text).2.1.length _ (by omega) (by omega)]
theorem z6B {c:Collation} (hs:Sm c) {l:List Span}:∀(k:Nat) (text:List Int),text.length≤k→(wk c l text).1.length≤2000*text.length:=by
 intro k
 induction k with
 | zero=>
  intro text h
  have:text= []:=List.eq_nil_of_length_eq_zero (by omega)
  subst this;rw [zOI];simp
 | succ k ih=>
  intro text h
  by_cases h0:text= []
  subst h0;rw [zOI];simp
  have hlt:=zT3 (c:=c) (l:=l) h0
  have h1:=ih _ (show (stE c l text).2.1.length≤k by omega)
  have h2:=z30 hs (l:=l) text
  rw [zT5 h0]
  show ((stE c l text).2.2++(wk c l (stE c l text).2.1).1).length≤_
  rw [List.length_append]
  omega
section
variable {c:Collation} (hs:Sm c) {l:List Span} (hcv:CV l) (hl:l.length≤2000)
include hs hcv hl
theorem z2P:∀(k:Nat) (text:List Int) (acc:List Element),text.length≤k→text.length≤2000→acc.length+2000*text.length≤100000000→zE (fun (x:(List Element)×(List Int))=>jB (zFR c l) x.1 x.2) (acc,text)=some (acc++(wk c l text).1):=by
 intro k
 induction k with
 | zero=>
  intro text acc h _ _
  have:text= []:=List.eq_nil_of_length_eq_zero (by omega)
  subst this
  refine zN ?_
  simp [jB,zOI]
 | succ k ih=>
  intro text acc h ht ha
  by_cases h0:text= []
  subst h0
  refine zN ?_
  simp [jB,zOI]
  have hpos:0 < text.length:=List.length_pos_iff.2 h0
  have hlt:=zT3 (c:=c) (l:=l) h0
  have h2:=z30 hs (l:=l) text
  obtain ⟨seq,m1,m2⟩:=zZI hs hcv hl ht h0
  have e0:decide ((0:Int) < (text.length:Int))=true:=by simp;omega
  have ea:app acc (stE c l text).2.2=some (acc++(stE c l text).2.2):=uQ (by omega)
  rw [zT (x':=(acc++(stE c l text).2.2,(stE c l text).2.1)) (by simp only [jB,e0,cond_true,m1,zA,ea,m2])]
  rw [ih _ _ (by omega) (by omega) (by rw [List.length_append];omega),zT5 h0,List.append_assoc]
end
theorem zZP (n:Norm):zA5 n=(usN n).Classes:=by
 unfold zA5 usN
 split <;> rfl
section
variable {n:Norm} {c:Collation} (hn:NSm n) (hok:zDN n) (hs:Sm c) (hg:∀g∈c.Groups,g.Name.length≤MX) {text:List Int} (ht:text.length≤2000) (hf:(zGO n false text).length≤2000)
include hn hok hs hg ht hf
theorem zRA:wV n c text=some (wk c (zA5 n) (zG3 n false text)).1:=by
 unfold wV
 have hl:(zA5 n).length≤2000:=by have:=zNE hn;omega
 have hd:(zG3 n false text).length≤2000:=by rw [zQ8];exact hf
 rw [z10 hs hg,zA,z2K hn hok,zA,zQ9 hn hok ht hf,zA,z2P hs (zZF n) hl _ _ [] (Nat.le_refl _) hd (by simp;omega)]
 rfl
end
theorem z6C {n:Norm} {c:Collation} (hs:Sm c) {text:List Int} (hd:(zG3 n false text).length≤2000):(wk c (zA5 n) (zG3 n false text)).1.length≤1000000000:=by
 have:=z6B hs (l:=zA5 n) _ (zG3 n false text) (Nat.le_refl _)
 omega
end Go.M
namespace Go.M
open Go.AV
end Go.M
namespace Go.M
open Go.AV
end Go.M
namespace Go.M
open Go.AV
end Go.M
namespace Go.M
open Go.AV
end Go.M
namespace Go.M
open Go.AV
def pM (c:Int) (b:Bool) (k:Nat) (m:Mapping):Option Nat:=if m.From=c∧(b ||(m.Tag== []))=true then some k else none
def fi (l:List Mapping) (c:Int) (b:Bool):Option Nat:=chk (pM c b) l 0
end Go.M
namespace Go.M
open Go.AV
section
variable {l:List Mapping} (hd:DS l) (hD:∀c,DD l l.length c) {b:Bool}
def lenOf (l:List Mapping) (b:Bool) (out:List Int) (e:Int):Int:=match fi l e b with
 | some m=>nth out m
 | none=>((hdE e).length:Int)
def updL (l:List Mapping) (b:Bool) (out:List Int) (i:Nat):Int:=if (b ||((nth l i).Tag== []))=true then min (max (((nth l i).To.map (lenOf l b out)).sum) 1) 65 else 1
include hd hD
end
end Go.M
namespace Go.M
open Go.AV
end Go.M
namespace Go.M
open Go.AV
end Go.M
namespace Go.M
open Go.AV
end Go.M
namespace Go.M
open Go.AV
end Go.M
namespace Go.M
open Go.AV
end Go.M
namespace Go.M
open Go.AV
end Go.M
namespace Go.M
open Go.AV
end Go.M
namespace Go.M
open Go.AV
def ckO (o:Options):Int:=if o.Strength < 1∨4 < o.Strength then 1 else if o.Variable < 1∨3 < o.Variable then 8 else 0
def zBB (o:Options):Options:=if ckO o=0 then o else {Strength:=3,Variable:=1,Backward:=false,Identical:=false}
theorem zSK (o:Options):xN o=some (ckO o):=by
 unfold xN ckO
 rw [z1]
 by_cases h1:o.Strength < 1∨4 < o.Strength
 have:(decide (o.Strength < 1) ||decide (4 < o.Strength))=true:=by simpa using h1
 rw [this,if_pos h1];rfl
 have:(decide (o.Strength < 1) ||decide (4 < o.Strength))=false:=by simpa using h1
 rw [this,if_neg h1,cond_false]
 by_cases v1:o.Variable=1
 simp [v1]
 by_cases v2:o.Variable=2
 simp [v2]
 by_cases v3:o.Variable=3
 simp [v3]
 rw [if_pos (by omega)]
 simp [v1,v2,v3]
theorem zT6 (o:Options):xW o=some (zBB o):=by
 unfold xW zBB
 rw [zSK,zA]
 by_cases h:ckO o=0 <;> simp [h]
theorem zZR (o:Options):ckO (zBB o)=0:=by
 unfold zBB
 split
 assumption
 rfl
theorem z31 {o:Options} (h:ckO o=0):zBB o=o:=by unfold zBB;rw [if_pos h]
theorem z8P {o:Options} (h:ckO o=0):1≤o.Strength∧o.Strength≤4∧1≤o.Variable∧o.Variable≤3:=by
 unfold ckO at h
 split at h
 cases h
 split at h
 cases h
 omega
def nz (x:Int):List Int:=if x=0 then [] else [x]
def col:Nat→A4Int→Int
 | 0,w=>w.x0
 | 1,w=>w.x1
 | 2,w=>w.x2
 | _,w=>w.x3
def row (k:Nat) (L:List A4Int):List Int:=L.flatMap fun w=>nz (col k w)
def zHZ (f:Bool) (e:Element):Bool:=if e.Variable=true∨e.Primary≠0 then e.Variable else f
def zLA (e:Element):Prop:=e.Primary=0∧e.Secondary=0∧e.Tertiary=0
instance (e:Element):Decidable (zLA e):=by unfold zLA;infer_instance
def tr1 (v:Int) (f:Bool) (e:Element):A4Int:=
 if v=1 then {x0:=e.Primary,x1:=e.Secondary,x2:=e.Tertiary,x3:=if zLA e then 0 else 65535}
 else if zHZ f e=true then {x0:=0,x1:=0,x2:=0,x3:=if v=3∧e.Variable=true then e.Primary else 0}
 else {x0:=e.Primary,x1:=e.Secondary,x2:=e.Tertiary,x3:=if v=3∧¬zLA e then 65535 else 0}
def trL (v:Int):Bool→List Element→List A4Int
 | _,[]=>[]
 | f,e::l=>tr1 v f e::trL v (zHZ f e) l
theorem zOJ (v:Int):∀(l:List Element) (f:Bool),(trL v f l).length=l.length
 | [],_=>rfl
 | e::l,f=>by simp [trL,zOJ v l]
theorem zZS {v:Int} (hv:1≤v∧v≤3) (e:Element) (f:Bool):wC e v f=some (tr1 v f e,if v=1 then f else zHZ f e):=by
 obtain ⟨p,s,t,va⟩:=e
 unfold wC tr1 zHZ zLA
 rcases (by omega:v=1∨v=2∨v=3) with rfl | rfl | rfl <;> cases va <;> cases f <;> by_cases hp:p=0 <;> by_cases hs:s=0 <;> by_cases ht:t=0 <;> simp [hp,hs,ht]
theorem z8Q (f g:Bool) (e:Element):tr1 1 f e=tr1 1 g e:=rfl
theorem z32:∀(l:List Element) (f g:Bool),trL 1 f l=trL 1 g l
 | [],_,_=>rfl
 | e::l,f,g=>by
  show tr1 1 f e::trL 1 _ l=tr1 1 g e::trL 1 _ l
  rw [z8Q f g,z32 l (zHZ f e) (zHZ g e)]
theorem zZT (x:Int):(nz x).length≤1:=by unfold nz;split <;> simp
theorem zOK {r:List Int} {x:Int} (h:r.length+1≤4294967296):(cond (!decide (x=0)) ((app r [x]).bind fun q=>some q) (some r))=some (r++nz x):=by
 unfold nz
 by_cases hx:x=0
 simp [hx]
 simp only [hx,decide_false,Bool.not_false,cond_true,if_false]
 rw [uQ (by simpa using h)];rfl
theorem wl1 (t : A4Int × Bool) {r0 r1 r2 r3 : List Int} {n : Nat} (hn : n + 1 ≤ 4294967296) (h0 : r0.length ≤ n) (h1 : r1.length ≤ n) (h2 : r2.length ≤ n) (h3 : r3.length ≤ n) :
    zE (fun (x : Int × (List Int) × (List Int) × (List Int) × (List Int)) => kY t x.1 x.2.1 x.2.2.1 x.2.2.2.1 x.2.2.2.2) (0, r0, r1, r2, r3) = some (r0 ++ nz t.1.x0, r1 ++ nz t.1.x1, r2 ++ nz t.1.x2, r3 ++ nz t.1.x3) := by
  have i0 : kO [t.1.x0, t.1.x1, t.1.x2, t.1.x3] (0 : Int) = some t.1.x0 := rfl
  have i1 : kO [t.1.x0, t.1.x1, t.1.x2, t.1.x3] (1 : Int) = some t.1.x1 := rfl
  have i2 : kO [t.1.x0, t.1.x1, t.1.x2, t.1.x3] (2 : Int) = some t.1.x2 := rfl
  have i3 : kO [t.1.x0, t.1.x1, t.1.x2, t.1.x3] (3 : Int) = some t.1.x3 := rfl
  rw [zT (x' := (1, r0 ++ nz t.1.x0, r1, r2, r3)) (by
    simp only [kY, i0, zA, zOK (x := t.1.x0) (show r0.length + 1 ≤ 4294967296 by omega)]; rfl)]
  rw [zT (x' := (2, r0 ++ nz t.1.x0, r1 ++ nz t.1.x1, r2, r3)) (by
    simp only [kY, i1, zA, zOK (x := t.1.x1) (show r1.length + 1 ≤ 4294967296 by omega)]; rfl)]
  rw [zT (x' := (3, r0 ++ nz t.1.x0, r1 ++ nz t.1.x1, r2 ++ nz t.1.x2, r3)) (by
    simp only [kY, i2, zA, zOK (x := t.1.x2) (show r2.length + 1 ≤ 4294967296 by omega)]; rfl)]
  rw [zT (x' := (4, r0 ++ nz t.1.x0, r1 ++ nz t.1.x1, r2 ++ nz t.1.x2, r3 ++ nz t.1.x3)) (by
    simp only [kY, i3, zA, zOK (x := t.1.x3) (show r3.length + 1 ≤ 4294967296 by omega)]; rfl)]
  exact zN (by simp only [kY]; rfl)
theorem wl0 {l : List Element} {o : Options} (hv : 1 ≤ o.Variable ∧ o.Variable ≤ 3) (hl : l.length ≤ 4000000000) : ∀ (m k : Nat) (f : Bool) (r0 r1 r2 r3 : List Int), k + m = l.length → r0.length ≤ k → r1.length ≤ k → r2.length ≤ k → r3.length ≤ k →
    zE (fun (x : Int × Bool × (List Int) × (List Int) × (List Int) × (List Int)) => xL l o x.1 x.2.1 x.2.2.1 x.2.2.2.1 x.2.2.2.2.1 x.2.2.2.2.2) ((k : Int), f, r0, r1, r2, r3) =
      some (r0 ++ row 0 (trL o.Variable f (l.drop k)), r1 ++ row 1 (trL o.Variable f (l.drop k)), r2 ++ row 2 (trL o.Variable f (l.drop k)), r3 ++ row 3 (trL o.Variable f (l.drop k)))
  | 0, k, f, r0, r1, r2, r3, h, _, _, _, _ => by
    rw [List.drop_of_length_le (by omega)]
    refine zN ?_
    simp only [xL, jW (show l.length ≤ k by omega), cond_false, trL, row, List.flatMap_nil, List.append_nil]
  | m + 1, k, f, r0, r1, r2, r3, h, h0, h1, h2, h3 => by
    have hk : k < l.length := by omega
    have q : ∀ {r : List Int} (x : Int), r.length ≤ k → (r ++ nz x).length ≤ k + 1 := fun x hr => by rw [List.length_append]; have := zZT x; omega
    rw [zT (x' := (((k + 1 : Nat) : Int), (if o.Variable = 1 then f else zHZ f l[k]), r0 ++ nz (tr1 o.Variable f l[k]).x0, r1 ++ nz (tr1 o.Variable f l[k]).x1, r2 ++ nz (tr1 o.Variable f l[k]).x2, r3 ++ nz (tr1 o.Variable f l[k]).x3)) (by
      simp only [xL, jQ hk, cond_true, z9 hk, zA, zZS hv, wl1 _ (n := k) (by omega) h0 h1 h2 h3, zW (k := k) (by omega)])]
    rw [wl0 hv hl m (k + 1) _ _ _ _ _ (by omega) (q _ h0) (q _ h1) (q _ h2) (q _ h3), List.drop_eq_getElem_cons hk]
    have e : trL o.Variable (if o.Variable = 1 then f else zHZ f l[k]) (l.drop (k + 1)) = trL o.Variable (zHZ f l[k]) (l.drop (k + 1)) := by
      by_cases h1 : o.Variable = 1
      · rw [h1]; exact z32 _ _ _
      · rw [if_neg h1]
    rw [e]
    simp [trL, row, col]
theorem zZU : ∀ (n : Nat) (a m b : List Int), m.length = n → a.length = b.length → a.length + m.length + b.length ≤ 9000000000000000000 →
    zE (fun (x : Int × Int × (List Int)) => kX x.1 x.2.1 x.2.2) ((a.length : Int), ((a.length + m.length : Nat) : Int) - 1, a ++ m ++ b) = some (a ++ m.reverse ++ b) := by
  intro n
  induction n using Nat.strongRecOn with
  | ind n ih =>
    intro a m b hn hab hb
    by_cases h2 : m.length ≤ 1
    · have e : decide ((a.length : Int) < ((a.length + m.length : Nat) : Int) - 1) = false := by simp; omega
      refine zN ?_
      have hr : m.reverse = m := by
        match m, h2 with
        | [], _ => rfl
        | [x], _ => rfl
      simp only [kX, e, cond_false, hr]
    · obtain ⟨x, m1, rfl⟩ := List.exists_cons_of_ne_nil (l := m) (fun e => by rw [e] at h2; simp at h2)
      have hm1 : m1 ≠ [] := fun e => by rw [e] at h2; simp at h2
      obtain ⟨m2, y, rfl⟩ : ∃ m2 y, m1 = m2 ++ [y] := ⟨m1.dropLast, m1.getLast hm1, (List.dropLast_concat_getLast hm1).symm⟩
      simp only [List.length_cons, List.length_append, List.length_nil] at hn hb h2
      have e : decide ((a.length : Int) < ((a.length + (x :: (m2 ++ [y])).length : Nat) : Int) - 1) = true := by simp; omega
      have ej : ((a.length + (x :: (m2 ++ [y])).length : Nat) : Int) - 1 = ((a.length + 1 + m2.length : Nat) : Int) := by simp; omega
      have g1 : kO (a ++ (x :: (m2 ++ [y])) ++ b) (((a.length + 1 + m2.length : Nat) : Int)) = some y := by
        rw [z9 (by simp; omega)]; congr 1
        rw [List.getElem_append_left (by simp; omega), List.getElem_append_right (by omega)]
        simp only [show a.length + 1 + m2.length - a.length = m2.length + 1 by omega, List.getElem_cons_succ]
        rw [List.getElem_append_right (by omega)]; simp
      have g2 : kO (a ++ (x :: (m2 ++ [y])) ++ b) ((a.length : Nat) : Int) = some x := by
        rw [z9 (by simp)]; congr 1
        rw [List.getElem_append_left (by simp), List.getElem_append_right (by omega)]; simp
      have s1 : uU (a ++ (x :: (m2 ++ [y])) ++ b) ((a.length : Nat) : Int) y = some (a ++ (y :: (m2 ++ [y])) ++ b) := by
        rw [zK0 (by simp)]; congr 1; simp
      have g3 : kO (a ++ (y :: (m2 ++ [y])) ++ b) (((a.length + 1 + m2.length : Nat) : Int)) = some y := by
        rw [z9 (by simp; omega)]; congr 1
        rw [List.getElem_append_left (by simp; omega), List.getElem_append_right (by omega)]
        simp only [show a.length + 1 + m2.length - a.length = m2.length + 1 by omega, List.getElem_cons_succ]
        rw [List.getElem_append_right (by omega)]; simp
      have s2 : uU (a ++ (y :: (m2 ++ [y])) ++ b) (((a.length + 1 + m2.length : Nat) : Int)) x = some ((a ++ [y]) ++ m2 ++ (x :: b)) := by
        rw [zK0 (by simp; omega)]; congr 1
        have e1 : a ++ (y :: (m2 ++ [y])) ++ b = (a ++ y :: m2) ++ y :: b := by simp
        rw [e1, show a.length + 1 + m2.length = (a ++ y :: m2).length by simp; omega, List.set_append_right _ _ (Nat.le_refl _)]
        simp
      rw [zT (x' := (((a ++ [y]).length : Int), (((a ++ [y]).length + m2.length : Nat) : Int) - 1, (a ++ [y]) ++ m2 ++ (x :: b))) (by
        simp only [kX, e, cond_true]
        rw [ej]
        simp only [g1, g2, s1, g3, s2, zA]
        rw [zW (k := a.length) (by omega), uT (by omega) (by omega)]
        simp only [List.length_append, List.length_cons, List.length_nil])]
      rw [ih m2.length (by omega) (a ++ [y]) m2 (x :: b) rfl (by simp; omega) (by simp; omega)]
      simp
theorem z6E {l:List Int} (h:l.length≤4294967296):jJ l=some l.reverse:=by
 unfold jJ
 have:=zZU l.length [] l [] rfl rfl (by simp;omega)
 simp only [List.nil_append,List.append_nil,List.length_nil,Nat.zero_add] at this
 rw [uT (by omega) (by omega)]
 rw [show ((0:Nat):Int)=0 from rfl] at this
 rw [this];rfl
def zZV (b:Bool) (l:List Int):List Int:=if b=true then l.reverse else l
def rows (b:Bool) (L:List A4Int):List (List Int):=[row 0 L,zZV b (row 1 L),row 2 L,row 3 L]
def wts (l:List Element) (o:Options):List (List Int):=(rows o.Backward (trL o.Variable false l)).take o.Strength.toNat
theorem zOL (k:Nat):∀(L:List A4Int),(row k L).length≤L.length
 | []=>by simp [row]
 | w::L=>by
  have:=zOL k L
  have h2:=zZT (col k w)
  simp only [row,List.flatMap_cons,List.length_append,List.length_cons] at this ⊢
  omega
theorem zC5 {l:List Element} (hl:l.length≤4000000000) (o:Options):kQ l o=some (wts l (zBB o)):=by
 have hb:=z8P (zZR o)
 unfold kQ wts
 have e0:({Strength:=o.Strength,Variable:=o.Variable,Backward:=o.Backward,Identical:=o.Identical}:Options)=o:=rfl
 rw [e0,zT6,zA]
 generalize zBB o=q at*
 have hw:=wl0 (l:=l) (o:=q) hb.2.2 hl l.length 0 false [] [] [] [] (by omega) (by simp) (by simp) (by simp) (by simp)
 simp only [List.drop_zero,List.nil_append] at hw
 rw [show ((0:Nat):Int)=0 from rfl] at hw
 unfold uR
 rw [zA,hw,zA]
 have hr:(cond q.Backward ((jJ (row 1 (trL q.Variable false l))).bind fun t45=>some t45) (some (row 1 (trL q.Variable false l))))=some (zZV q.Backward (row 1 (trL q.Variable false l))):=by
  cases q.Backward with
  | false=>rfl
  | true=>
   have:=zOL 1 (trL q.Variable false l)
   rw [zOJ] at this
   rw [cond_true,z6E (by omega)];rfl
 simp only [hr,zA]
 have hs:q.Strength=((q.Strength.toNat:Nat):Int):=by omega
 have hsl:slc [row 0 (trL q.Variable false l),zZV q.Backward (row 1 (trL q.Variable false l)),row 2 (trL q.Variable false l),row 3 (trL q.Variable false l)] 0 q.Strength=some ((rows q.Backward (trL q.Variable false l)).take q.Strength.toNat):=by
  rw [hs,zFO (by simp;omega)];rfl
 rw [hsl,zA,uQ (by simp [rows];omega)]
 rfl
end Go.M
namespace Go.M
open Go.AV
def zSL (b:Bool) (k:Nat) (L:List A4Int):List A4Int:=if k=1∧b=true then L.reverse else L
theorem z6F (x:Int):(nz x).reverse=nz x:=by unfold nz;split <;> rfl
theorem zJU (k:Nat):∀(L:List A4Int),row k L.reverse=(row k L).reverse
 | []=>rfl
 | w::L=>by
  have:=zJU k L
  simp only [row] at this ⊢
  simp [this,z6F]
theorem zLB (b:Bool) (L:List A4Int) {q:Nat} (hq:q < 4):(rows b L)[q]? =some (row q (zSL b q L)):=by
 match q,hq with
 | 0,_=>simp [rows,zSL]
 | 1,_=>cases b <;> simp [rows,zSL,zZV,zJU]
 | 2,_=>simp [rows,zSL]
 | 3,_=>simp [rows,zSL]
theorem zZW {a b : List (List Int)} (ha : a.length ≤ 1000000) (hx : ∀ x ∈ a, x.length ≤ 4611686018427387904) : zBO a b = some (decide (a = b)) := by
  unfold zBO
  by_cases hl : a.length = b.length
  case neg =>
    have e : decide ((a.length : Int) = (b.length : Int)) = false := by simp; omega
    rw [e]
    have : a ≠ b := fun e => hl (by rw [e])
    simp [this]
  have e : decide ((a.length : Int) = (b.length : Int)) = true := by simp; omega
  rw [e, Bool.not_true, cond_false]
  have key : ∀ (m k : Nat), k + m = a.length → zE (fun (x : Int) => vO a b x) (k : Int) = some (if a.drop k = b.drop k then .inl () else .inr false) := by
    intro m
    induction m with
    | zero =>
      intro k hk
      rw [List.drop_of_length_le (by omega), List.drop_of_length_le (by omega), if_pos rfl]
      refine zN ?_
      simp only [vO, jW (show a.length ≤ k by omega), cond_false]
    | succ m ih =>
      intro k hk
      have h1 : k < a.length := by omega
      have h2 : k < b.length := by omega
      rw [List.drop_eq_getElem_cons h1, List.drop_eq_getElem_cons h2]
      by_cases he : a[k] = b[k]
      · rw [zT (x' := ((k + 1 : Nat) : Int)) (by
          simp only [vO, jQ h1, cond_true, z9 h1, z9 h2, zA, show wG a[k] b[k] = some true by rw [zHU (hx _ (List.getElem_mem h1)), he]; simp, Bool.not_true, cond_false, zW (k := k) (by omega)]), ih (k + 1) (by omega)]
        have hiff : (a[k] :: a.drop (k + 1) = b[k] :: b.drop (k + 1)) ↔ (a.drop (k + 1) = b.drop (k + 1)) := ⟨fun h => (List.cons.inj h).2, fun h => by rw [he, h]⟩
        simp only [hiff]
      · rw [if_neg (fun h => he (List.cons.inj h).1)]
        refine zN ?_
        simp only [vO, jQ h1, cond_true, z9 h1, z9 h2, zA, zHU (hx _ (List.getElem_mem h1)), he, decide_false, Bool.not_false]
  have := key a.length 0 (by omega)
  rw [show ((0 : Nat) : Int) = 0 from rfl, List.drop_zero, List.drop_zero] at this
  rw [this, zA]
  by_cases hab : a = b
  · simp [hab]
  · simp [hab]
theorem zSM {l:List Element} {o:Options} {x:List Int} (h:x∈wts l o):x.length≤l.length:=by
 unfold wts at h
 have h:=List.mem_of_mem_take h
 have key:∀k,(row k (trL o.Variable false l)).length≤l.length:=fun k=>by have:=zOL k (trL o.Variable false l);rwa [zOJ] at this
 simp only [rows,List.mem_cons,List.not_mem_nil,or_false] at h
 rcases h with rfl | rfl | rfl | rfl
 exact key 0
 unfold zZV;split
 rw [List.length_reverse];exact key 1
 exact key 1
 exact key 2
 exact key 3
theorem z2Q {l:List Element} {o:Options} (h:ckO o=0):(wts l o).length=o.Strength.toNat:=by
 have:=z8P h
 unfold wts
 simp [rows];omega
end Go.M
namespace Go.M
open Go.AV
def jn:Nat→List Int→List (List Int)→List Int
 | _,acc,[]=>acc
 | k,acc,x::xs=>jn (k+1) ((if 0 < k then acc++ [0] else acc)++x) xs
theorem zZX {N:Nat}:∀(l:List (List Int)) (k:Nat) (acc:List Int),(∀x∈l,x.length≤N)→(jn k acc l).length≤acc.length+l.length*(N+1)
 | [],_,acc,_=>by simp [jn]
 | x::xs,k,acc,h=>by
  have h1:=h x (by simp)
  have h2:=zZX xs (k+1) ((if 0 < k then acc++ [0] else acc)++x) (fun y hy=>h y (by simp [hy]))
  have h3:((if 0 < k then acc++ [0] else acc)++x).length≤acc.length+1+N:=by
   split <;> simp <;> omega
  simp only [jn,List.length_cons,Nat.add_mul]
  omega
theorem yAF {acc:List Int} {k:Nat} (h:acc.length+1≤4294967296):(cond (decide ((0:Int) < (k:Int))) ((app acc [0]).bind fun q=>some q) (some acc))=some (if 0 < k then acc++ [0] else acc):=by
 by_cases hk:0 < k
 have e:decide ((0:Int) < (k:Int))=true:=by simp;omega
 rw [e,cond_true,uQ (by simpa using h),if_pos hk];rfl
 have e:decide ((0:Int) < (k:Int))=false:=by simp;omega
 rw [e,cond_false,if_neg hk]
section
variable {l:List (List Int)} {N:Nat} (hN:∀x∈l,x.length≤N) (hl:l.length≤1000000)
include hN hl
theorem z8R:∀(m k:Nat) (acc:List Int),k+m=l.length→acc.length+m*(N+1)≤4294967296→zE (fun (x:Int×(List Int))=>vZ l x.1 x.2) ((k:Int),acc)=some (jn k acc (l.drop k))
 | 0,k,acc,h,_=>by
  rw [List.drop_of_length_le (by omega)]
  refine zN ?_
  simp only [vZ,jW (show l.length≤k by omega),cond_false,jn]
 | m+1,k,acc,h,ha=>by
  have hk:k < l.length:=by omega
  have hx:=hN _ (List.getElem_mem hk)
  rw [Nat.add_mul] at ha
  have h3:(if 0 < k then acc++ [0] else acc).length≤acc.length+1:=by split <;> simp
  rw [zT (x':=(((k+1:Nat):Int),(if 0 < k then acc++ [0] else acc)++l[k])) (by
   simp only [vZ,jQ hk,cond_true,z9 hk,zA,yAF (k:=k) (show acc.length+1≤4294967296 by omega),uQ (show (if 0 < k then acc++ [0] else acc).length+l[k].length≤4294967296 by omega),zW (k:=k) (by omega)])]
  rw [z8R m (k+1) _ (by omega) (by rw [List.length_append];omega),List.drop_eq_getElem_cons hk]
  rfl
end
def idn (t:List Int):List Int:=t.flatMap fun c=>if 0≤c∧c≤1114111 then [c+1] else []
theorem z6G (c : Int) {acc : List Int} (h : acc.length + 1 ≤ 4294967296) : (cond (decide (0 ≤ c) && decide (c ≤ 1114111)) ((app acc [wi (c + 1)]).bind fun q => some q) (some acc)) = some (acc ++ if 0 ≤ c ∧ c ≤ 1114111 then [c + 1] else []) := by
  by_cases hc : 0 ≤ c ∧ c ≤ 1114111
  · have e : (decide (0 ≤ c) && decide (c ≤ 1114111)) = true := by simpa using hc
    rw [e, cond_true, uQ (by simpa using h), if_pos hc, uT (by omega) (by omega)]; rfl
  · have e : (decide (0 ≤ c) && decide (c ≤ 1114111)) = false := by
      cases h : (decide (0 ≤ c) && decide (c ≤ 1114111)) with
      | false => rfl
      | true => exact absurd (by simpa using h) hc
    rw [e, cond_false, if_neg hc, List.append_nil]
theorem z2R (c:Int):(if 0≤c∧c≤1114111 then [c+1] else ([]:List Int)).length≤1:=by split <;> simp
theorem z8S {t:List Int} (hl:t.length≤1000000):∀(m k:Nat) (acc:List Int),k+m=t.length→acc.length+m≤4294967296→zE (fun (x:Int×(List Int))=>uA t x.1 x.2) ((k:Int),acc)=some (acc++idn (t.drop k))
 | 0,k,acc,h,_=>by
  rw [List.drop_of_length_le (by omega)]
  refine zN ?_
  simp only [uA,jW (show t.length≤k by omega),cond_false,idn,List.flatMap_nil,List.append_nil]
 | m+1,k,acc,h,ha=>by
  have hk:k < t.length:=by omega
  have h1:=z2R t[k]
  rw [zT (x':=(((k+1:Nat):Int),acc++if 0≤t[k]∧t[k]≤1114111 then [t[k]+1] else [])) (by
   simp only [uA,jQ hk,cond_true,z9 hk,zA,z1,z6G t[k] (show acc.length+1≤4294967296 by omega),zW (k:=k) (by omega)])]
  rw [z8S hl m (k+1) _ (by omega) (by rw [List.length_append];omega),List.drop_eq_getElem_cons hk]
  simp only [idn,List.flatMap_cons,List.append_assoc]
def z6H (o:Options) (el:List Element) (t:List Int):List Int:=jn 0 [] (wts el o)++if o.Identical=true then [0]++idn t else []
theorem zT7 (l:List Element) (o:Options):(wts l o).length≤4:=by unfold wts;simp [rows];omega
theorem z2S (o:Options):zBB (zBB o)=zBB o:=z31 (zZR o)
section
variable {n:Norm} {c:Collation} (hn:NSm n) (hok:zDN n) (hs:Sm c) (hg:∀g∈c.Groups,g.Name.length≤MX) {text:List Int} (ht:text.length≤2000) (hf:(zGO n false text).length≤2000)
include hn hok hs hg ht hf
theorem z6I (o:Options):zA2 n c o text=some (z6H (zBB o) (wk c (zA5 n) (zG3 n false text)).1 (zG3 n false text)):=by
 unfold zA2 z6H
 have hd:(zG3 n false text).length≤2000:=by rw [zQ8];exact hf
 have hel:=z6C (n:=n) hs (text:=text) hd
 rw [show ({Strength:=o.Strength,Variable:=o.Variable,Backward:=o.Backward,Identical:=o.Identical}:Options)=o from rfl,zT6,zA,zRA hn hok hs hg ht hf,zA,show ({Strength:=(zBB o).Strength,Variable:=(zBB o).Variable,Backward:=(zBB o).Backward,Identical:=(zBB o).Identical}:Options)=zBB o from rfl,zC5 (by omega),z2S,zA]
 generalize (wk c (zA5 n) (zG3 n false text)).1=el at*
 have h4:=zT7 el (zBB o)
 have hN:∀x∈wts el (zBB o),x.length≤1000000000:=fun x hx=>Nat.le_trans (zSM hx) hel
 have hk0:=z8R hN (by omega) (wts el (zBB o)).length 0 [] (by omega) (by simp;omega)
 rw [show ((0:Nat):Int)=0 from rfl,List.drop_zero] at hk0
 have hjl:=zZX (wts el (zBB o)) 0 [] hN
 simp only [List.length_nil] at hjl
 rw [hk0,zA]
 cases hi:(zBB o).Identical with
 | false=>simp
 | true=>
  have h5:(jn 0 [] (wts el (zBB o))).length≤4000000004:=by omega
  rw [Bool.not_true,cond_false,uQ (by simp;omega),zA,zQ9 hn hok ht hf,zA]
  have hk1:=z8S (t:=zG3 n false text) (by omega) (zG3 n false text).length 0 (jn 0 [] (wts el (zBB o))++ [0]) (by omega) (by simp;omega)
  rw [show ((0:Nat):Int)=0 from rfl,List.drop_zero] at hk1
  rw [hk1,zA,if_pos rfl,List.append_assoc]
end
def nZ:Norm:={Classes:=[],Decomp:=[],Excluded:={Ranges:=[]}}
def cZ:Collation:={Entries:=[{Codes:=[97],Elements:=[{Primary:=16,Secondary:=32,Tertiary:=2,Variable:=false}]},{Codes:=[98],Elements:=[{Primary:=17,Secondary:=32,Tertiary:=2,Variable:=false}]}],Groups:=[],Base:=100,Second:=32,Third:=2}
theorem yAG:NSm nZ:=⟨by decide,by decide,fun m hm=>(by cases hm),fun m hm=>(by cases hm),by decide⟩
theorem z8T:zDN nZ:=by unfold zDN okSpan z24 nZ;simp
theorem yAH:Sm cZ:=⟨by decide,by decide,by decide,by decide⟩
theorem zZY:usN nZ=nZ:=by unfold usN;split <;> rfl
theorem z8U:zA5 nZ= []:=by rw [zZP,zZY];rfl
theorem zT8:zGO nZ false [97,98]= [97,98]:=by unfold zGO;rw [zZY];decide
theorem z6J:zG3 nZ false [97,98]= [97,98]:=by unfold zG3;rw [zT8,zZY];decide
theorem z8V:(wk cZ [] [97,98]).1= [{Primary:=16,Secondary:=32,Tertiary:=2,Variable:=false},{Primary:=17,Secondary:=32,Tertiary:=2,Variable:=false}]:=by decide
end Go.M
namespace Go.M
open Go.AV
theorem z6K:zAS [258]=some [0,0,1,2]:=by
 unfold zAS
 have h0:zE (fun (x:Int×(List Int))=>zAF [258] x.1 x.2) (0,[])=some [0,0,1,2]:=by
  rw [zT (x':=(1,[0,0,1,2])) (by rfl)]
  exact zN (by rfl)
 rw [h0];decide
theorem z2T:zA3=some true:=by
 unfold zA3
 have hw:=zC5 (l:=[({Primary:=16,Secondary:=32,Tertiary:=2,Variable:=false}:Element),({Primary:=17,Secondary:=32,Tertiary:=2,Variable:=false}:Element)]) (by simp) ({Strength:=2,Variable:=1,Backward:=false,Identical:=false}:Options)
 rw [hw,zA]
 have hk:=z6I yAG z8T yAH (fun g hg=>by cases hg) (text:=[97,98]) (by simp) (by rw [zT8];simp) ({Strength:=2,Variable:=1,Backward:=false,Identical:=false}:Options)
 rw [z8U,z6J,z8V] at hk
 have hv:z6H (zBB ({Strength:=2,Variable:=1,Backward:=false,Identical:=false}:Options)) [{Primary:=16,Secondary:=32,Tertiary:=2,Variable:=false},{Primary:=17,Secondary:=32,Tertiary:=2,Variable:=false}] [97,98]= [16,17,0,32,32]:=by decide
 rw [hv] at hk
 have s1:slc [({Primary:=16,Secondary:=32,Tertiary:=2,Variable:=false}:Element),({Primary:=17,Secondary:=32,Tertiary:=2,Variable:=false}:Element)] 0 1=some [{Primary:=16,Secondary:=32,Tertiary:=2,Variable:=false}]:=by decide
 have s2:slc [({Primary:=16,Secondary:=32,Tertiary:=2,Variable:=false}:Element),({Primary:=17,Secondary:=32,Tertiary:=2,Variable:=false}:Element)] 1 ([({Primary:=16,Secondary:=32,Tertiary:=2,Variable:=false}:Element),({Primary:=17,Secondary:=32,Tertiary:=2,Variable:=false}:Element)].length)=some [{Primary:=17,Secondary:=32,Tertiary:=2,Variable:=false}]:=by decide
 rw [s1,zA,s2,zA]
 have hk':zA2 ({Classes:=[],Decomp:=[],Excluded:=(({Ranges:=[]}):Set)}:Norm) ({Entries:=[({Codes:=[97],Elements:=[{Primary:=16,Secondary:=32,Tertiary:=2,Variable:=false}]}:Entry),({Codes:=[98],Elements:=[{Primary:=17,Secondary:=32,Tertiary:=2,Variable:=false}]}:Entry)],Groups:=[],Base:=100,Second:=32,Third:=2}:Collation) ({Strength:=2,Variable:=1,Backward:=false,Identical:=false}:Options) [97,98]=some [16,17,0,32,32]:=hk
 have c1:xN ({Strength:=0,Variable:=0,Backward:=false,Identical:=false}:Options)=some 1:=by rw [zSK];decide
 have c2:xN ({Strength:=1,Variable:=0,Backward:=false,Identical:=false}:Options)=some 8:=by rw [zSK];decide
 have w2:(wts [({Primary:=16,Secondary:=32,Tertiary:=2,Variable:=false}:Element),({Primary:=17,Secondary:=32,Tertiary:=2,Variable:=false}:Element)] (zBB ({Strength:=2,Variable:=1,Backward:=false,Identical:=false}:Options))).length=2:=by decide
 have e1:wG [16,17,0,32,32] [16,17,0,32,32]=some true:=by rw [zHU (by simp)];simp
 rw [hk',zA,z1,w2]
 simp only [e1,z6K,c1,c2,z1,zDT,zA,Bool.and_self,decide_true,BEq.rfl,show decide (((2:Nat):Int)=2)=true from rfl]
end Go.M
namespace Go.M
open Go.AV
def eZ:Element:={Primary:=0,Secondary:=0,Tertiary:=0,Variable:=false}
def j7 (e:Element):Element:={Primary:=e.Primary,Secondary:=e.Secondary,Tertiary:=e.Tertiary,Variable:=false}
theorem zT9 (v:Int):∀(l m:List Element) (f:Bool),∃g,trL v f (l++m)=trL v f l++trL v g m
 | [],m,f=>⟨f,rfl⟩
 | e::l,m,f=>by
  obtain ⟨g,h⟩:=zT9 v l m (zHZ f e)
  exact ⟨g,by simp only [List.cons_append,trL,h]⟩
theorem trZ (v:Int) (f:Bool):tr1 v f eZ= {x0:=0,x1:=0,x2:=0,x3:=0}:=by
 unfold tr1
 have h:zLA eZ:=by decide
 by_cases h1:v=1
 simp [h1,h];decide
 cases f
 have ha:zHZ false eZ=false:=rfl
 rw [if_neg h1,ha,if_neg (by decide),if_neg (fun q=>q.2 h)];rfl
 have ha:zHZ true eZ=true:=rfl
 rw [if_neg h1,ha,if_pos rfl,if_neg (fun q=>by cases q.2)]
theorem z8W (k:Nat) (v:Int) (f:Bool):row k (trL v f [eZ,eZ])= []:=by
 simp only [trL,trZ,row,List.flatMap_cons,List.flatMap_nil]
 match k with
 | 0=>rfl
 | 1=>rfl
 | 2=>rfl
 | k+3=>rfl
theorem z2U (k:Nat) (L M:List A4Int):row k (L++M)=row k L++row k M:=by simp [row]
theorem z8X (l:List Element) (o:Options):wts (l++ [eZ,eZ]) o=wts l o:=by
 unfold wts
 obtain ⟨g,h⟩:=zT9 o.Variable l [eZ,eZ] false
 rw [h]
 simp only [rows,z2U,z8W,List.append_nil]
theorem zVX (e:Element):zHZ false (j7 e)=false:=by
 unfold zHZ j7
 split <;> rfl
theorem yAI (e:Element):tr1 3 false (j7 e)=tr1 1 false (j7 e):=by
 unfold tr1
 rw [zVX]
 by_cases h:zLA (j7 e) <;> simp [h]
theorem z33:∀l:List Element,trL 3 false (l.map j7)=trL 1 false (l.map j7)
 | []=>rfl
 | e::l=>by simp only [List.map_cons,trL,zVX,yAI,z33 l]
theorem zZZ (k:Nat) (hk:k < 3):∀l:List Element,row k (trL 2 false (l.map j7))=row k (trL 1 false (l.map j7))
 | []=>rfl
 | e::l=>by
  have ih:=zZZ k hk l
  have e1:col k (tr1 2 false (j7 e))=col k (tr1 1 false (j7 e)):=by
   unfold tr1
   rw [zVX]
   match k,hk with
   | 0,_=>rfl
   | 1,_=>rfl
   | 2,_=>rfl
  simp only [row,List.map_cons,trL,zVX,List.flatMap_cons,e1] at ih ⊢
  rw [ih]
theorem z8Y:∀l:List Element,row 3 (trL 2 false (l.map j7))= []
 | []=>rfl
 | e::l=>by
  have ih:=z8Y l
  have e1:col 3 (tr1 2 false (j7 e))=0:=by
   unfold tr1
   rw [zVX]
   simp [col]
  simp only [row,List.map_cons,trL,zVX,List.flatMap_cons,e1] at ih ⊢
  rw [ih]
  rfl
theorem pl0 {l:List Element} (hl:l.length≤1000000):∀(m k:Nat) (acc:List Element),k+m=l.length→acc.length=k→zE (fun (x:Int×(List Element))=>jK l x.1 x.2) ((k:Int),acc)=some (acc++(l.drop k).map j7)
 | 0,k,acc,h,_=>by
  rw [List.drop_of_length_le (by omega)]
  refine zN ?_
  simp only [jK,jW (show l.length≤k by omega),cond_false,List.map_nil,List.append_nil]
 | m+1,k,acc,h,ha=>by
  have hk:k < l.length:=by omega
  rw [zT (x':=(((k+1:Nat):Int),acc++ [j7 l[k]])) (by
   simp only [jK,jQ hk,cond_true,z9 hk,zA,uQ (show acc.length+ [({Primary:=l[k].Primary,Secondary:=l[k].Secondary,Tertiary:=l[k].Tertiary,Variable:=false}:Element)].length≤4294967296 by simp;omega),zW (k:=k) (by omega)];rfl)]
  rw [pl0 hl m (k+1) _ (by omega) (by simp;omega),List.drop_eq_getElem_cons hk]
  rw [List.map_cons,List.append_assoc]
  rfl
theorem zZ0 {o : Options} {a b : List (List Int)} (hs : 1 ≤ o.Strength ∧ o.Strength ≤ 4) (ha : a.length = o.Strength.toNat) (hb : b.length = o.Strength.toNat) (hx : ∀ x ∈ a, x.length ≤ 1000000) (he : ∀ k, k < 3 → a[k]? = b[k]?) :
    ∀ (m k : Nat), k + m = 5 → zE (fun (x : Int) => kZ o a b x) (k : Int) = some (.inl ())
  | 0, k, h => by
    have e : decide ((k : Int) < o.Strength) = false := by simp; omega
    refine zN ?_
    simp only [kZ, e, z1, Bool.false_and, cond_false]
  | m + 1, k, h => by
    by_cases h1 : (k : Int) < o.Strength ∧ k < 3
    · have e : (decide ((k : Int) < o.Strength) && decide ((k : Int) < 3)) = true := by simp; omega
      have ka : k < a.length := by omega
      have kb : k < b.length := by omega
      have hq := he k h1.2
      rw [List.getElem?_eq_getElem ka, List.getElem?_eq_getElem kb] at hq
      have hq := Option.some.inj hq
      rw [zT (x' := ((k + 1 : Nat) : Int)) (by
        simp only [kZ, z1, e, cond_true, z9 ka, z9 kb, zA, show wG a[k] b[k] = some true by rw [zHU (Nat.le_trans (hx _ (List.getElem_mem ka)) (by omega)), hq]; simp, Bool.not_true, cond_false, zW (k := k) (by omega)])]
      exact zZ0 hs ha hb hx he m (k + 1) (by omega)
    · have e : (decide ((k : Int) < o.Strength) && decide ((k : Int) < 3)) = false := by
        rw [Bool.and_eq_false_iff]; simp; omega
      refine zN ?_
      simp only [kZ, z1, e, cond_false]
theorem law44_SortkeyTreats_true (l:List Element) (o:Options) {q:Prop} (_:q) {q2:Prop} (_:q2):vP l o=some true:=by
 unfold vP
 rw [z2T]
 by_cases h:60 < l.length
 have e:decide ((60:Int) < (l.length:Int))=true:=by simp;omega
 simp only [e,z1,Bool.true_or,cond_true,zA]
 have e:decide ((60:Int) < (l.length:Int))=false:=by simp;omega
 by_cases h1:o.Strength < 1
 simp only [e,z1,h1,decide_true,Bool.or_true,Bool.true_or,cond_true,zA]
 by_cases h2:4 < o.Strength
 simp only [e,z1,h2,decide_true,Bool.or_true,cond_true,zA]
 have hp:=pl0 (l:=l) (by omega) l.length 0 [] (by omega) rfl
 rw [show ((0:Nat):Int)=0 from rfl,List.drop_zero,List.nil_append] at hp
 have hk:∀v:Int,1≤v→v≤3→ckO {Strength:=o.Strength,Variable:=v,Backward:=o.Backward,Identical:=o.Identical}=0:=fun v h3 h4=>by
  unfold ckO;simp only [];rw [if_neg (by omega),if_neg (by omega)]
 have hW:∀v:Int,1≤v→v≤3→kQ (l.map j7) {Strength:=o.Strength,Variable:=v,Backward:=o.Backward,Identical:=o.Identical}=some (wts (l.map j7) {Strength:=o.Strength,Variable:=v,Backward:=o.Backward,Identical:=o.Identical}):=fun v h3 h4=>by
  rw [zC5 (by simp;omega),z31 (hk v h3 h4)]
 have hl:∀v:Int,1≤v→v≤3→(wts (l.map j7) {Strength:=o.Strength,Variable:=v,Backward:=o.Backward,Identical:=o.Identical}).length=o.Strength.toNat:=fun v h3 h4=>z2Q (hk v h3 h4)
 have hxx:∀v:Int,∀x∈wts (l.map j7) {Strength:=o.Strength,Variable:=v,Backward:=o.Backward,Identical:=o.Identical},x.length≤1000000:=fun v x hx=>by have:=zSM hx;rw [List.length_map] at this;omega
 have e13:wts (l.map j7) {Strength:=o.Strength,Variable:=3,Backward:=o.Backward,Identical:=o.Identical}=wts (l.map j7) {Strength:=o.Strength,Variable:=1,Backward:=o.Backward,Identical:=o.Identical}:=by
  unfold wts;simp only [z33]
 have hm:=zC5 (l:=l++ [eZ,eZ]) (by simp;omega) o
 rw [z8X] at hm
 have hm0:=zC5 (l:=l) (by omega) o
 have hsm:=zZW (a:=wts l (zBB o)) (b:=wts l (zBB o)) (by have:=zT7 l (zBB o);omega) (fun x hx=>by have:=zSM hx;omega)
 have hs1:=zZW (a:=wts (l.map j7) {Strength:=o.Strength,Variable:=1,Backward:=o.Backward,Identical:=o.Identical}) (b:=wts (l.map j7) {Strength:=o.Strength,Variable:=1,Backward:=o.Backward,Identical:=o.Identical}) (by rw [hl 1 (by omega) (by omega)];omega) (fun x hx=>Nat.le_trans (hxx 1 x hx) (by omega))
 have f1:decide (o.Strength < 1)=false:=by simpa using h1
 have f2:decide (4 < o.Strength)=false:=by simpa using h2
 have l1:decide (((wts (l.map j7) {Strength:=o.Strength,Variable:=1,Backward:=o.Backward,Identical:=o.Identical}).length:Int)=o.Strength)=true:=by rw [hl 1 (by omega) (by omega)];simp;omega
 have l2:decide (((wts (l.map j7) {Strength:=o.Strength,Variable:=2,Backward:=o.Backward,Identical:=o.Identical}).length:Int)=o.Strength)=true:=by rw [hl 2 (by omega) (by omega)];simp;omega
 have hT:=zZ0 (o:=o) (a:=wts (l.map j7) {Strength:=o.Strength,Variable:=1,Backward:=o.Backward,Identical:=o.Identical}) (b:=wts (l.map j7) {Strength:=o.Strength,Variable:=2,Backward:=o.Backward,Identical:=o.Identical}) ⟨by omega,by omega⟩ (hl 1 (by omega) (by omega)) (hl 2 (by omega) (by omega)) (hxx 1) (fun k hk3=>by
  unfold wts
  simp only []
  rw [List.getElem?_take,List.getElem?_take,zLB _ _ (by omega),zLB _ _ (by omega)]
  congr 2
  unfold zSL
  split
  rw [zJU,zJU,zZZ k hk3]
  rw [zZZ k hk3]) 5 0 (by omega)
 rw [show ((0:Nat):Int)=0 from rfl] at hT
 rw [e,z1,z1,f1,f2]
 simp only [Bool.or_self,cond_false,hp,zA]
 rw [uQ (by simp;omega),zA,List.nil_append,uQ (by simp;omega),zA]
 rw [show l++ [({Primary:=0,Secondary:=0,Tertiary:=0,Variable:=false}:Element),({Primary:=0,Secondary:=0,Tertiary:=0,Variable:=false}:Element)]=l++ [eZ,eZ] from rfl,hm,zA,hm0,zA,hsm,zA]
 simp only [decide_true,Bool.not_true,cond_false,hW 1 (by omega) (by omega),hW 2 (by omega) (by omega),hW 3 (by omega) (by omega),zA,z1,l1,l2,Bool.or_self,Bool.not_false,zDT,e13,hs1,hT,Sum.elim_inl]
 by_cases h4:o.Strength < 4
 simp only [h4,decide_true,Bool.not_true,zG0,zDT,zA,Bool.true_or,Bool.and_self]
 have e4:decide (o.Strength < 4)=false:=by simpa using h4
 have i3:kO (wts (l.map j7) {Strength:=o.Strength,Variable:=2,Backward:=o.Backward,Identical:=o.Identical}) (3:Int)=some []:=by
  have h3:3 < (wts (l.map j7) {Strength:=o.Strength,Variable:=2,Backward:=o.Backward,Identical:=o.Identical}).length:=by rw [hl 2 (by omega) (by omega)];omega
  have:=z9 h3
  rw [show ((3:Nat):Int)=3 from rfl] at this
  rw [this,←List.getElem?_eq_getElem h3]
  unfold wts
  simp only []
  rw [List.getElem?_take,if_pos (by omega),zLB _ _ (by omega)]
  unfold zSL
  rw [if_neg (by simp),z8Y]
 simp only [e4,Bool.not_false,zDT,i3,zA,Bool.false_or]
 rfl
end Go.M


/- What the plain counterparts answer. Conditions: none. -/
import Derived.Test.YtjcbhabmkcdcnaaDoorPu1
set_option linter.unusedSimpArgs false
set_option linter.unusedVariables false
set_option linter.unnecessarySimpa false
namespace Go.M
open Go.AV
open Classical in
noncomputable def zA6 (n:Norm):List Span:=if VD0 n then n.Classes else []
theorem zY2:CV []:=⟨fun k h=>(by cases h),fun k h=>(by cases h),fun k h=>(by cases h)⟩
theorem zY3 (n:Norm):CV (zA6 n):=by
 unfold zA6
 split
 rename_i h;exact h.cv
 exact zY2
theorem zM2 {n:Norm} (hs:NSm n):(zA6 n).length≤40:=by
 unfold zA6
 split
 exact hs.cl
 simp
def zLX (l:List Span) (t:Int):Int:=l.foldl (fun t s=>max t s.Value) t
def zFM (c:Collation) (l:List Span):Colltable_table:={zH8 c with classes:=l,top:=zLX l 0}
theorem zY4 {l:List Span} (hl:l.length≤2000):∀(d k:Nat) (t:Int),l.length - k=d→k≤l.length→zD (fun (x:Int×Int)=>kO l x.1 x.2) ((k:Int),t)=some (zLX (l.drop k) t):=by
 intro d
 induction d with
 | zero=>
  intro k t h1 h2
  rw [List.drop_of_length_le (by omega)]
  refine zM ?_
  simp only [kO,jR (show l.length≤k by omega),cond_false]
  rfl
 | succ d ih=>
  intro k t h1 h2
  have hk:k < l.length:=by omega
  rw [List.drop_eq_getElem_cons hk]
  rw [zR (x':=(((k+1:Nat):Int),max t l[k].Value)) (by simp only [kO,jG hk,cond_true,yA hk,zA,zT (k:=k) (by omega)])]
  exact ih (k+1) _ (by omega) (by omega)
theorem z13 {c:Collation} {n:Norm} (hs:NSm n) (hok:zDG n):xM (zH8 c) n=some (zFM c (zA6 n)):=by
 obtain ⟨e,he,hp⟩:=zYW hs hok
 unfold xM
 rw [he,zA]
 have h1:(cond (decide (e=0)) (some n.Classes) (some (zH8 c).classes):Option (List Span))=some (zA6 n):=by
  unfold zA6
  by_cases h:e=0
  rw [if_pos (hp.1 h)];simp [h]
  rw [if_neg (fun hh=>h (hp.2 hh))];simp [h,zH8]
 rw [h1,zA]
 have h2:=zY4 (l:=zA6 n) (by have:=zM2 hs;omega) (zA6 n).length 0 0 (by omega) (by omega)
 rw [List.drop_zero] at h2
 have h2':zD (fun (x:Int×Int)=>kO (zA6 n) x.1 x.2) (0,(zH8 c).top)=some (zLX (zA6 n) 0):=h2
 rw [h2']
 rfl
theorem zFN {c:Collation} (hs:Sm c) {l:List Span} {codes:List Int}:kR (zFM c l) codes=some (zCB (kT c).Entries codes):=z1K hs (codes:=codes)
theorem zFZ {c:Collation} {l:List Span} (h:CV l) (hl:l.length≤2000) (x:Int):j6 (zFM c l) x=some (clE l x):=by
 obtain ⟨j,hj,hr,hlo,hhi⟩:=zN1 (n:=l.length) hl (body:=fun (q:Int×Int)=>vU (fun x0=>jP x0 (zFM c l) x) q.1 q.2) (fun k=>decide (x≤(nth l k).Hi))
  (fun k _=>by simp only [vU,jR (Nat.le_refl _),cond_false])
  (fun lo hi h1 h2=>by
   have hm:(lo+hi) / 2 < l.length:=by omega
   have hi1:kJ (zFM c l).classes (((lo+hi) / 2:Nat):Int)=some (nth l ((lo+hi) / 2)):=kP hm
   simp only [vU,jG h1,cond_true,zGX (show lo+hi≤4611686018427387903 by omega),jP,hi1,zA,zT (k:=(lo+hi) / 2) (by omega)]
   by_cases hc:x≤(nth l ((lo+hi) / 2)).Hi <;> simp [hc])
  (fun i j hij hj hi=>by
   have:=h.hi hij hj
   simp only [decide_eq_true_eq] at hi ⊢
   omega)
 simp only [decide_eq_false_iff_not,decide_eq_true_eq] at hlo hhi
 unfold j6 zC8
 have e0:(zFM c l).classes=l:=rfl
 rw [e0,hr,z3B h hj (fun k hk=>by have:=hlo k hk;omega) hhi]
 simp only [zA,z4]
 by_cases hn:j < l.length
 simp only [jG hn,zEH,kP hn,zA,Bool.true_and,hn,true_and]
 by_cases hc2:(nth l j).Lo≤x <;> simp [hc2]
 simp only [jR (show l.length≤j by omega),zHK,zA,Bool.false_and,cond_false,hn,false_and,if_false]
theorem zSE:∀(l:List Span) (t:Int),t≤zLX l t∧∀s∈l,s.Value≤zLX l t
 | [],t=>⟨Int.le_refl _,fun s h=>by cases h⟩
 | x::l,t=>by
  have ih:=zSE l (max t x.Value)
  refine ⟨by show t≤zLX l (max t x.Value);omega,fun s hs=>?_⟩
  show s.Value≤zLX l (max t x.Value)
  rcases List.mem_cons.1 hs with rfl | hs
  omega
  exact ih.2 s hs
theorem z7O {l:List Span} (x:Int):clE l x≤zLX l 0:=by
 unfold clE
 cases hf:l.find? (zQO x) with
 | none=>exact (zSE l 0).1
 | some s=>exact (zSE l 0).2 s (List.mem_of_find?_eq_some hf)
theorem z7P {l:List Span} (h:CV l) (x:Int):0≤clE l x:=by
 unfold clE
 cases hf:l.find? (zQO x) with
 | none=>exact Int.le_refl _
 | some s=>
  have:=List.mem_of_find?_eq_some hf
  obtain ⟨k,hk,rfl⟩:=List.getElem_of_mem this
  have:=h.sp k hk
  rw [zB4 hk] at this
  unfold spOk at this
  show 0≤(l[k]).Value
  omega
def zHP (p:Nat→Bool):Nat→Nat
 | 0=>0
 | k+1=>if p (k+1) then k+1 else zHP p k
theorem zK3 (p:Nat→Bool):∀k,zHP p k≤k
 | 0=>Nat.le_refl _
 | k+1=>by unfold zHP;split;omega;have:=zK3 p k;omega
theorem zM3 {p : Nat → Bool} {m : Nat} : ∀ {k : Nat}, m ≤ k → (∀ j, m < j → j ≤ k → p j = false) → zHP p k = zHP p m
  | 0, h, _ => by have : m = 0 := by omega
                  rw [this]
  | k + 1, h, hp => by
    by_cases e : m = k + 1
    · rw [e]
    · unfold zHP
      rw [hp (k + 1) (by omega) (Nat.le_refl _)]
      simp only [Bool.false_eq_true, if_false]
      rw [zM3 (m := m) (by omega) fun j h1 h2 => hp j h1 (by omega)]
      cases m <;> rfl
def pfx (es:List Entry) (text:List Int) (k:Nat):Bool:=(zCB es (text.take k)).2
def u3 (es:List Entry) (text:List Int):Nat:=zHP (pfx es text) text.length
def zB0 (fd:List Int→Bool) (cl:Int→Int):List Int→List Int→List Int→Int→List Int×List Int
 | [],p,s,_=>(p,s)
 | x::r,p,s,h=>if cl x=0 then (p,s++x::r) else if fd (p++ [x])&&decide (h < cl x) then zB0 fd cl r (p++ [x]) s h else zB0 fd cl r p (s++ [x]) (max h (cl x))
theorem zM4 {fd:List Int→Bool} {cl:Int→Int}:∀(r p s:List Int) (h:Int),(∀x,cl x≤h)→zB0 fd cl r p s h=(p,s++r)
 | [],p,s,h,_=>by simp [zB0]
 | x::r,p,s,h,hc=>by
  have hx:=hc x
  unfold zB0
  split
  rfl
  have e:decide (h < cl x)=false:=by simp;omega
  rw [e,Bool.and_false,if_neg (by simp),zM4 r p (s++ [x]) (max h (cl x)) (fun y=>by have:=hc y;omega)]
  simp
theorem zK4 {fd:List Int→Bool} {cl:Int→Int}:∀(r p s:List Int) (h:Int),p.length≤(zB0 fd cl r p s h).1.length∧(zB0 fd cl r p s h).1.length+(zB0 fd cl r p s h).2.length=p.length+s.length+r.length∧((zB0 fd cl r p s h).1.length=p.length→zB0 fd cl r p s h=(p,s++r))
 | [],p,s,h=>by simp [zB0]
 | x::r,p,s,h=>by
  unfold zB0
  split
  refine ⟨Nat.le_refl _,by simp;omega,fun _=>rfl⟩
  split
  have ih:=zK4 (fd:=fd) (cl:=cl) r (p++ [x]) s h
  simp only [List.length_append,List.length_cons,List.length_nil] at ih ⊢
  exact ⟨by omega,by omega,fun e=>by omega⟩
  have ih:=zK4 (fd:=fd) (cl:=cl) r p (s++ [x]) (max h (cl x))
  simp only [List.length_append,List.length_cons,List.length_nil] at ih ⊢
  refine ⟨ih.1,by omega,fun e=>?_⟩
  rw [ih.2.2 e];simp
section
variable {c:Collation} (hs:Sm c) {l:List Span} (hcv:CV l) (hl:l.length≤2000)
include hs
theorem mL0 {text:List Int} (ht:text.length≤2000):∀k,k≤text.length→zD (fun (x:Int)=>kB text (zFM c l) x) (k:Int)=some ((zHP (pfx (kT c).Entries text) k:Nat):Int)
 | 0,_=>by
  refine zM ?_
  have:decide ((0:Int) < ((0:Nat):Int))=false:=rfl
  simp only [kB,this,cond_false]
  rfl
 | k+1,hk=>by
  have hd:decide ((0:Int) < ((k+1:Nat):Int))=true:=by simp <;> omega
  have ih:=mL0 ht k (by omega)
  unfold zHP
  cases hp:pfx (kT c).Entries text (k+1) with
  | true=>
   rw [if_pos rfl]
   refine zM ?_
   unfold pfx at hp
   simp only [kB,hd,cond_true,zFJ hk,zA,zFN hs,hp]
  | false=>
   rw [if_neg (by simp),←ih]
   refine zR ?_
   unfold pfx at hp
   simp only [kB,hd,cond_true,zFJ hk,zA,zFN hs,hp,cond_false,zDD (k:=k) (by omega)]
omit hs in
theorem zY5 {text:List Int} {k:Nat} (hk:k≤text.length) (h:zHM (kT c).Entries 0 < (k:Int)):pfx (kT c).Entries text k=false:=by
 have h1:=zNY (kT c).Entries 0
 unfold pfx zCB
 have:(kT c).Entries.find? (fun x=>decide (x.Codes=text.take k))=none:=by
  rw [List.find?_eq_none]
  intro x hx
  simp only [decide_eq_true_eq]
  intro e
  have h2:=h1.2 x hx
  rw [e] at h2
  have:(text.take k).length=k:=by simp;omega
  omega
 rw [this]
theorem z5H {text:List Int} (ht:text.length≤2000):zD (fun (x:Int)=>kB text (zFM c l) x) (min (zFM c l).longest (text.length:Int))=some ((u3 (kT c).Entries text:Nat):Int):=by
 have h1:=zNY (kT c).Entries 0
 have e:(zFM c l).longest=zHM (kT c).Entries 0:=rfl
 rw [e]
 obtain ⟨m,hm⟩:∃m:Nat,min (zHM (kT c).Entries 0) (text.length:Int)=(m:Int):=⟨(min (zHM (kT c).Entries 0) (text.length:Int)).toNat,by omega⟩
 rw [hm,mL0 hs ht m (by omega)]
 unfold u3
 rw [zM3 (p:=pfx (kT c).Entries text) (m:=m) (k:=text.length) (by omega) fun j h2 h3=>zY5 h3 (by omega)]
omit hs in
theorem z5I {p s r:List Int} {x:Int}:uR (cpM (p++s++x::r) ((p.length+1:Nat):Int) ((p.length+s.length+1:Nat):Int) (p.length:Int) ((p.length+s.length:Nat):Int)) (p.length:Int) x=some ((p++ [x])++s++r):=by
 have e1:((p++s++x::r).drop p.length).take (p.length+s.length - p.length)=s:=by
  rw [List.append_assoc,List.drop_left]
  have:p.length+s.length - p.length=s.length:=by omega
  rw [this,List.take_left]
 have e2:min (p.length+s.length - p.length) (p.length+s.length+1 - (p.length+1))=s.length:=by omega
 unfold cpM
 simp only [Int.toNat_natCast]
 rw [e1,e2,List.take_of_length_le (Nat.le_refl _)]
 cases s with
 | nil=>
  have hx:(p++ []++x::r)=p++x::r:=by simp
  rw [hx]
  have e3:(p++x::r).take (p.length+1)=p++ [x]:=by
   rw [List.take_append,List.take_of_length_le (by omega)]
   simp
  have e4:(p++x::r).drop (p.length+1+([]:List Int).length)=r:=by
   rw [List.drop_append,List.drop_of_length_le (by simp)]
   simp
  rw [e3,e4]
  have:p++ [x]++ []++r=p++x::r:=by simp
  rw [this,vY rfl]
 | cons y s=>
  have hx:(p++(y::s)++x::r)=p++y::(s++x::r):=by simp
  rw [hx]
  have e3:(p++y::(s++x::r)).take (p.length+1)=p++ [y]:=by
   rw [List.take_append,List.take_of_length_le (by omega)]
   simp
  have e4:(p++y::(s++x::r)).drop (p.length+1+(y::s).length)=r:=by
   have:p++y::(s++x::r)=(p++y::(s++ [x]))++r:=by simp
   rw [this,List.drop_left' (by simp;omega)]
  rw [e3,e4]
  have:p++ [y]++(y::s)++r=p++y::((y::s)++r):=by simp
  rw [this,vY rfl]
  simp
include hcv hl
theorem mL1 : ∀ (r p s : List Int) (h : Int), p.length + s.length + r.length ≤ 2000 →
    zD (fun (x : Int × Int × Int × (List Int)) => yG (zFM c l) x.1 x.2.1 x.2.2.1 x.2.2.2) ((p.length : Int), h, ((p.length + s.length : Nat) : Int), p ++ s ++ r) =
      some ((((zB0 (fun q => (zCB (kT c).Entries q).2) (clE l) r p s h).1.length : Nat) : Int), (zB0 (fun q => (zCB (kT c).Entries q).2) (clE l) r p s h).1 ++ (zB0 (fun q => (zCB (kT c).Entries q).2) (clE l) r p s h).2)
  | [], p, s, h, _ => by
    refine zM ?_
    have : decide (((p.length + s.length : Nat) : Int) < ((p ++ s ++ []).length : Int)) = false := by simp
    simp only [yG, z4, this, Bool.false_and, cond_false]
    simp [zB0]
  | x :: r, p, s, h, hn => by
    simp only [List.length_cons] at hn
    have hd : decide (((p.length + s.length : Nat) : Int) < ((p ++ s ++ x :: r).length : Int)) = true := by simp <;> omega
    have hi : kJ (p ++ s ++ x :: r) ((p.length + s.length : Nat) : Int) = some x := xY (by simp)
    have etop : (zFM c l).top = zLX l 0 := rfl
    by_cases htop : h < zLX l 0
    · have hd2 : decide (h < (zFM c l).top) = true := by rw [etop]; simpa using htop
      by_cases h0 : clE l x = 0
      · refine zM ?_
        simp only [yG, z4, hd, hd2, Bool.and_self, cond_true, hi, zA, zFZ hcv hl, h0, decide_true, Sum.elim_inl]
        unfold zB0
        rw [if_pos h0]
        simp
      · unfold zB0
        rw [if_neg h0]
        by_cases hk : clE l x ≤ h
        · have e : decide (h < clE l x) = false := by simp; omega
          rw [e, Bool.and_false, if_neg (by simp)]
          rw [zR (x' := ((p.length : Int), h, ((p.length + (s ++ [x]).length : Nat) : Int), p ++ (s ++ [x]) ++ r)) (by
            have e2 : p ++ (s ++ [x]) ++ r = p ++ s ++ x :: r := by simp
            have e3 : p.length + (s ++ [x]).length = p.length + s.length + 1 := by simp; omega
            rw [e2, e3]
            simp only [yG, z4, hd, hd2, Bool.and_self, cond_true, hi, zA, zFZ hcv hl, h0, hk, decide_true, decide_false, cond_false, Sum.elim_inr, zT (k := p.length + s.length) (by omega)])]
          have := mL1 r p (s ++ [x]) h (by simp; omega)
          rw [show max h (clE l x) = h by omega]
          exact this
        · have e : decide (h < clE l x) = true := by simp; omega
          rw [e, Bool.and_true]
          have s1 : slc (p ++ s ++ x :: r) 0 (p.length : Int) = some p := by
            rw [zFJ (by simp)]
            simp
          have a1 : app p [x] = some (p ++ [x]) := u2 (by simp; omega)
          cases hf : (zCB (kT c).Entries (p ++ [x])).2 with
          | false =>
            rw [if_neg (by simp)]
            rw [zR (x' := ((p.length : Int), clE l x, ((p.length + (s ++ [x]).length : Nat) : Int), p ++ (s ++ [x]) ++ r)) (by
              have e2 : p ++ (s ++ [x]) ++ r = p ++ s ++ x :: r := by simp
              have e3 : p.length + (s ++ [x]).length = p.length + s.length + 1 := by simp; omega
              rw [e2, e3]
              simp only [yG, z4, hd, hd2, Bool.and_self, cond_true, hi, zA, zFZ hcv hl, h0, hk, decide_false, cond_false, s1, a1, zFN hs, hf, Bool.not_false, Sum.elim_inr, zT (k := p.length + s.length) (by omega)])]
            have := mL1 r p (s ++ [x]) (clE l x) (by simp; omega)
            rw [show max h (clE l x) = clE l x by omega]
            exact this
          | true =>
            rw [if_pos rfl]
            have sc1 : ∃ q, slc (p ++ s ++ x :: r) ((p.length + 1 : Nat) : Int) ((p.length + s.length + 1 : Nat) : Int) = some q := ⟨_, zNW (by omega) (by simp; omega)⟩
            have sc2 : ∃ q, slc (p ++ s ++ x :: r) (p.length : Int) ((p.length + s.length : Nat) : Int) = some q := ⟨_, zNW (by omega) (by simp)⟩
            obtain ⟨q1, hq1⟩ := sc1
            obtain ⟨q2, hq2⟩ := sc2
            have hcp := z5I (p := p) (s := s) (r := r) (x := x)
            obtain ⟨_, _, hlt⟩ := zFS hcp
            have hix : ∃ q, kJ (cpM (p ++ s ++ x :: r) ((p.length + 1 : Nat) : Int) ((p.length + s.length + 1 : Nat) : Int) (p.length : Int) ((p.length + s.length : Nat) : Int)) (p.length : Int) = some q := ⟨_, yA (by simpa using hlt)⟩
            obtain ⟨q3, hq3⟩ := hix
            rw [zR (x' := (((p ++ [x]).length : Int), h, (((p ++ [x]).length + s.length : Nat) : Int), (p ++ [x]) ++ s ++ r)) (by
              have e3 : (p ++ [x]).length + s.length = p.length + s.length + 1 := by simp; omega
              have e4 : (p ++ [x]).length = p.length + 1 := by simp
              rw [e3, e4]
              simp only [yG, z4, hd, hd2, Bool.and_self, cond_true, hi, zA, zFZ hcv hl, h0, hk, decide_false, cond_false, s1, a1, zFN hs, hf, Bool.not_true, zT (k := p.length + s.length) (by omega), zT (k := p.length) (by omega), hq1, hq2, hq3, hcp, Sum.elim_inr])]
            exact mL1 r (p ++ [x]) s h (by simp; omega)
    · have hd2 : decide (h < (zFM c l).top) = false := by rw [etop]; simpa using htop
      have hm := zM4 (fd := fun q => (zCB (kT c).Entries q).2) (cl := clE l) (x :: r) p s h (fun y => by have := z7O (l := l) y; omega)
      rw [hm]
      refine zM ?_
      simp only [yG, z4, hd, hd2, Bool.and_false, cond_false, List.append_assoc]
noncomputable def stE (c:Collation) (l:List Span) (text:List Int):Int×List Int×List Element:=if u3 (kT c).Entries text=0 then (1,text.drop 1,zR9 (kT c) (nth text 0)) else
 ((((zB0 (fun q=>(zCB (kT c).Entries q).2) (clE l) (text.drop (u3 (kT c).Entries text)) (text.take (u3 (kT c).Entries text)) [] 0).1.length:Nat):Int),(zB0 (fun q=>(zCB (kT c).Entries q).2) (clE l) (text.drop (u3 (kT c).Entries text)) (text.take (u3 (kT c).Entries text)) [] 0).2,(zCB (kT c).Entries (zB0 (fun q=>(zCB (kT c).Entries q).2) (clE l) (text.drop (u3 (kT c).Entries text)) (text.take (u3 (kT c).Entries text)) [] 0).1).1)
theorem zY6 {text:List Int} (ht:text.length≤2000) (h0:text≠[]):∃seq,j7 (zFM c l) text=some ((stE c l text).1,(stE c l text).2.2,decide (u3 (kT c).Entries text≠0),seq)∧slc seq (stE c l text).1 (seq.length:Int)=some (stE c l text).2.1:=by
 unfold j7
 rw [z5H hs ht,zA]
 have hpos:0 < text.length:=List.length_pos_iff.2 h0
 by_cases hz:u3 (kT c).Entries text=0
 have e1:decide (((u3 (kT c).Entries text:Nat):Int)=0)=true:=by simp [hz]
 have i0:kJ text (0:Int)=some (nth text 0):=kP (k:=0) hpos
 have hst:stE c l text=(1,text.drop 1,zR9 (kT c) (nth text 0)):=by unfold stE;rw [if_pos hz]
 have him:k5 (zFM c l) (nth text 0)=some (zR9 (kT c) (nth text 0)):=zQG c (nth text 0)
 rw [e1,cond_true,i0,zA,him,zA,hst]
 refine ⟨text,?_,?_⟩
 simp [hz]
 exact zP9 (l:=text) (a:=1) (by omega)
 have e1:decide (((u3 (kT c).Entries text:Nat):Int)=0)=false:=by simp;omega
 rw [e1,cond_false]
 have hle:u3 (kT c).Entries text≤text.length:=zK3 _ _
 have h1:=mL1 hs hcv hl (text.drop (u3 (kT c).Entries text)) (text.take (u3 (kT c).Entries text)) [] 0 (by simp;omega)
 have e2:(text.take (u3 (kT c).Entries text)).length=u3 (kT c).Entries text:=by simp;omega
 have e3:text.take (u3 (kT c).Entries text)++ []++text.drop (u3 (kT c).Entries text)=text:=by simp
 rw [e3,e2] at h1
 simp only [List.length_nil,Nat.add_zero] at h1
 rw [h1,zA]
 have hst:stE c l text=((((zB0 (fun q=>(zCB (kT c).Entries q).2) (clE l) (text.drop (u3 (kT c).Entries text)) (text.take (u3 (kT c).Entries text)) [] 0).1.length:Nat):Int),(zB0 (fun q=>(zCB (kT c).Entries q).2) (clE l) (text.drop (u3 (kT c).Entries text)) (text.take (u3 (kT c).Entries text)) [] 0).2,(zCB (kT c).Entries (zB0 (fun q=>(zCB (kT c).Entries q).2) (clE l) (text.drop (u3 (kT c).Entries text)) (text.take (u3 (kT c).Entries text)) [] 0).1).1):=by unfold stE;rw [if_neg hz]
 rw [hst]
 generalize zB0 (fun q=>(zCB (kT c).Entries q).2) (clE l) (text.drop (u3 (kT c).Entries text)) (text.take (u3 (kT c).Entries text)) [] 0=q
 have s1:slc (q.1++q.2) 0 ((q.1.length:Nat):Int)=some q.1:=by rw [zFJ (by simp)];simp
 simp only [s1,zA,zFN hs]
 refine ⟨q.1++q.2,?_,?_⟩
 simp [hz]
 rw [zP9 (by simp)];simp
end
end Go.M
namespace Go.M
open Go.AV
def n0:Norm:={Classes:=[{Lo:=769,Hi:=769,Value:=230},{Lo:=803,Hi:=803,Value:=220}],Decomp:=[],Excluded:={Ranges:=[]}}
def c0:Collation:={Entries:=[{Codes:=[97],Elements:=[{Primary:=7,Secondary:=1,Tertiary:=1,Variable:=false}]},{Codes:=[97,769],Elements:=[{Primary:=8,Secondary:=1,Tertiary:=1,Variable:=false}]}],Groups:=[],Base:=100,Second:=1,Third:=1}
end Go.M
namespace Go.M
open Go.AV
theorem zY7 {n:Norm} (h:DS n.Decomp) (hl:n.Decomp.length≤2000) (c:Int) (b:Bool):xL n c b=some (if syl c=true then (hdE c,true) else ((fnB n.Decomp b c).getD [],(fnB n.Decomp b c).isSome)):=by
 unfold xL
 rw [zFW,zA]
 by_cases hs:syl c=true
 have e:decide (4≤hkE c)=true:=by simpa using (zEK c).1 hs
 simp only [e,cond_true,zTB hs,zA,hs,if_true]
 have e:decide (4≤hkE c)=false:=by simp only [decide_eq_false_iff_not];exact fun hh=>hs ((zEK c).2 hh)
 simp only [Bool.not_eq_true] at hs
 simp only [e,cond_false,hs,Bool.false_eq_true,if_false]
 obtain ⟨i,hb,hp⟩:=zTE h hl c
 rw [hb]
 simp only [zA,z4]
 unfold fnB
 cases hf:n.Decomp.find? (isF c) with
 | none=>simp [zHK]
 | some m=>
  obtain ⟨h1,h2⟩:=hp m hf
  simp only [Option.isSome_some,Bool.not_true,Bool.not_false,zEH,kP h1,h2,zA,Bool.false_or]
  cases b <;> cases hm:(m.Tag== []) <;> simp [hm]
section
variable {n:Norm} {b:Bool} (hd:DS n.Decomp) (hl:n.Decomp.length≤2000) (hD:∀c,DD n.Decomp n.Decomp.length c) (hw:∀c,(fu n.Decomp b c).length≤64)
def XOk (l:List Mapping) (b:Bool) (m:List (Int×List Int)):Prop:= ∀k v,mget m k=some v→v=fu l b k
def zTQ (l:List Mapping) (f:Nat) (c:Int):Prop:=(∃k,DD l k c∧k+2≤f)∨(l.find? (isF c)=none∧syl c=false∧1≤f)
include hw in
theorem z5J {f : Nat} (ih : ∀ c m, XOk n.Decomp b m → zTQ n.Decomp f c → ∃ m', yJ f c m n b = some (fu n.Decomp b c, m') ∧ XOk n.Decomp b m') (L : List Int) (hL : L.length ≤ 2000) (hn : ∀ e ∈ L, zTQ n.Decomp f e) :
    ∀ (d i : Nat) (acc : List Int) (m : List (Int × List Int)), L.length - i = d → i ≤ L.length → acc.length ≤ 64 * i → XOk n.Decomp b m →
      ∃ m', zD (fun (x : Int × (List Int) × (List (Int × (List Int)))) => kD (L, true) (yJ f) n b x.1 x.2.1 x.2.2) ((i : Int), acc, m) = some (acc ++ (L.drop i).flatMap (fu n.Decomp b), m') ∧ XOk n.Decomp b m' := by
  intro d
  induction d with
  | zero =>
    intro i acc m h1 h2 h3 h4
    refine ⟨m, ?_, h4⟩
    refine zM ?_
    rw [List.drop_of_length_le (show L.length ≤ i by omega)]
    simp only [kD, jR (show L.length ≤ i by omega), cond_false, List.flatMap_nil, List.append_nil]
  | succ d ihd =>
    intro i acc m h1 h2 h3 h4
    have hi : i < L.length := by omega
    obtain ⟨m1, hr, r1⟩ := ih L[i] m h4 (hn _ (List.getElem_mem hi))
    have hw1 := hw L[i]
    have ha : app acc (fu n.Decomp b L[i]) = some (acc ++ fu n.Decomp b L[i]) := u2 (by omega)
    rw [zR (x' := (((i + 1 : Nat) : Int), acc ++ fu n.Decomp b L[i], m1)) (by
      simp only [kD, jG hi, cond_true, yA hi, zA, hr, ha, zT (k := i) (by omega)])]
    obtain ⟨m2, hq, q1⟩ := ihd (i + 1) (acc ++ fu n.Decomp b L[i]) m1 (by omega) (by omega) (by rw [List.length_append]; omega) r1
    refine ⟨m2, ?_, q1⟩
    rw [hq, List.drop_eq_getElem_cons hi, List.flatMap_cons, List.append_assoc]
include hd hl hD hw in
theorem z7Q:∀(f:Nat) (c:Int) (m:List (Int×List Int)),XOk n.Decomp b m→zTQ n.Decomp f c→∃m',yJ f c m n b=some (fu n.Decomp b c,m')∧XOk n.Decomp b m':=by
 intro f
 induction f with
 | zero=>intro c m _ hn;exfalso;rcases hn with ⟨k,_,h⟩ | ⟨_,_,h⟩ <;> omega
 | succ f ih=>
  intro c m hm hn
  show ∃m',jT (yJ f) c m n b=some _∧_
  unfold jT
  cases hh:uG m c with
  | true=>
   obtain ⟨v,hv⟩:=Option.isSome_iff_exists.1 hh
   have hg:wQ m c []=v:=by unfold wQ;rw [hv];rfl
   rw [cond_true,hg,hm c v hv]
   exact ⟨m,rfl,hm⟩
  | false=>
   rw [cond_false,zY7 hd hl,zA]
   have fin:∀(L:List Int),L.length≤2000→(∀e∈L,zTQ n.Decomp f e)→L.flatMap (fu n.Decomp b)=fu n.Decomp b c→∃m',(cond (!((L,true):List Int×Bool).2) (some ([c],m)) ((zD (fun (x:Int×(List Int)×(List (Int×(List Int))))=>kD (L,true) (yJ f) n b x.1 x.2.1 x.2.2) (0,[],m)).bind fun (y1:(List Int)×(List (Int×(List Int))))=>some (y1.1,wT y1.2 c y1.1)))=some (fu n.Decomp b c,m')∧XOk n.Decomp b m':=by
    intro L hL hne hfl
    obtain ⟨m1,hq,q1⟩:=z5J hw ih L hL hne L.length 0 [] m (by omega) (by omega) (by simp) hm
    rw [List.drop_zero,List.nil_append,hfl] at hq
    have hq':zD (fun (x:Int×(List Int)×(List (Int×(List Int))))=>kD (L,true) (yJ f) n b x.1 x.2.1 x.2.2) (0,[],m)=some (fu n.Decomp b c,m1):=hq
    simp only [Bool.not_true,cond_false]
    rw [hq']
    refine ⟨wT m1 c (fu n.Decomp b c),rfl,fun k v hk=>?_⟩
    rw [jQ] at hk
    split at hk
    rename_i hx;cases hk;rw [hx]
    exact q1 k v hk
   cases hs:syl c with
   | true=>
    simp only [if_true]
    have hnone:=zQS hd hs
    have hpt:∀e∈hdE c,n.Decomp.find? (isF e)=none∧syl e=false:=by
     intro e he
     obtain ⟨p1,p2⟩:=zKZ hs he
     refine ⟨?_,p1⟩
     cases hf2:n.Decomp.find? (isF e) with
     | none=>rfl
     | some m=>obtain ⟨q1,rfl⟩:=zCD hf2;exact absurd (hd.hk m q1) p2
    refine fin (hdE c) (by have:=zIA c;omega) (fun e he=>?_) ?_
    obtain ⟨p1,p2⟩:=hpt e he
    refine .inr ⟨p1,p2,?_⟩
    rcases hn with ⟨k,_,h⟩ | ⟨_,h,_⟩
    omega
    rw [hs] at h;cases h
    have h1:fu n.Decomp b c=hdE c:=by rw [zTL hD,zCW hnone]
    rw [h1]
    have:∀L:List Int,(∀e∈L,n.Decomp.find? (isF e)=none∧syl e=false)→L.flatMap (fu n.Decomp b)=L:=by
     intro L
     induction L with
     | nil=>intro _;rfl
     | cons x L ihL=>
      intro h
      obtain ⟨p1,p2⟩:=h x (by simp)
      have hx:fu n.Decomp b x= [x]:=by rw [zTL hD,zCW p1];show hdE x= [x];unfold hdE;rw [if_neg (by simp [p2])]
      rw [List.flatMap_cons,hx,ihL fun e he=>h e (by simp [he])]
      rfl
    exact this _ hpt
   | false=>
    simp only [Bool.false_eq_true,if_false]
    cases hf:fnB n.Decomp b c with
    | none=>
     simp only [Option.getD_none,Option.isSome_none,Bool.not_false,cond_true]
     refine ⟨m,?_,hm⟩
     rw [zTL hD,hf]
     have:hdE c= [c]:=by unfold hdE;rw [if_neg (by simp [hs])]
     simp only [this]
    | some to=>
     simp only [Option.getD_some,Option.isSome_some]
     obtain ⟨mm,h1,rfl,_⟩:=zFL hf
     obtain ⟨h2,_⟩:=zCD h1
     refine fin mm.To (hd.len mm h2) (fun e he=>?_) (by rw [zTL hD c,hf])
     rcases hn with ⟨k,hk,h⟩ | ⟨h,_,_⟩
     cases k with
     | zero=>have:n.Decomp.find? (isF c)=none:=hk;rw [this] at h1;cases h1
     | succ k=>exact .inl ⟨k,hk mm h1 e he,by omega⟩
     rw [h] at h1;cases h1
end
noncomputable def usN (n:Norm):Norm:=open Classical in if VD0 n then n else {Classes:=[],Decomp:=[],Excluded:={Ranges:=[]}}
structure GN (n:Norm):Prop where
 ds:DS n.Decomp
 cv:CV n.Classes
 H:∀m∈n.Decomp,WW n.Decomp m.From
 w:∀m∈n.Decomp,wt n.Decomp true m.From≤64
 cl:n.Classes.length≤40
 de:n.Decomp.length≤40
 ok:∀x∈n.Classes,okSpan x
theorem zY8 {n:Norm} (hs:NSm n) (hok:zDG n):GN (usN n):=by
 unfold usN
 split
 rename_i h
 obtain ⟨h1,h2⟩:=(z5D h.ds (by have:=hs.de;omega)).1 h.ms
 exact ⟨h.ds,h.cv,h1,h2,hs.cl,hs.de,hok.1.2⟩
 exact ⟨⟨fun k hk=>(by cases hk),fun m hm=>(by cases hm),fun m hm=>(by cases hm)⟩,zY2,fun m hm=>(by cases hm),fun m hm=>(by cases hm),by simp,by simp,fun x hx=>by cases hx⟩
theorem GN.dd {n:Norm} (h:GN n):∀c,DD n.Decomp n.Decomp.length c:=zN3 h.ds h.H
theorem GN.len {n:Norm} (h:GN n) (b:Bool) (c:Int):(fu n.Decomp b c).length≤64:=z5C h.ds (z5E h.ds h.H h.w) b c
theorem GN.ex {n:Norm} (h:GN n) {b:Bool} (c:Int) (m:List (Int×List Int)) (hm:XOk n.Decomp b m):∃m',yJ 100 c m n b=some (fu n.Decomp b c,m')∧XOk n.Decomp b m':=
 z7Q h.ds (by have:=h.de;omega) h.dd (h.len b) 100 c m hm (.inl ⟨_,h.dd c,by have:=h.de;omega⟩)
theorem z14 {n:Norm} (hs:NSm n) (hok:zDG n):wF n=some (usN n):=by
 obtain ⟨e,he,hv⟩:=zYW hs hok
 unfold wF usN
 rw [he,zA]
 by_cases hz:e=0
 rw [if_pos (hv.1 hz)];simp [hz]
 rw [if_neg (fun h=>hz (hv.2 h))];simp [hz]
theorem zVM {n : Norm} (h : GN n) {b : Bool} {text : List Int} (ht : text.length ≤ 2000) : ∀ (d i : Nat) (acc : List Int) (m : List (Int × List Int)), text.length - i = d → i ≤ text.length → acc.length ≤ 64 * i → XOk n.Decomp b m →
    zD (fun (x : Int × (List Int) × (List (Int × (List Int)))) => k8 text n b x.1 x.2.1 x.2.2) ((i : Int), acc, m) = some (acc ++ (text.drop i).flatMap (fu n.Decomp b)) := by
  intro d
  induction d with
  | zero =>
    intro i acc m h1 h2 h3 h4
    refine zM ?_
    rw [List.drop_of_length_le (show text.length ≤ i by omega)]
    simp only [k8, jR (show text.length ≤ i by omega), cond_false, List.flatMap_nil, List.append_nil]
  | succ d ih =>
    intro i acc m h1 h2 h3 h4
    have hi : i < text.length := by omega
    obtain ⟨m1, hr, r1⟩ := h.ex (b := b) text[i] m h4
    have hw1 := h.len b text[i]
    have ha : app acc (fu n.Decomp b text[i]) = some (acc ++ fu n.Decomp b text[i]) := u2 (by omega)
    rw [zR (x' := (((i + 1 : Nat) : Int), acc ++ fu n.Decomp b text[i], m1)) (by
      simp only [k8, jG hi, cond_true, yA hi, zA, hr, ha, zT (k := i) (by omega)])]
    rw [ih (i + 1) (acc ++ fu n.Decomp b text[i]) m1 (by omega) (by omega) (by rw [List.length_append]; omega) r1, List.drop_eq_getElem_cons hi, List.flatMap_cons, List.append_assoc]
noncomputable def zGK (n:Norm) (b:Bool) (text:List Int):List Int:=text.flatMap (fu (usN n).Decomp b)
theorem z15 {n:Norm} (hs:NSm n) (hok:zDG n) {text:List Int} (ht:text.length≤2000) (b:Bool):jU n text b=vI (usN n).Classes (zGK n b text):=by
 have h:=zY8 hs hok
 unfold jU uD
 have hu:wF {Classes:=n.Classes,Decomp:=n.Decomp,Excluded:={Ranges:=n.Excluded.Ranges}}=some (usN n):=z14 hs hok
 have hlp:=zVM h (b:=b) ht text.length 0 [] [] (by omega) (by omega) (by simp) (fun k v h=>by cases h)
 rw [List.drop_zero,List.nil_append] at hlp
 have hlp':zD (fun (x:Int×(List Int)×(List (Int×(List Int))))=>k8 text (usN n) b x.1 x.2.1 x.2.2) (0,[],[])=some (zGK n b text):=hlp
 rw [hu,zA,zA,hlp',zA]
 cases vI (usN n).Classes (zGK n b text) <;> rfl
end Go.M
namespace Go.M
open Go.AV
section
variable (key:Int→Int)
def ltK (a b:Int):Bool:=decide (key a < key b)
def ltC (a b:Int):Bool:=decide (0 < key a)&&decide (key a < key b)
def srt (l:List Int):List Int:=wS (ltK key) l []
def csE (l:List Int):List Int:=wS (ltC key) l []
def rsE:List Int→List Int→List Int
 | [],run=>srt key run
 | x::t,run=>if key x=0 then srt key run++x::rsE t [] else rsE t (run++ [x])
end
section
variable {key:Int→Int}
theorem zY9 (l:List Int) (x:Int):srt key (l++ [x])=vK (ltK key) (srt key l).reverse x []:=by
 unfold srt wS
 rw [List.foldl_append]
 rfl
theorem zTS (l:List Int):Flt key l (srt key l):=by
 have:=zFY (key:=key) l []
 exact this
theorem zTT (l:List Int):(srt key l).length=l.length:=(zTS l).len.symm
theorem zTU {x:Int} (hx:0 < key x):∀(r q s:List Int),(∀y,q.head? =some y→key y=0)→vK (ltC key) (r++q) x s=q.reverse++vK (ltK key) r x s
 | [],q,s,hq=>by
  cases q with
  | nil=>rfl
  | cons y q=>
   have:ltC key x y=false:=by unfold ltC;rw [hq y rfl];simp;omega
   show vK (ltC key) (y::q) x s=_
   simp only [vK,this,Bool.false_eq_true,if_false]
 | y::r,q,s,hq=>by
  have e:ltC key x y=ltK key x y:=by unfold ltC ltK;simp [hx]
  show vK (ltC key) (y::(r++q)) x s=q.reverse++vK (ltK key) (y::r) x s
  simp only [vK,e]
  cases ltK key x y with
  | true=>simp only [if_true];exact zTU hx r q (y::s) hq
  | false=>simp
theorem zZA (hnn : ∀ x, 0 ≤ key x) : ∀ (t run p : List Int), (∀ y, p.reverse.head? = some y → key y = 0) → wS (ltC key) t (p ++ srt key run) = p ++ rsE key t run
  | [], run, p, _ => rfl
  | x :: t, run, p, hp => by
    show wS (ltC key) t (vK (ltC key) (p ++ srt key run).reverse x []) = p ++ rsE key (x :: t) run
    by_cases h0 : key x = 0
    · have e : ∀ r : List Int, vK (ltC key) r x [] = r.reverse ++ [x] := by
        intro r
        cases r with
        | nil => rfl
        | cons y r =>
          have : ltC key x y = false := by unfold ltC; rw [h0]; simp
          simp [vK, this]
      have ih := zZA hnn t [] (p ++ srt key run ++ [x]) (fun y hy => by simp at hy; rw [← hy]; exact h0)
      have e2 : srt key [] = [] := rfl
      rw [e2, List.append_nil] at ih
      rw [e, List.reverse_reverse, ih]
      simp [rsE, h0]
    · have hx : 0 < key x := by have := hnn x; omega
      rw [List.reverse_append, zTU hx _ _ _ hp, List.reverse_reverse, ← zY9, zZA hnn t (run ++ [x]) p hp]
      simp [rsE, h0]
theorem z5L (hnn:∀x,0≤key x) (t:List Int):csE key t=rsE key t []:=by
 have:=zZA hnn t [] [] (fun y hy=>by cases hy)
 exact this
theorem zZB (t:List Int):(csE key t).Perm t:=by
 have:=zEI (ltC key) t []
 rw [List.nil_append] at this
 exact this
theorem z16 (t:List Int):(csE key t).length=t.length:=(zZB t).length_eq
theorem zQY {f:List Int→Option (List Int)} {P run T r:List Int} (hpos:0 < run.length) (hf:f run=some r):zEQ f (P++run++T) (P.length:Int) ((P.length+run.length:Nat):Int)=some (P++r++T):=by
 unfold zEQ
 have a1:((P.length:Int)).toNat=P.length:=by simp
 have a2:(((P.length+run.length:Nat):Int)).toNat=P.length+run.length:=by omega
 rw [a1,a2,if_pos ⟨by omega,by omega,by rw [List.length_append,List.length_append];omega⟩]
 have e1:((P++run++T).drop P.length).take (P.length+run.length - P.length)=run:=by
  rw [List.append_assoc,List.drop_left,show P.length+run.length - P.length=run.length by omega,List.take_left]
 have d1:(P++run++T).take P.length=P:=by rw [List.append_assoc,List.take_left]
 have d2:(P++run++T).drop (P.length+run.length)=T:=by rw [←List.length_append,List.drop_left]
 rw [e1,d1,d2,hf]
 rfl
theorem zTV {f : List Int → Option (List Int)} {st : Int → Bool} (hst : ∀ x, st x = decide (key x = 0)) (hf : ∀ l, l.length ≤ 2000 → f l = some (srt key l)) : ∀ (t run P : List Int) (s : Int), P.length + run.length + t.length ≤ 2000 → (run = [] ∧ s = -1 ∨ run ≠ [] ∧ s = (P.length : Int)) →
    wM f Range.Lo Range.Hi (P ++ run ++ t) (k9 st t ((P.length + run.length : Nat) : Int) s) = some (P ++ rsE key t run)
  | [], run, P, s, hl, hs => by
    rcases hs with ⟨rfl, rfl⟩ | ⟨hne, rfl⟩
    · simp only [k9, show ¬ (0 : Int) ≤ -1 by decide, if_false]
      show some (P ++ [] ++ []) = some (P ++ [])
      simp
    · have h0 : (0 : Int) ≤ (P.length : Int) := by omega
      simp only [k9, h0, if_true]
      have hpos : 0 < run.length := List.length_pos_iff.2 hne
      show (some (P ++ run ++ [])).bind (fun l => zEQ f l (P.length : Int) ((P.length + run.length : Nat) : Int)) = _
      rw [zA, zQY hpos (hf run (by simp at hl; omega))]
      simp [rsE]
  | x :: t, run, P, s, hl, hs => by
    have hl' : P.length + run.length + t.length + 1 ≤ 2000 := by simp only [List.length_cons] at hl; omega
    by_cases h0 : key x = 0
    · have hsx : st x = true := by rw [hst]; simp [h0]
      rcases hs with ⟨rfl, rfl⟩ | ⟨hne, rfl⟩
      · have e : k9 st (x :: t) ((P.length + ([] : List Int).length : Nat) : Int) (-1) = k9 st t (((P ++ [x]).length + ([] : List Int).length : Nat) : Int) (-1) := by
          simp only [k9, hsx]
          simp
        have ih := zTV hst hf t [] (P ++ [x]) (-1) (by simp only [List.length_append, List.length_singleton, List.length_nil]; simp at hl'; omega) (.inl ⟨rfl, rfl⟩)
        rw [e, show P ++ [] ++ x :: t = P ++ [x] ++ [] ++ t by simp, ih]
        have e2 : srt key [] = [] := rfl
        simp [rsE, h0, e2]
      · have h00 : (0 : Int) ≤ (P.length : Int) := by omega
        have hpos : 0 < run.length := List.length_pos_iff.2 hne
        have e : k9 st (x :: t) ((P.length + run.length : Nat) : Int) (P.length : Int) = { Lo := (P.length : Int), Hi := ((P.length + run.length : Nat) : Int) } :: k9 st t (((P ++ srt key run ++ [x]).length + ([] : List Int).length : Nat) : Int) (-1) := by
          have e3 : (((P ++ srt key run ++ [x]).length + ([] : List Int).length : Nat) : Int) = ((P.length + run.length : Nat) : Int) + 1 := by simp [zTT]; omega
          rw [e3]
          simp only [k9, hsx, Bool.not_true, Bool.false_and, Bool.false_eq_true, if_false, Bool.true_and, h00, decide_true, if_true]
        have ih := zTV hst hf t [] (P ++ srt key run ++ [x]) (-1) (by simp [zTT]; omega) (.inl ⟨rfl, rfl⟩)
        have e4 : zEQ f (P ++ run ++ x :: t) (P.length : Int) ((P.length + run.length : Nat) : Int) = some (P ++ srt key run ++ [x] ++ [] ++ t) := by
          rw [zQY hpos (hf run (by omega))]
          simp
        have e5 : wM f Range.Lo Range.Hi (P ++ run ++ x :: t) ({ Lo := (P.length : Int), Hi := ((P.length + run.length : Nat) : Int) } :: k9 st t (((P ++ srt key run ++ [x]).length + ([] : List Int).length : Nat) : Int) (-1)) = wM f Range.Lo Range.Hi (P ++ srt key run ++ [x] ++ [] ++ t) (k9 st t (((P ++ srt key run ++ [x]).length + ([] : List Int).length : Nat) : Int) (-1)) := by
          unfold wM
          rw [List.foldl_cons, zA, e4]
        rw [e, e5, ih]
        simp [rsE, h0]
    · have hsx : st x = false := by rw [hst]; simp [h0]
      have e : k9 st (x :: t) ((P.length + run.length : Nat) : Int) s = k9 st t ((P.length + (run ++ [x]).length : Nat) : Int) (P.length : Int) := by
        have e3 : ((P.length + (run ++ [x]).length : Nat) : Int) = ((P.length + run.length : Nat) : Int) + 1 := by simp; omega
        rw [e3]
        rcases hs with ⟨rfl, rfl⟩ | ⟨hne, rfl⟩
        · simp [k9, hsx]
        · have : ¬ ((P.length : Int) < 0) := by omega
          simp only [k9, hsx, Bool.not_false, Bool.true_and, this, decide_false, Bool.false_eq_true, if_false, Bool.false_and]
      have ih := zTV hst hf t (run ++ [x]) P (P.length : Int) (by simp; omega) (.inr ⟨by simp, rfl⟩)
      rw [e, show P ++ run ++ x :: t = P ++ (run ++ [x]) ++ t by simp, ih]
      simp [rsE, h0]
end
theorem zZC {l:List Span} (h:CV l) (hl:l.length≤2000) (x y:Int):jY x y l=some (sg (clE l x) (clE l y)):=by
 unfold jY
 simp only [zCV h hl,zA,zVG]
 unfold sg
 rfl
theorem z5M {l:List Span} (h:CV l) (hl:l.length≤2000) (hok:∀x∈l,okSpan x) {text:List Int} (ht:text.length≤2000):vI l text=some (csE (clE l) text):=by
 have hnn:∀x,0≤clE l x:=z7P h
 unfold vI w9
 have hst:∀x,(yV l x==some 0)=decide (clE l x=0):=fun x=>by rw [zCV h hl];by_cases hx:clE l x=0 <;> simp [hx]
 rw [zM0 hl hok h,zA,z84 ht,zA,zQQ h hl ht hst rfl,zA]
 have:=zTV (key:=clE l) (f:=fun p=>yS p (fun x0 x1=>jY x0 x1 l)) (st:=fun c=>yV l c==some 0) hst (fun p hp=>by
  obtain ⟨r,r1,r2,r3⟩:=zVL (key:=clE l) (f:=fun x0 x1=>jY x0 x1 l) (fun x y=>zZC h hl x y) p hp
  rw [r1]
  have:=zQW (key:=clE l) r2 (zID (key:=clE l) p) (r3.symm.trans (zTS p))
  rw [this]
  rfl) text [] [] (-1) (by simpa using ht) (.inl ⟨rfl,rfl⟩)
 rw [z5L hnn]
 exact this
noncomputable def zGY (n:Norm) (b:Bool) (text:List Int):List Int:=csE (clE (usN n).Classes) (zGK n b text)
theorem zQZ (n:Norm) (b:Bool) (text:List Int):(zGY n b text).length=(zGK n b text).length:=z16 _
theorem zQ0 {n:Norm} (hs:NSm n) (hok:zDG n) {text:List Int} {b:Bool} (ht:text.length≤2000) (hf:(zGK n b text).length≤2000):jU n text b=some (zGY n b text):=by
 have h:=zY8 hs hok
 rw [z15 hs hok ht,z5M h.cv (by have:=h.cl;omega) h.ok hf]
 rfl
end Go.M
namespace Go.M
open Go.AV
noncomputable def wkE (c:Collation) (l:List Span):Nat→List Int→List Element×Bool
 | 0,_=>([],true)
 | k+1,text=>if text= [] then ([],true) else ((stE c l text).2.2++(wkE c l k (stE c l text).2.1).1,decide (u3 (kT c).Entries text≠0)&&(wkE c l k (stE c l text).2.1).2)
theorem z5N {c:Collation} {l:List Span} {text:List Int} (h0:text≠[]):1≤(stE c l text).1∧(stE c l text).1+((stE c l text).2.1.length:Int)=(text.length:Int):=by
 have hpos:0 < text.length:=List.length_pos_iff.2 h0
 unfold stE
 split
 refine ⟨by simp,?_⟩
 show (1:Int)+((text.drop 1).length:Int)=_
 rw [List.length_drop];omega
 rename_i hz
 have hle:u3 (kT c).Entries text≤text.length:=zK3 _ _
 have hinv:=zK4 (fd:=fun q=>(zCB (kT c).Entries q).2) (cl:=clE l) (text.drop (u3 (kT c).Entries text)) (text.take (u3 (kT c).Entries text)) [] 0
 generalize zB0 (fun q=>(zCB (kT c).Entries q).2) (clE l) (text.drop (u3 (kT c).Entries text)) (text.take (u3 (kT c).Entries text)) [] 0=q at*
 obtain ⟨i1,i2,_⟩:=hinv
 rw [List.length_take,Nat.min_eq_left hle] at i1 i2
 rw [List.length_drop] at i2
 simp only [List.length_nil] at i2
 constructor
 show (1:Int)≤(q.1.length:Int);omega
 show (q.1.length:Int)+(q.2.length:Int)=_;omega
theorem zTW {c:Collation} {l:List Span} {text:List Int} (h0:text≠[]):(stE c l text).2.1.length < text.length:=by
 have:=z5N (c:=c) (l:=l) h0
 omega
theorem z3I {c:Collation} (hs:Sm c) {l:List Span} (text:List Int):(stE c l text).2.2.length≤2000:=by
 unfold stE
 split
 exact z1M _ _
 exact z1L (zYI hs) _
theorem zTX {c:Collation} {l:List Span}:∀(k j:Nat) (text:List Int),text.length≤k→text.length≤j→wkE c l k text=wkE c l j text
 | 0,j,text,h,_=>by
  have:text= []:=List.eq_nil_of_length_eq_zero (by omega)
  subst this
  cases j with
  | zero=>rfl
  | succ j=>simp [wkE]
 | k+1,j,text,h,hj=>by
  by_cases h0:text= []
  subst h0
  cases j <;> simp [wkE]
  have hpos:0 < text.length:=List.length_pos_iff.2 h0
  cases j with
  | zero=>omega
  | succ j=>
   have hlt:=zTW (c:=c) (l:=l) h0
   simp only [wkE,h0,if_false]
   rw [zTX k j _ (by omega) (by omega)]
noncomputable def wk (c:Collation) (l:List Span) (text:List Int):List Element×Bool:=wkE c l text.length text
theorem zN6 (c:Collation) (l:List Span):wk c l []=([],true):=rfl
theorem zTY {c:Collation} {l:List Span} {text:List Int} (h0:text≠[]):wk c l text=((stE c l text).2.2++(wk c l (stE c l text).2.1).1,decide (u3 (kT c).Entries text≠0)&&(wk c l (stE c l text).2.1).2):=by
 have hlt:=zTW (c:=c) (l:=l) h0
 unfold wk
 obtain ⟨k,hk⟩:∃k,text.length=k+1:=⟨text.length - 1,by have:=List.length_pos_iff.2 h0;omega⟩
 rw [hk]
 simp only [wkE,h0,if_false]
 rw [zTX k (stE c l text).2.1.length _ (by omega) (by omega)]
theorem z5O {c:Collation} (hs:Sm c) {l:List Span}:∀(k:Nat) (text:List Int),text.length≤k→(wk c l text).1.length≤2000*text.length:=by
 intro k
 induction k with
 | zero=>
  intro text h
  have:text= []:=List.eq_nil_of_length_eq_zero (by omega)
  subst this;rw [zN6];simp
 | succ k ih=>
  intro text h
  by_cases h0:text= []
  subst h0;rw [zN6];simp
  have hlt:=zTW (c:=c) (l:=l) h0
  have h1:=ih _ (show (stE c l text).2.1.length≤k by omega)
  have h2:=z3I hs (l:=l) text
  rw [zTY h0]
  show ((stE c l text).2.2++(wk c l (stE c l text).2.1).1).length≤_
  rw [List.length_append]
  omega
section
variable {c:Collation} (hs:Sm c) {l:List Span} (hcv:CV l) (hl:l.length≤2000)
include hs hcv hl
theorem z18:∀(k:Nat) (text:List Int) (acc:List Element),text.length≤k→text.length≤2000→acc.length+2000*text.length≤100000000→zD (fun (x:(List Element)×(List Int))=>k7 (zFM c l) x.1 x.2) (acc,text)=some (acc++(wk c l text).1):=by
 intro k
 induction k with
 | zero=>
  intro text acc h _ _
  have:text= []:=List.eq_nil_of_length_eq_zero (by omega)
  subst this
  refine zM ?_
  simp [k7,zN6]
 | succ k ih=>
  intro text acc h ht ha
  by_cases h0:text= []
  subst h0
  refine zM ?_
  simp [k7,zN6]
  have hpos:0 < text.length:=List.length_pos_iff.2 h0
  have hlt:=zTW (c:=c) (l:=l) h0
  have h2:=z3I hs (l:=l) text
  obtain ⟨seq,m1,m2⟩:=zY6 hs hcv hl ht h0
  have e0:decide ((0:Int) < (text.length:Int))=true:=by simp;omega
  have ea:app acc (stE c l text).2.2=some (acc++(stE c l text).2.2):=u2 (by omega)
  rw [zR (x':=(acc++(stE c l text).2.2,(stE c l text).2.1)) (by simp only [k7,e0,cond_true,m1,zA,ea,m2])]
  rw [ih _ _ (by omega) (by omega) (by rw [List.length_append];omega),zTY h0,List.append_assoc]
end
theorem zZD (n:Norm):zA6 n=(usN n).Classes:=by
 unfold zA6 usN
 split <;> rfl
section
variable {n:Norm} {c:Collation} (hn:NSm n) (hok:zDG n) (hs:Sm c) (hg:∀g∈c.Groups,g.Name.length≤MX) {text:List Int} (ht:text.length≤2000) (hf:(zGK n false text).length≤2000)
include hn hok hs hg ht hf
theorem zQ1:wP n c text=some (wk c (zA6 n) (zGY n false text)).1:=by
 unfold wP
 have hl:(zA6 n).length≤2000:=by have:=zM2 hn;omega
 have hd:(zGY n false text).length≤2000:=by rw [zQZ];exact hf
 rw [z1J hs hg,zA,z13 hn hok,zA,zQ0 hn hok ht hf,zA,z18 hs (zY3 n) hl _ _ [] (Nat.le_refl _) hd (by simp;omega)]
 rfl
end
theorem z5P {n:Norm} {c:Collation} (hs:Sm c) {text:List Int} (hd:(zGY n false text).length≤2000):(wk c (zA6 n) (zGY n false text)).1.length≤1000000000:=by
 have:=z5O hs (l:=zA6 n) _ (zGY n false text) (Nat.le_refl _)
 omega
end Go.M
namespace Go.M
open Go.AV
end Go.M
namespace Go.M
open Go.AV
end Go.M
namespace Go.M
open Go.AV
end Go.M
namespace Go.M
open Go.AV
end Go.M
namespace Go.M
open Go.AV
def pM (c:Int) (b:Bool) (k:Nat) (m:Mapping):Option Nat:=if m.From=c∧(b ||(m.Tag== []))=true then some k else none
def fi (l:List Mapping) (c:Int) (b:Bool):Option Nat:=chk (pM c b) l 0
end Go.M
namespace Go.M
open Go.AV
section
variable {l:List Mapping} (hd:DS l) (hD:∀c,DD l l.length c) {b:Bool}
def lenOf (l:List Mapping) (b:Bool) (out:List Int) (e:Int):Int:=match fi l e b with
 | some m=>nth out m
 | none=>((hdE e).length:Int)
def updL (l:List Mapping) (b:Bool) (out:List Int) (i:Nat):Int:=if (b ||((nth l i).Tag== []))=true then min (max (((nth l i).To.map (lenOf l b out)).sum) 1) 65 else 1
include hd hD
end
end Go.M
namespace Go.M
open Go.AV
end Go.M
namespace Go.M
open Go.AV
end Go.M
namespace Go.M
open Go.AV
end Go.M
namespace Go.M
open Go.AV
end Go.M
namespace Go.M
open Go.AV
end Go.M
namespace Go.M
open Go.AV
end Go.M
namespace Go.M
open Go.AV
end Go.M
namespace Go.M
open Go.AV
def ckO (o:Options):Int:=if o.Strength < 1∨4 < o.Strength then 1 else if o.Variable < 1∨3 < o.Variable then 8 else 0
def zAD (o:Options):Options:=if ckO o=0 then o else {Strength:=3,Variable:=1,Backward:=false,Identical:=false}
theorem zN7 (o:Options):jS o=some (ckO o):=by
 unfold jS ckO
 rw [z4]
 by_cases h1:o.Strength < 1∨4 < o.Strength
 have:(decide (o.Strength < 1) ||decide (4 < o.Strength))=true:=by simpa using h1
 rw [this,if_pos h1];rfl
 have:(decide (o.Strength < 1) ||decide (4 < o.Strength))=false:=by simpa using h1
 rw [this,if_neg h1,cond_false]
 by_cases v1:o.Variable=1
 simp [v1]
 by_cases v2:o.Variable=2
 simp [v2]
 by_cases v3:o.Variable=3
 simp [v3]
 rw [if_pos (by omega)]
 simp [v1,v2,v3]
theorem zQ2 (o:Options):zA4 o=some (ckO o):=by
 unfold zA4 ckO
 rw [z4,z4]
 by_cases h1:o.Strength < 1∨4 < o.Strength
 have:(decide (o.Strength < 1) ||decide (4 < o.Strength))=true:=by simpa using h1
 rw [this,if_pos h1];rfl
 have:(decide (o.Strength < 1) ||decide (4 < o.Strength))=false:=by simpa using h1
 rw [this,if_neg h1,cond_false]
 by_cases h2:o.Variable < 1∨3 < o.Variable
 have:(decide (o.Variable < 1) ||decide (3 < o.Variable))=true:=by simpa using h2
 rw [this,if_pos h2];rfl
 have:(decide (o.Variable < 1) ||decide (3 < o.Variable))=false:=by simpa using h2
 rw [this,if_neg h2];rfl
theorem zTZ (o:Options):xT o=some (zAD o):=by
 unfold xT zAD
 rw [zN7,zA]
 by_cases h:ckO o=0 <;> simp [h]
theorem zVN (o:Options):zAO o=some (zAD o):=by
 unfold zAO zAD
 rw [zQ2,zA]
 by_cases h:ckO o=0 <;> simp [h]
theorem zSG (o:Options):ckO (zAD o)=0:=by
 unfold zAD
 split
 assumption
 rfl
theorem z7S {o:Options} (h:ckO o=0):zAD o=o:=by unfold zAD;rw [if_pos h]
theorem z7T {o:Options} (h:ckO o=0):1≤o.Strength∧o.Strength≤4∧1≤o.Variable∧o.Variable≤3:=by
 unfold ckO at h
 split at h
 cases h
 split at h
 cases h
 omega
def nz (x:Int):List Int:=if x=0 then [] else [x]
def col:Nat→A4Int→Int
 | 0,w=>w.x0
 | 1,w=>w.x1
 | 2,w=>w.x2
 | _,w=>w.x3
def row (k:Nat) (L:List A4Int):List Int:=L.flatMap fun w=>nz (col k w)
def zK5 (f:Bool) (e:Element):Bool:=if e.Variable=true∨e.Primary≠0 then e.Variable else f
def zM6 (e:Element):Prop:=e.Primary=0∧e.Secondary=0∧e.Tertiary=0
instance (e:Element):Decidable (zM6 e):=by unfold zM6;infer_instance
def tr1 (v:Int) (f:Bool) (e:Element):A4Int:=
 if v=1 then {x0:=e.Primary,x1:=e.Secondary,x2:=e.Tertiary,x3:=if zM6 e then 0 else 65535}
 else if zK5 f e=true then {x0:=0,x1:=0,x2:=0,x3:=if v=3∧e.Variable=true then e.Primary else 0}
 else {x0:=e.Primary,x1:=e.Secondary,x2:=e.Tertiary,x3:=if v=3∧¬zM6 e then 65535 else 0}
def trL (v:Int):Bool→List Element→List A4Int
 | _,[]=>[]
 | f,e::l=>tr1 v f e::trL v (zK5 f e) l
theorem zJJ (v:Int):∀(l:List Element) (f:Bool),(trL v f l).length=l.length
 | [],_=>rfl
 | e::l,f=>by simp [trL,zJJ v l]
theorem zZF {v:Int} (hv:1≤v∧v≤3) (e:Element) (f:Bool):xW e v f=some (tr1 v f e,if v=1 then f else zK5 f e):=by
 obtain ⟨p,s,t,va⟩:=e
 unfold xW tr1 zK5 zM6
 rcases (by omega:v=1∨v=2∨v=3) with rfl | rfl | rfl <;> cases va <;> cases f <;> by_cases hp:p=0 <;> by_cases hs:s=0 <;> by_cases ht:t=0 <;> simp [hp,hs,ht]
theorem z7U (f g:Bool) (e:Element):tr1 1 f e=tr1 1 g e:=rfl
theorem z3J:∀(l:List Element) (f g:Bool),trL 1 f l=trL 1 g l
 | [],_,_=>rfl
 | e::l,f,g=>by
  show tr1 1 f e::trL 1 _ l=tr1 1 g e::trL 1 _ l
  rw [z7U f g,z3J l (zK5 f e) (zK5 g e)]
theorem zSH (x:Int):(nz x).length≤1:=by unfold nz;split <;> simp
theorem zK6 {r:List Int} {x:Int} (h:r.length+1≤4294967296):(cond (!decide (x=0)) ((app r [x]).bind fun q=>some q) (some r))=some (r++nz x):=by
 unfold nz
 by_cases hx:x=0
 simp [hx]
 simp only [hx,decide_false,Bool.not_false,cond_true,if_false]
 rw [u2 (by simpa using h)];rfl
theorem wl1 (t : A4Int × Bool) {r0 r1 r2 r3 : List Int} {n : Nat} (hn : n + 1 ≤ 4294967296) (h0 : r0.length ≤ n) (h1 : r1.length ≤ n) (h2 : r2.length ≤ n) (h3 : r3.length ≤ n) :
    zD (fun (x : Int × (List Int) × (List Int) × (List Int) × (List Int)) => kV t x.1 x.2.1 x.2.2.1 x.2.2.2.1 x.2.2.2.2) (0, r0, r1, r2, r3) = some (r0 ++ nz t.1.x0, r1 ++ nz t.1.x1, r2 ++ nz t.1.x2, r3 ++ nz t.1.x3) := by
  have i0 : kJ [t.1.x0, t.1.x1, t.1.x2, t.1.x3] (0 : Int) = some t.1.x0 := rfl
  have i1 : kJ [t.1.x0, t.1.x1, t.1.x2, t.1.x3] (1 : Int) = some t.1.x1 := rfl
  have i2 : kJ [t.1.x0, t.1.x1, t.1.x2, t.1.x3] (2 : Int) = some t.1.x2 := rfl
  have i3 : kJ [t.1.x0, t.1.x1, t.1.x2, t.1.x3] (3 : Int) = some t.1.x3 := rfl
  rw [zR (x' := (1, r0 ++ nz t.1.x0, r1, r2, r3)) (by
    simp only [kV, i0, zA, zK6 (x := t.1.x0) (show r0.length + 1 ≤ 4294967296 by omega)]; rfl)]
  rw [zR (x' := (2, r0 ++ nz t.1.x0, r1 ++ nz t.1.x1, r2, r3)) (by
    simp only [kV, i1, zA, zK6 (x := t.1.x1) (show r1.length + 1 ≤ 4294967296 by omega)]; rfl)]
  rw [zR (x' := (3, r0 ++ nz t.1.x0, r1 ++ nz t.1.x1, r2 ++ nz t.1.x2, r3)) (by
    simp only [kV, i2, zA, zK6 (x := t.1.x2) (show r2.length + 1 ≤ 4294967296 by omega)]; rfl)]
  rw [zR (x' := (4, r0 ++ nz t.1.x0, r1 ++ nz t.1.x1, r2 ++ nz t.1.x2, r3 ++ nz t.1.x3)) (by
    simp only [kV, i3, zA, zK6 (x := t.1.x3) (show r3.length + 1 ≤ 4294967296 by omega)]; rfl)]
  exact zM (by simp only [kV]; rfl)
theorem wl0 {l : List Element} {o : Options} (hv : 1 ≤ o.Variable ∧ o.Variable ≤ 3) (hl : l.length ≤ 4000000000) : ∀ (m k : Nat) (f : Bool) (r0 r1 r2 r3 : List Int), k + m = l.length → r0.length ≤ k → r1.length ≤ k → r2.length ≤ k → r3.length ≤ k →
    zD (fun (x : Int × Bool × (List Int) × (List Int) × (List Int) × (List Int)) => xF l o x.1 x.2.1 x.2.2.1 x.2.2.2.1 x.2.2.2.2.1 x.2.2.2.2.2) ((k : Int), f, r0, r1, r2, r3) =
      some (r0 ++ row 0 (trL o.Variable f (l.drop k)), r1 ++ row 1 (trL o.Variable f (l.drop k)), r2 ++ row 2 (trL o.Variable f (l.drop k)), r3 ++ row 3 (trL o.Variable f (l.drop k)))
  | 0, k, f, r0, r1, r2, r3, h, _, _, _, _ => by
    rw [List.drop_of_length_le (by omega)]
    refine zM ?_
    simp only [xF, jR (show l.length ≤ k by omega), cond_false, trL, row, List.flatMap_nil, List.append_nil]
  | m + 1, k, f, r0, r1, r2, r3, h, h0, h1, h2, h3 => by
    have hk : k < l.length := by omega
    have q : ∀ {r : List Int} (x : Int), r.length ≤ k → (r ++ nz x).length ≤ k + 1 := fun x hr => by rw [List.length_append]; have := zSH x; omega
    rw [zR (x' := (((k + 1 : Nat) : Int), (if o.Variable = 1 then f else zK5 f l[k]), r0 ++ nz (tr1 o.Variable f l[k]).x0, r1 ++ nz (tr1 o.Variable f l[k]).x1, r2 ++ nz (tr1 o.Variable f l[k]).x2, r3 ++ nz (tr1 o.Variable f l[k]).x3)) (by
      simp only [xF, jG hk, cond_true, yA hk, zA, zZF hv, wl1 _ (n := k) (by omega) h0 h1 h2 h3, zT (k := k) (by omega)])]
    rw [wl0 hv hl m (k + 1) _ _ _ _ _ (by omega) (q _ h0) (q _ h1) (q _ h2) (q _ h3), List.drop_eq_getElem_cons hk]
    have e : trL o.Variable (if o.Variable = 1 then f else zK5 f l[k]) (l.drop (k + 1)) = trL o.Variable (zK5 f l[k]) (l.drop (k + 1)) := by
      by_cases h1 : o.Variable = 1
      · rw [h1]; exact z3J _ _ _
      · rw [if_neg h1]
    rw [e]
    simp [trL, row, col]
theorem zZG : ∀ (n : Nat) (a m b : List Int), m.length = n → a.length = b.length → a.length + m.length + b.length ≤ 9000000000000000000 →
    zD (fun (x : Int × Int × (List Int)) => kU x.1 x.2.1 x.2.2) ((a.length : Int), ((a.length + m.length : Nat) : Int) - 1, a ++ m ++ b) = some (a ++ m.reverse ++ b) := by
  intro n
  induction n using Nat.strongRecOn with
  | ind n ih =>
    intro a m b hn hab hb
    by_cases h2 : m.length ≤ 1
    · have e : decide ((a.length : Int) < ((a.length + m.length : Nat) : Int) - 1) = false := by simp; omega
      refine zM ?_
      have hr : m.reverse = m := by
        match m, h2 with
        | [], _ => rfl
        | [x], _ => rfl
      simp only [kU, e, cond_false, hr]
    · obtain ⟨x, m1, rfl⟩ := List.exists_cons_of_ne_nil (l := m) (fun e => by rw [e] at h2; simp at h2)
      have hm1 : m1 ≠ [] := fun e => by rw [e] at h2; simp at h2
      obtain ⟨m2, y, rfl⟩ : ∃ m2 y, m1 = m2 ++ [y] := ⟨m1.dropLast, m1.getLast hm1, (List.dropLast_concat_getLast hm1).symm⟩
      simp only [List.length_cons, List.length_append, List.length_nil] at hn hb h2
      have e : decide ((a.length : Int) < ((a.length + (x :: (m2 ++ [y])).length : Nat) : Int) - 1) = true := by simp; omega
      have ej : ((a.length + (x :: (m2 ++ [y])).length : Nat) : Int) - 1 = ((a.length + 1 + m2.length : Nat) : Int) := by simp; omega
      have g1 : kJ (a ++ (x :: (m2 ++ [y])) ++ b) (((a.length + 1 + m2.length : Nat) : Int)) = some y := by
        rw [yA (by simp; omega)]; congr 1
        rw [List.getElem_append_left (by simp; omega), List.getElem_append_right (by omega)]
        simp only [show a.length + 1 + m2.length - a.length = m2.length + 1 by omega, List.getElem_cons_succ]
        rw [List.getElem_append_right (by omega)]; simp
      have g2 : kJ (a ++ (x :: (m2 ++ [y])) ++ b) ((a.length : Nat) : Int) = some x := by
        rw [yA (by simp)]; congr 1
        rw [List.getElem_append_left (by simp), List.getElem_append_right (by omega)]; simp
      have s1 : uR (a ++ (x :: (m2 ++ [y])) ++ b) ((a.length : Nat) : Int) y = some (a ++ (y :: (m2 ++ [y])) ++ b) := by
        rw [zKU (by simp)]; congr 1; simp
      have g3 : kJ (a ++ (y :: (m2 ++ [y])) ++ b) (((a.length + 1 + m2.length : Nat) : Int)) = some y := by
        rw [yA (by simp; omega)]; congr 1
        rw [List.getElem_append_left (by simp; omega), List.getElem_append_right (by omega)]
        simp only [show a.length + 1 + m2.length - a.length = m2.length + 1 by omega, List.getElem_cons_succ]
        rw [List.getElem_append_right (by omega)]; simp
      have s2 : uR (a ++ (y :: (m2 ++ [y])) ++ b) (((a.length + 1 + m2.length : Nat) : Int)) x = some ((a ++ [y]) ++ m2 ++ (x :: b)) := by
        rw [zKU (by simp; omega)]; congr 1
        have e1 : a ++ (y :: (m2 ++ [y])) ++ b = (a ++ y :: m2) ++ y :: b := by simp
        rw [e1, show a.length + 1 + m2.length = (a ++ y :: m2).length by simp; omega, List.set_append_right _ _ (Nat.le_refl _)]
        simp
      rw [zR (x' := (((a ++ [y]).length : Int), (((a ++ [y]).length + m2.length : Nat) : Int) - 1, (a ++ [y]) ++ m2 ++ (x :: b))) (by
        simp only [kU, e, cond_true]
        rw [ej]
        simp only [g1, g2, s1, g3, s2, zA]
        rw [zT (k := a.length) (by omega), uB (by omega) (by omega)]
        simp only [List.length_append, List.length_cons, List.length_nil])]
      rw [ih m2.length (by omega) (a ++ [y]) m2 (x :: b) rfl (by simp; omega) (by simp; omega)]
      simp
theorem z5R {l:List Int} (h:l.length≤4294967296):jF l=some l.reverse:=by
 unfold jF
 have:=zZG l.length [] l [] rfl rfl (by simp;omega)
 simp only [List.nil_append,List.append_nil,List.length_nil,Nat.zero_add] at this
 rw [uB (by omega) (by omega)]
 rw [show ((0:Nat):Int)=0 from rfl] at this
 rw [this];rfl
def zZH (b:Bool) (l:List Int):List Int:=if b=true then l.reverse else l
def rows (b:Bool) (L:List A4Int):List (List Int):=[row 0 L,zZH b (row 1 L),row 2 L,row 3 L]
def wts (l:List Element) (o:Options):List (List Int):=(rows o.Backward (trL o.Variable false l)).take o.Strength.toNat
theorem zN8 (k:Nat):∀(L:List A4Int),(row k L).length≤L.length
 | []=>by simp [row]
 | w::L=>by
  have:=zN8 k L
  have h2:=zSH (col k w)
  simp only [row,List.flatMap_cons,List.length_append,List.length_cons] at this ⊢
  omega
theorem zGZ {l:List Element} (hl:l.length≤4000000000) (o:Options):xV l o=some (wts l (zAD o)):=by
 have hb:=z7T (zSG o)
 unfold xV wts
 have e0:({Strength:=o.Strength,Variable:=o.Variable,Backward:=o.Backward,Identical:=o.Identical}:Options)=o:=rfl
 rw [e0,zTZ,zA]
 generalize zAD o=q at*
 have hw:=wl0 (l:=l) (o:=q) hb.2.2 hl l.length 0 false [] [] [] [] (by omega) (by simp) (by simp) (by simp) (by simp)
 simp only [List.drop_zero,List.nil_append] at hw
 rw [show ((0:Nat):Int)=0 from rfl] at hw
 unfold uP
 rw [zA,hw,zA]
 have hr:(cond q.Backward ((jF (row 1 (trL q.Variable false l))).bind fun t45=>some t45) (some (row 1 (trL q.Variable false l))))=some (zZH q.Backward (row 1 (trL q.Variable false l))):=by
  cases q.Backward with
  | false=>rfl
  | true=>
   have:=zN8 1 (trL q.Variable false l)
   rw [zJJ] at this
   rw [cond_true,z5R (by omega)];rfl
 simp only [hr,zA]
 have hs:q.Strength=((q.Strength.toNat:Nat):Int):=by omega
 have hsl:slc [row 0 (trL q.Variable false l),zZH q.Backward (row 1 (trL q.Variable false l)),row 2 (trL q.Variable false l),row 3 (trL q.Variable false l)] 0 q.Strength=some ((rows q.Backward (trL q.Variable false l)).take q.Strength.toNat):=by
  rw [hs,zFJ (by simp;omega)];rfl
 rw [hsl,zA,u2 (by simp [rows];omega)]
 rfl
end Go.M
namespace Go.M
open Go.AV
theorem zZI {l : List Element} {v : Int} (hv : 1 ≤ v ∧ v ≤ 3) (hl : l.length ≤ 4000000000) : ∀ (m k : Nat) (f : Bool) (acc : List A4Int), k + m = l.length → acc.length ≤ k →
    zD (fun (x : Bool × Int × (List A4Int)) => wG l v x.1 x.2.1 x.2.2) (f, (k : Int), acc) = some (acc ++ trL v f (l.drop k))
  | 0, k, f, acc, h, _ => by
    rw [List.drop_of_length_le (by omega)]
    refine zM ?_
    simp only [wG, jR (show l.length ≤ k by omega), cond_false, trL, List.append_nil]
  | m + 1, k, f, acc, h, ha => by
    have hk : k < l.length := by omega
    rw [zR (x' := (zK5 f l[k], ((k + 1 : Nat) : Int), acc ++ [tr1 v f l[k]])) (by
      simp only [wG, jG hk, cond_true, yA hk, zA, z4, zT (k := k) (by omega)]
      generalize l[k] = e
      have ea : ∀ w : A4Int, app acc [w] = some (acc ++ [w]) := fun w => u2 (by simp; omega)
      obtain ⟨p, s, t, va⟩ := e
      unfold tr1 zK5 zM6
      rcases (by omega : v = 1 ∨ v = 2 ∨ v = 3) with rfl | rfl | rfl <;> cases va <;> cases f <;> by_cases hp : p = 0 <;> by_cases hs : s = 0 <;> by_cases ht : t = 0 <;> simp [hp, hs, ht, ea])]
    rw [zZI hv hl m (k + 1) _ _ (by omega) (by simp; omega), List.drop_eq_getElem_cons hk]
    simp [trL]
theorem zSI {l:List Element} {v:Int} (hv:1≤v∧v≤3) (hl:l.length≤4000000000):zAP l v=some (trL v false l):=by
 unfold zAP
 have:=zZI hv hl l.length 0 false [] (by omega) (by simp)
 rw [show ((0:Nat):Int)=0 from rfl] at this
 rw [this];simp
theorem z9F (w:A4Int) {k:Nat} (hk:k < 4):kJ [w.x0,w.x1,w.x2,w.x3] (k:Int)=some (col k w):=by
 match k,hk with
 | 0,_=>rfl
 | 1,_=>rfl
 | 2,_=>rfl
 | 3,_=>rfl
def zEN (b:Bool) (k:Nat) (L:List A4Int):List A4Int:=if k=1∧b=true then L.reverse else L
theorem zQ4 (b:Bool) (k:Nat) (L:List A4Int):(zEN b k L).length=L.length:=by unfold zEN;split;exact List.length_reverse;rfl
theorem rw1 {L : List A4Int} {o : Options} {q : Nat} (hq : q < 4) (hl : L.length ≤ 4000000000) : ∀ (m k : Nat) (acc : List Int), k + m = L.length → acc.length ≤ k →
    zD (fun (x : Int × (List Int)) => wH L (q : Int) o x.1 x.2) ((k : Int), acc) = some (acc ++ row q ((zEN o.Backward q L).drop k))
  | 0, k, acc, h, _ => by
    rw [List.drop_of_length_le (by rw [zQ4]; omega)]
    refine zM ?_
    simp only [wH, jR (show L.length ≤ k by omega), cond_false, row, List.flatMap_nil, List.append_nil]
  | m + 1, k, acc, h, ha => by
    have hk : k < L.length := by omega
    have hk2 : k < (zEN o.Backward q L).length := by rw [zQ4]; exact hk
    have hi : ∃ j : Nat, j < L.length ∧ cond (decide ((q : Int) = 1) && o.Backward) (some (wi ((wi ((L.length : Int) - 1)) - (k : Int)))) (some (k : Int)) = some (j : Int) ∧ L[j]? = some (zEN o.Backward q L)[k] := by
      unfold zEN
      by_cases h1 : q = 1 ∧ o.Backward = true
      · have e : (decide ((q : Int) = 1) && o.Backward) = true := by simp [h1.1, h1.2]
        refine ⟨L.length - 1 - k, by omega, ?_, ?_⟩
        · rw [e, cond_true, uB (n := (L.length : Int) - 1) (by omega) (by omega), uB (by omega) (by omega)]
          congr 1; omega
        · simp only [h1, and_self, if_true]
          rw [List.getElem_reverse, List.getElem?_eq_getElem (by omega)]
      · have e : (decide ((q : Int) = 1) && o.Backward) = false := by
          cases hb : o.Backward with
          | false => simp
          | true =>
            have : q ≠ 1 := fun e => h1 ⟨e, hb⟩
            simp; omega
        refine ⟨k, hk, by rw [e, cond_false], ?_⟩
        simp only [h1, if_false]
        rw [List.getElem?_eq_getElem hk]
    obtain ⟨j, hj, e1, e2⟩ := hi
    rw [List.getElem?_eq_getElem hj] at e2
    have e3 : kJ L (j : Int) = some (zEN o.Backward q L)[k] := by rw [yA hj]; exact e2
    rw [zR (x' := (((k + 1 : Nat) : Int), acc ++ nz (col q (zEN o.Backward q L)[k]))) (by
      simp only [wH, jG hk, cond_true, z4, e1, zA, e3, z9F _ hq, zK6 (x := col q (zEN o.Backward q L)[k]) (show acc.length + 1 ≤ 4294967296 by omega), zT (k := k) (by omega)])]
    rw [rw1 hq hl m (k + 1) _ (by omega) (by rw [List.length_append]; have := zSH (col q (zEN o.Backward q L)[k]); omega), List.drop_eq_getElem_cons hk2]
    simp only [row, List.flatMap_cons, List.append_assoc]
theorem z5S (x:Int):(nz x).reverse=nz x:=by unfold nz;split <;> rfl
theorem zT0 (k:Nat):∀(L:List A4Int),row k L.reverse=(row k L).reverse
 | []=>rfl
 | w::L=>by
  have:=zT0 k L
  simp only [row] at this ⊢
  simp [this,z5S]
theorem zZJ (b:Bool) (L:List A4Int) {q:Nat} (hq:q < 4):(rows b L)[q]? =some (row q (zEN b q L)):=by
 match q,hq with
 | 0,_=>simp [rows,zEN]
 | 1,_=>cases b <;> simp [rows,zEN,zZH,zT0]
 | 2,_=>simp [rows,zEN]
 | 3,_=>simp [rows,zEN]
theorem rw0 {L : List A4Int} {o : Options} (hs : 1 ≤ o.Strength ∧ o.Strength ≤ 4) (hl : L.length ≤ 4000000000) : ∀ (m k : Nat) (acc : List (List Int)), k + m = o.Strength.toNat → acc.length = k →
    zD (fun (x : Int × (List (List Int))) => wI o L x.1 x.2) ((k : Int), acc) = some (acc ++ ((rows o.Backward L).take o.Strength.toNat).drop k)
  | 0, k, acc, h, _ => by
    rw [List.drop_of_length_le (by simp [rows]; omega)]
    have e : decide ((k : Int) < o.Strength) = false := by simp; omega
    refine zM ?_
    simp only [wI, e, cond_false, List.append_nil]
  | m + 1, k, acc, h, ha => by
    have e : decide ((k : Int) < o.Strength) = true := by simp; omega
    have hk4 : k < 4 := by omega
    have hr := rw1 (o := o) hk4 hl L.length 0 [] (by omega) (by simp)
    rw [show ((0 : Nat) : Int) = 0 from rfl, List.drop_zero, List.nil_append] at hr
    rw [zR (x' := (((k + 1 : Nat) : Int), acc ++ [row k (zEN o.Backward k L)])) (by
      simp only [wI, e, cond_true, hr, zA, u2 (show acc.length + [row k (zEN o.Backward k L)].length ≤ 4294967296 by simp; omega), zT (k := k) (by omega)])]
    rw [rw0 hs hl m (k + 1) _ (by omega) (by simp; omega)]
    have hlt : k < ((rows o.Backward L).take o.Strength.toNat).length := by simp [rows]; omega
    rw [List.drop_eq_getElem_cons hlt, List.append_assoc]
    have hg := zZJ o.Backward L hk4
    have : ((rows o.Backward L).take o.Strength.toNat)[k] = row k (zEN o.Backward k L) := by
      have h2 : ((rows o.Backward L).take o.Strength.toNat)[k]? = some (row k (zEN o.Backward k L)) := by rw [List.getElem?_take, if_pos (by omega)]; exact hg
      rw [List.getElem?_eq_getElem hlt] at h2
      exact Option.some.inj h2
    rw [this]; rfl
theorem zLY {l:List Element} (hl:l.length≤4000000000) (o:Options):zAQ l o=some (wts l (zAD o)):=by
 have hb:=z7T (zSG o)
 unfold zAQ wts
 have e0:({Strength:=o.Strength,Variable:=o.Variable,Backward:=o.Backward,Identical:=o.Identical}:Options)=o:=rfl
 rw [e0,zVN,zA]
 generalize zAD o=q at*
 rw [zSI hb.2.2 hl,zA]
 have:=rw0 (o:=q) ⟨hb.1,hb.2.1⟩ (L:=trL q.Variable false l) (by rw [zJJ];exact hl) q.Strength.toNat 0 [] (by omega) rfl
 rw [show ((0:Nat):Int)=0 from rfl] at this
 rw [this];simp
theorem z5T {a b : List (List Int)} (ha : a.length ≤ 1000000) (hx : ∀ x ∈ a, x.length ≤ 4611686018427387904) : zCP a b = some (decide (a = b)) := by
  unfold zCP
  by_cases hl : a.length = b.length
  case neg =>
    have e : decide ((a.length : Int) = (b.length : Int)) = false := by simp; omega
    rw [e]
    have : a ≠ b := fun e => hl (by rw [e])
    simp [this]
  have e : decide ((a.length : Int) = (b.length : Int)) = true := by simp; omega
  rw [e, Bool.not_true, cond_false]
  have key : ∀ (m k : Nat), k + m = a.length → zD (fun (x : Int) => vJ a b x) (k : Int) = some (if a.drop k = b.drop k then .inl () else .inr false) := by
    intro m
    induction m with
    | zero =>
      intro k hk
      rw [List.drop_of_length_le (by omega), List.drop_of_length_le (by omega), if_pos rfl]
      refine zM ?_
      simp only [vJ, jR (show a.length ≤ k by omega), cond_false]
    | succ m ih =>
      intro k hk
      have h1 : k < a.length := by omega
      have h2 : k < b.length := by omega
      rw [List.drop_eq_getElem_cons h1, List.drop_eq_getElem_cons h2]
      by_cases he : a[k] = b[k]
      · rw [zR (x' := ((k + 1 : Nat) : Int)) (by
          simp only [vJ, jG h1, cond_true, yA h1, yA h2, zA, show uA a[k] b[k] = some true by rw [zKX (hx _ (List.getElem_mem h1)), he]; simp, Bool.not_true, cond_false, zT (k := k) (by omega)]), ih (k + 1) (by omega)]
        have hiff : (a[k] :: a.drop (k + 1) = b[k] :: b.drop (k + 1)) ↔ (a.drop (k + 1) = b.drop (k + 1)) := ⟨fun h => (List.cons.inj h).2, fun h => by rw [he, h]⟩
        simp only [hiff]
      · rw [if_neg (fun h => he (List.cons.inj h).1)]
        refine zM ?_
        simp only [vJ, jG h1, cond_true, yA h1, yA h2, zA, zKX (hx _ (List.getElem_mem h1)), he, decide_false, Bool.not_false]
  have := key a.length 0 (by omega)
  rw [show ((0 : Nat) : Int) = 0 from rfl, List.drop_zero, List.drop_zero] at this
  rw [this, zA]
  by_cases hab : a = b
  · simp [hab]
  · simp [hab]
theorem zZK {l:List Element} {o:Options} {x:List Int} (h:x∈wts l o):x.length≤l.length:=by
 unfold wts at h
 have h:=List.mem_of_mem_take h
 have key:∀k,(row k (trL o.Variable false l)).length≤l.length:=fun k=>by have:=zN8 k (trL o.Variable false l);rwa [zJJ] at this
 simp only [rows,List.mem_cons,List.not_mem_nil,or_false] at h
 rcases h with rfl | rfl | rfl | rfl
 exact key 0
 unfold zZH;split
 rw [List.length_reverse];exact key 1
 exact key 1
 exact key 2
 exact key 3
end Go.M
namespace Go.M
open Go.AV
def jn:Nat→List Int→List (List Int)→List Int
 | _,acc,[]=>acc
 | k,acc,x::xs=>jn (k+1) ((if 0 < k then acc++ [0] else acc)++x) xs
theorem zZL {N:Nat}:∀(l:List (List Int)) (k:Nat) (acc:List Int),(∀x∈l,x.length≤N)→(jn k acc l).length≤acc.length+l.length*(N+1)
 | [],_,acc,_=>by simp [jn]
 | x::xs,k,acc,h=>by
  have h1:=h x (by simp)
  have h2:=zZL xs (k+1) ((if 0 < k then acc++ [0] else acc)++x) (fun y hy=>h y (by simp [hy]))
  have h3:((if 0 < k then acc++ [0] else acc)++x).length≤acc.length+1+N:=by
   split <;> simp <;> omega
  simp only [jn,List.length_cons,Nat.add_mul]
  omega
theorem z9G {acc:List Int} {k:Nat} (h:acc.length+1≤4294967296):(cond (decide ((0:Int) < (k:Int))) ((app acc [0]).bind fun q=>some q) (some acc))=some (if 0 < k then acc++ [0] else acc):=by
 by_cases hk:0 < k
 have e:decide ((0:Int) < (k:Int))=true:=by simp;omega
 rw [e,cond_true,u2 (by simpa using h),if_pos hk];rfl
 have e:decide ((0:Int) < (k:Int))=false:=by simp;omega
 rw [e,cond_false,if_neg hk]
section
variable {l:List (List Int)} {N:Nat} (hN:∀x∈l,x.length≤N) (hl:l.length≤1000000)
include hN hl
theorem z7V:∀(m k:Nat) (acc:List Int),k+m=l.length→acc.length+m*(N+1)≤4294967296→zD (fun (x:Int×(List Int))=>vV l x.1 x.2) ((k:Int),acc)=some (jn k acc (l.drop k))
 | 0,k,acc,h,_=>by
  rw [List.drop_of_length_le (by omega)]
  refine zM ?_
  simp only [vV,jR (show l.length≤k by omega),cond_false,jn]
 | m+1,k,acc,h,ha=>by
  have hk:k < l.length:=by omega
  have hx:=hN _ (List.getElem_mem hk)
  rw [Nat.add_mul] at ha
  have h3:(if 0 < k then acc++ [0] else acc).length≤acc.length+1:=by split <;> simp
  rw [zR (x':=(((k+1:Nat):Int),(if 0 < k then acc++ [0] else acc)++l[k])) (by
   simp only [vV,jG hk,cond_true,yA hk,zA,z9G (k:=k) (show acc.length+1≤4294967296 by omega),u2 (show (if 0 < k then acc++ [0] else acc).length+l[k].length≤4294967296 by omega),zT (k:=k) (by omega)])]
  rw [z7V m (k+1) _ (by omega) (by rw [List.length_append];omega),List.drop_eq_getElem_cons hk]
  rfl
end
def idn (t:List Int):List Int:=t.flatMap fun c=>if 0≤c∧c≤1114111 then [c+1] else []
theorem z5U (c : Int) {acc : List Int} (h : acc.length + 1 ≤ 4294967296) : (cond (decide (0 ≤ c) && decide (c ≤ 1114111)) ((app acc [wi (c + 1)]).bind fun q => some q) (some acc)) = some (acc ++ if 0 ≤ c ∧ c ≤ 1114111 then [c + 1] else []) := by
  by_cases hc : 0 ≤ c ∧ c ≤ 1114111
  · have e : (decide (0 ≤ c) && decide (c ≤ 1114111)) = true := by simpa using hc
    rw [e, cond_true, u2 (by simpa using h), if_pos hc, uB (by omega) (by omega)]; rfl
  · have e : (decide (0 ≤ c) && decide (c ≤ 1114111)) = false := by
      cases h : (decide (0 ≤ c) && decide (c ≤ 1114111)) with
      | false => rfl
      | true => exact absurd (by simpa using h) hc
    rw [e, cond_false, if_neg hc, List.append_nil]
theorem z19 (c:Int):(if 0≤c∧c≤1114111 then [c+1] else ([]:List Int)).length≤1:=by split <;> simp
theorem z7W {t:List Int} (hl:t.length≤1000000):∀(m k:Nat) (acc:List Int),k+m=t.length→acc.length+m≤4294967296→zD (fun (x:Int×(List Int))=>vW t x.1 x.2) ((k:Int),acc)=some (acc++idn (t.drop k))
 | 0,k,acc,h,_=>by
  rw [List.drop_of_length_le (by omega)]
  refine zM ?_
  simp only [vW,jR (show t.length≤k by omega),cond_false,idn,List.flatMap_nil,List.append_nil]
 | m+1,k,acc,h,ha=>by
  have hk:k < t.length:=by omega
  have h1:=z19 t[k]
  rw [zR (x':=(((k+1:Nat):Int),acc++if 0≤t[k]∧t[k]≤1114111 then [t[k]+1] else [])) (by
   simp only [vW,jG hk,cond_true,yA hk,zA,z4,z5U t[k] (show acc.length+1≤4294967296 by omega),zT (k:=k) (by omega)])]
  rw [z7W hl m (k+1) _ (by omega) (by rw [List.length_append];omega),List.drop_eq_getElem_cons hk]
  simp only [idn,List.flatMap_cons,List.append_assoc]
def z5V (o:Options) (el:List Element) (t:List Int):List Int:=jn 0 [] (wts el o)++if o.Identical=true then [0]++idn t else []
theorem zT1 (l:List Element) (o:Options):(wts l o).length≤4:=by unfold wts;simp [rows];omega
theorem z2A (o:Options):zAD (zAD o)=zAD o:=z7S (zSG o)
section
variable {n:Norm} {c:Collation} (hn:NSm n) (hok:zDG n) (hs:Sm c) (hg:∀g∈c.Groups,g.Name.length≤MX) {text:List Int} (ht:text.length≤2000) (hf:(zGK n false text).length≤2000)
include hn hok hs hg ht hf
theorem z5W (o:Options):zA2 n c o text=some (z5V (zAD o) (wk c (zA6 n) (zGY n false text)).1 (zGY n false text)):=by
 unfold zA2 z5V
 have hd:(zGY n false text).length≤2000:=by rw [zQZ];exact hf
 have hel:=z5P (n:=n) hs (text:=text) hd
 rw [show ({Strength:=o.Strength,Variable:=o.Variable,Backward:=o.Backward,Identical:=o.Identical}:Options)=o from rfl,zTZ,zA,zQ1 hn hok hs hg ht hf,zA,show ({Strength:=(zAD o).Strength,Variable:=(zAD o).Variable,Backward:=(zAD o).Backward,Identical:=(zAD o).Identical}:Options)=zAD o from rfl,zGZ (by omega),z2A,zA]
 generalize (wk c (zA6 n) (zGY n false text)).1=el at*
 have h4:=zT1 el (zAD o)
 have hN:∀x∈wts el (zAD o),x.length≤1000000000:=fun x hx=>Nat.le_trans (zZK hx) hel
 have hk0:=z7V hN (by omega) (wts el (zAD o)).length 0 [] (by omega) (by simp;omega)
 rw [show ((0:Nat):Int)=0 from rfl,List.drop_zero] at hk0
 have hjl:=zZL (wts el (zAD o)) 0 [] hN
 simp only [List.length_nil] at hjl
 rw [hk0,zA]
 cases hi:(zAD o).Identical with
 | false=>simp
 | true=>
  have h5:(jn 0 [] (wts el (zAD o))).length≤4000000004:=by omega
  rw [Bool.not_true,cond_false,u2 (by simp;omega),zA,zQ0 hn hok ht hf,zA]
  have hk1:=z7W (t:=zGY n false text) (by omega) (zGY n false text).length 0 (jn 0 [] (wts el (zAD o))++ [0]) (by omega) (by simp;omega)
  rw [show ((0:Nat):Int)=0 from rfl,List.drop_zero] at hk1
  rw [hk1,zA,if_pos rfl,List.append_assoc]
end
def nZ:Norm:={Classes:=[],Decomp:=[],Excluded:={Ranges:=[]}}
def cZ:Collation:={Entries:=[{Codes:=[97],Elements:=[{Primary:=16,Secondary:=32,Tertiary:=2,Variable:=false}]},{Codes:=[98],Elements:=[{Primary:=17,Secondary:=32,Tertiary:=2,Variable:=false}]}],Groups:=[],Base:=100,Second:=32,Third:=2}
theorem z9H:NSm nZ:=⟨by decide,by decide,fun m hm=>(by cases hm),fun m hm=>(by cases hm),by decide⟩
theorem z7X:zDG nZ:=by unfold zDG okSpan z2L nZ;simp
theorem z9I:Sm cZ:=⟨by decide,by decide,by decide,by decide⟩
theorem zZM:usN nZ=nZ:=by unfold usN;split <;> rfl
theorem z7Y:zA6 nZ= []:=by rw [zZD,zZM];rfl
theorem zT2:zGK nZ false [97,98]= [97,98]:=by unfold zGK;rw [zZM];decide
theorem z5X:zGY nZ false [97,98]= [97,98]:=by unfold zGY;rw [zT2,zZM];decide
theorem z7Z:(wk cZ [] [97,98]).1= [{Primary:=16,Secondary:=32,Tertiary:=2,Variable:=false},{Primary:=17,Secondary:=32,Tertiary:=2,Variable:=false}]:=by decide
end Go.M
namespace Go.M
open Go.AV
theorem z5Y:zAN [258]=some [0,0,1,2]:=by
 unfold zAN
 have h0:zD (fun (x:Int×(List Int))=>u9 [258] x.1 x.2) (0,[])=some [0,0,1,2]:=by
  rw [zR (x':=(1,[0,0,1,2])) (by rfl)]
  exact zM (by rfl)
 rw [h0];decide
theorem z2B:zA3=some true:=by
 unfold zA3
 have hw:=zGZ (l:=[({Primary:=16,Secondary:=32,Tertiary:=2,Variable:=false}:Element),({Primary:=17,Secondary:=32,Tertiary:=2,Variable:=false}:Element)]) (by simp) ({Strength:=2,Variable:=1,Backward:=false,Identical:=false}:Options)
 rw [hw,zA]
 have hk:=z5W z9H z7X z9I (fun g hg=>by cases hg) (text:=[97,98]) (by simp) (by rw [zT2];simp) ({Strength:=2,Variable:=1,Backward:=false,Identical:=false}:Options)
 rw [z7Y,z5X,z7Z] at hk
 have hv:z5V (zAD ({Strength:=2,Variable:=1,Backward:=false,Identical:=false}:Options)) [{Primary:=16,Secondary:=32,Tertiary:=2,Variable:=false},{Primary:=17,Secondary:=32,Tertiary:=2,Variable:=false}] [97,98]= [16,17,0,32,32]:=by decide
 rw [hv] at hk
 have s1:slc [({Primary:=16,Secondary:=32,Tertiary:=2,Variable:=false}:Element),({Primary:=17,Secondary:=32,Tertiary:=2,Variable:=false}:Element)] 0 1=some [{Primary:=16,Secondary:=32,Tertiary:=2,Variable:=false}]:=by decide
 have s2:slc [({Primary:=16,Secondary:=32,Tertiary:=2,Variable:=false}:Element),({Primary:=17,Secondary:=32,Tertiary:=2,Variable:=false}:Element)] 1 ([({Primary:=16,Secondary:=32,Tertiary:=2,Variable:=false}:Element),({Primary:=17,Secondary:=32,Tertiary:=2,Variable:=false}:Element)].length)=some [{Primary:=17,Secondary:=32,Tertiary:=2,Variable:=false}]:=by decide
 rw [s1,zA,s2,zA]
 have hk':zA2 ({Classes:=[],Decomp:=[],Excluded:=(({Ranges:=[]}):Set)}:Norm) ({Entries:=[({Codes:=[97],Elements:=[{Primary:=16,Secondary:=32,Tertiary:=2,Variable:=false}]}:Entry),({Codes:=[98],Elements:=[{Primary:=17,Secondary:=32,Tertiary:=2,Variable:=false}]}:Entry)],Groups:=[],Base:=100,Second:=32,Third:=2}:Collation) ({Strength:=2,Variable:=1,Backward:=false,Identical:=false}:Options) [97,98]=some [16,17,0,32,32]:=hk
 have c1:jS ({Strength:=0,Variable:=0,Backward:=false,Identical:=false}:Options)=some 1:=by rw [zN7];decide
 have c2:jS ({Strength:=1,Variable:=0,Backward:=false,Identical:=false}:Options)=some 8:=by rw [zN7];decide
 have w2:(wts [({Primary:=16,Secondary:=32,Tertiary:=2,Variable:=false}:Element),({Primary:=17,Secondary:=32,Tertiary:=2,Variable:=false}:Element)] (zAD ({Strength:=2,Variable:=1,Backward:=false,Identical:=false}:Options))).length=2:=by decide
 have e1:uA [16,17,0,32,32] [16,17,0,32,32]=some true:=by rw [zKX (by simp)];simp
 rw [hk',zA,z4,w2]
 simp only [e1,z5Y,c1,c2,z4,zEH,zA,Bool.and_self,decide_true,BEq.rfl,show decide (((2:Nat):Int)=2)=true from rfl]
theorem law44_SortkeyWeights_true (l:List Element) (o:Options) {q:Prop} (_:q) {q2:Prop} (_:q2):vC l o=some true:=by
 unfold vC
 rw [z2B]
 by_cases h:60 < l.length
 have e:decide ((60:Int) < (l.length:Int))=true:=by simp;omega
 rw [e];rfl
 have e:decide ((60:Int) < (l.length:Int))=false:=by simp;omega
 rw [e,cond_false,zN7,zQ2]
 simp only [zA,z4,decide_true,zEH,zGZ (l:=l) (by omega),zLY (l:=l) (by omega),z5T (a:=wts l (zAD o)) (b:=wts l (zAD o)) (by have:=zT1 l (zAD o);omega) (fun x hx=>by have:=zZK hx;omega),Bool.and_self]
end Go.M


/- What the plain counterparts answer. Conditions: none. -/
import Derived.Test.YtjcbhabmkcdcnaaGreatDoorPu1
set_option linter.unusedSimpArgs false
set_option linter.unusedVariables false
set_option linter.unnecessarySimpa false
namespace Go.M
open Go.AV
open Classical in
noncomputable def jP (n:Norm):List Span:=if VD0 n then n.Classes else []
theorem z91:CV []:=⟨fun k h=>(by cases h),fun k h=>(by cases h),fun k h=>(by cases h)⟩
theorem zZP (n:Norm):CV (jP n):=by
 unfold jP
 split
 rename_i h;exact h.cv
 exact z91
theorem zOX {n:Norm} (hs:NSm n):(jP n).length≤40:=by
 unfold jP
 split
 exact hs.cl
 simp
def zTA (l:List Span) (t:Int):Int:=l.foldl (fun t s=>max t s.Value) t
def zK0 (c:Collation) (l:List Span):Colltable_table:={zOS c with classes:=l,top:=zTA l 0}
theorem z92 {l:List Span} (hl:l.length≤2000):∀(d k:Nat) (t:Int),l.length - k=d→k≤l.length→zE (fun (x:Int×Int)=>jA l x.1 x.2) ((k:Int),t)=some (zTA (l.drop k) t):=by
 intro d
 induction d with
 | zero=>
  intro k t h1 h2
  rw [List.drop_of_length_le (by omega)]
  refine zJ ?_
  simp only [jA,kJ (show l.length≤k by omega),cond_false]
  rfl
 | succ d ih=>
  intro k t h1 h2
  have hk:k < l.length:=by omega
  rw [List.drop_eq_getElem_cons hk]
  rw [zP (x':=(((k+1:Nat):Int),max t l[k].Value)) (by simp only [jA,yQ hk,cond_true,zU hk,zA,zM (k:=k) (by omega)])]
  exact ih (k+1) _ (by omega) (by omega)
theorem yDO {c:Collation} {n:Norm} (hs:NSm n) (hok:zCC n):w7 (zOS c) n=some (zK0 c (jP n)):=by
 obtain ⟨e,he,hp⟩:=z9T hs hok
 unfold w7
 rw [he,zA]
 have h1:(cond (decide (e=0)) (some n.Classes) (some (zOS c).classes):Option (List Span))=some (jP n):=by
  unfold jP
  by_cases h:e=0
  rw [if_pos (hp.1 h)];simp [h]
  rw [if_neg (fun hh=>h (hp.2 hh))];simp [h,zOS]
 rw [h1,zA]
 have h2:=z92 (l:=jP n) (by have:=zOX hs;omega) (jP n).length 0 0 (by omega) (by omega)
 rw [List.drop_zero] at h2
 have h2':zE (fun (x:Int×Int)=>jA (jP n) x.1 x.2) (0,(zOS c).top)=some (zTA (jP n) 0):=h2
 rw [h2']
 rfl
theorem zK1 {c:Collation} (hs:Sm c) {l:List Span} {codes:List Int}:jC (zK0 c l) codes=some (zC5 (yL c).Entries codes):=yC6 hs (codes:=codes)
theorem zLH {c:Collation} {l:List Span} (h:CV l) (hl:l.length≤2000) (x:Int):wB (zK0 c l) x=some (clE l x):=by
 obtain ⟨j,hj,hr,hlo,hhi⟩:=zWB (n:=l.length) hl (body:=fun (q:Int×Int)=>zA7 (fun x0=>xL x0 (zK0 c l) x) q.1 q.2) (fun k=>decide (x≤(nth l k).Hi))
  (fun k _=>by simp only [zA7,kJ (Nat.le_refl _),cond_false])
  (fun lo hi h1 h2=>by
   have hm:(lo+hi) / 2 < l.length:=by omega
   have hi1:yA (zK0 c l).classes (((lo+hi) / 2:Nat):Int)=some (nth l ((lo+hi) / 2)):=z0 hm
   simp only [zA7,yQ h1,cond_true,zML (show lo+hi≤4611686018427387903 by omega),xL,hi1,zA,zM (k:=(lo+hi) / 2) (by omega)]
   by_cases hc:x≤(nth l ((lo+hi) / 2)).Hi <;> simp [hc])
  (fun i j hij hj hi=>by
   have:=h.hi hij hj
   simp only [decide_eq_true_eq] at hi ⊢
   omega)
 simp only [decide_eq_false_iff_not,decide_eq_true_eq] at hlo hhi
 unfold wB zHQ
 have e0:(zK0 c l).classes=l:=rfl
 rw [e0,hr,yE7 h hj (fun k hk=>by have:=hlo k hk;omega) hhi]
 simp only [zA,zN]
 by_cases hn:j < l.length
 simp only [yQ hn,xH,z0 hn,zA,Bool.true_and,hn,true_and]
 by_cases hc2:(nth l j).Lo≤x <;> simp [hc2]
 simp only [kJ (show l.length≤j by omega),uM,zA,Bool.false_and,cond_false,hn,false_and,if_false]
theorem z10:∀(l:List Span) (t:Int),t≤zTA l t∧∀s∈l,s.Value≤zTA l t
 | [],t=>⟨Int.le_refl _,fun s h=>by cases h⟩
 | x::l,t=>by
  have ih:=z10 l (max t x.Value)
  refine ⟨by show t≤zTA l (max t x.Value);omega,fun s hs=>?_⟩
  show s.Value≤zTA l (max t x.Value)
  rcases List.mem_cons.1 hs with rfl | hs
  omega
  exact ih.2 s hs
theorem yI6 {l:List Span} (x:Int):clE l x≤zTA l 0:=by
 unfold clE
 cases hf:l.find? (zP6 x) with
 | none=>exact (z10 l 0).1
 | some s=>exact (z10 l 0).2 s (List.mem_of_find?_eq_some hf)
theorem yI7 {l:List Span} (h:CV l) (x:Int):0≤clE l x:=by
 unfold clE
 cases hf:l.find? (zP6 x) with
 | none=>exact Int.le_refl _
 | some s=>
  have:=List.mem_of_find?_eq_some hf
  obtain ⟨k,hk,rfl⟩:=List.getElem_of_mem this
  have:=h.sp k hk
  rw [zBP hk] at this
  unfold spOk at this
  show 0≤(l[k]).Value
  omega
def zH0 (p:Nat→Bool):Nat→Nat
 | 0=>0
 | k+1=>if p (k+1) then k+1 else zH0 p k
theorem zNU (p:Nat→Bool):∀k,zH0 p k≤k
 | 0=>Nat.le_refl _
 | k+1=>by unfold zH0;split;omega;have:=zNU p k;omega
theorem zUQ {p : Nat → Bool} {m : Nat} : ∀ {k : Nat}, m ≤ k → (∀ j, m < j → j ≤ k → p j = false) → zH0 p k = zH0 p m
  | 0, h, _ => by have : m = 0 := by omega
                  rw [this]
  | k + 1, h, hp => by
    by_cases e : m = k + 1
    · rw [e]
    · unfold zH0
      rw [hp (k + 1) (by omega) (Nat.le_refl _)]
      simp only [Bool.false_eq_true, if_false]
      rw [zUQ (m := m) (by omega) fun j h1 h2 => hp j h1 (by omega)]
      cases m <;> rfl
def pfx (es:List Entry) (text:List Int) (k:Nat):Bool:=(zC5 es (text.take k)).2
def vR (es:List Entry) (text:List Int):Nat:=zH0 (pfx es text) text.length
def zC9 (fd:List Int→Bool) (cl:Int→Int):List Int→List Int→List Int→Int→List Int×List Int
 | [],p,s,_=>(p,s)
 | x::r,p,s,h=>if cl x=0 then (p,s++x::r) else if fd (p++ [x])&&decide (h < cl x) then zC9 fd cl r (p++ [x]) s h else zC9 fd cl r p (s++ [x]) (max h (cl x))
theorem zUR {fd:List Int→Bool} {cl:Int→Int}:∀(r p s:List Int) (h:Int),(∀x,cl x≤h)→zC9 fd cl r p s h=(p,s++r)
 | [],p,s,h,_=>by simp [zC9]
 | x::r,p,s,h,hc=>by
  have hx:=hc x
  unfold zC9
  split
  rfl
  have e:decide (h < cl x)=false:=by simp;omega
  rw [e,Bool.and_false,if_neg (by simp),zUR r p (s++ [x]) (max h (cl x)) (fun y=>by have:=hc y;omega)]
  simp
theorem zNV {fd:List Int→Bool} {cl:Int→Int}:∀(r p s:List Int) (h:Int),p.length≤(zC9 fd cl r p s h).1.length∧(zC9 fd cl r p s h).1.length+(zC9 fd cl r p s h).2.length=p.length+s.length+r.length∧((zC9 fd cl r p s h).1.length=p.length→zC9 fd cl r p s h=(p,s++r))
 | [],p,s,h=>by simp [zC9]
 | x::r,p,s,h=>by
  unfold zC9
  split
  refine ⟨Nat.le_refl _,by simp;omega,fun _=>rfl⟩
  split
  have ih:=zNV (fd:=fd) (cl:=cl) r (p++ [x]) s h
  simp only [List.length_append,List.length_cons,List.length_nil] at ih ⊢
  exact ⟨by omega,by omega,fun e=>by omega⟩
  have ih:=zNV (fd:=fd) (cl:=cl) r p (s++ [x]) (max h (cl x))
  simp only [List.length_append,List.length_cons,List.length_nil] at ih ⊢
  refine ⟨ih.1,by omega,fun e=>?_⟩
  rw [ih.2.2 e];simp
section
variable {c:Collation} (hs:Sm c) {l:List Span} (hcv:CV l) (hl:l.length≤2000)
include hs
theorem mL0 {text:List Int} (ht:text.length≤2000):∀k,k≤text.length→zE (fun (x:Int)=>kT text (zK0 c l) x) (k:Int)=some ((zH0 (pfx (yL c).Entries text) k:Nat):Int)
 | 0,_=>by
  refine zJ ?_
  have:decide ((0:Int) < ((0:Nat):Int))=false:=rfl
  simp only [kT,this,cond_false]
  rfl
 | k+1,hk=>by
  have hd:decide ((0:Int) < ((k+1:Nat):Int))=true:=by simp <;> omega
  have ih:=mL0 ht k (by omega)
  unfold zH0
  cases hp:pfx (yL c).Entries text (k+1) with
  | true=>
   rw [if_pos rfl]
   refine zJ ?_
   unfold pfx at hp
   simp only [kT,hd,cond_true,zFV hk,zA,zK1 hs,hp]
  | false=>
   rw [if_neg (by simp),←ih]
   refine zP ?_
   unfold pfx at hp
   simp only [kT,hd,cond_true,zFV hk,zA,zK1 hs,hp,cond_false,zCG (k:=k) (by omega)]
omit hs in
theorem z93 {text:List Int} {k:Nat} (hk:k≤text.length) (h:zNQ (yL c).Entries 0 < (k:Int)):pfx (yL c).Entries text k=false:=by
 have h1:=zV8 (yL c).Entries 0
 unfold pfx zC5
 have:(yL c).Entries.find? (fun x=>decide (x.Codes=text.take k))=none:=by
  rw [List.find?_eq_none]
  intro x hx
  simp only [decide_eq_true_eq]
  intro e
  have h2:=h1.2 x hx
  rw [e] at h2
  have:(text.take k).length=k:=by simp;omega
  omega
 rw [this]
theorem yG4 {text:List Int} (ht:text.length≤2000):zE (fun (x:Int)=>kT text (zK0 c l) x) (min (zK0 c l).longest (text.length:Int))=some ((vR (yL c).Entries text:Nat):Int):=by
 have h1:=zV8 (yL c).Entries 0
 have e:(zK0 c l).longest=zNQ (yL c).Entries 0:=rfl
 rw [e]
 obtain ⟨m,hm⟩:∃m:Nat,min (zNQ (yL c).Entries 0) (text.length:Int)=(m:Int):=⟨(min (zNQ (yL c).Entries 0) (text.length:Int)).toNat,by omega⟩
 rw [hm,mL0 hs ht m (by omega)]
 unfold vR
 rw [zUQ (p:=pfx (yL c).Entries text) (m:=m) (k:=text.length) (by omega) fun j h2 h3=>z93 h3 (by omega)]
omit hs in
theorem yG5 {p s r:List Int} {x:Int}:uU (cpM (p++s++x::r) ((p.length+1:Nat):Int) ((p.length+s.length+1:Nat):Int) (p.length:Int) ((p.length+s.length:Nat):Int)) (p.length:Int) x=some ((p++ [x])++s++r):=by
 have e1:((p++s++x::r).drop p.length).take (p.length+s.length - p.length)=s:=by
  rw [List.append_assoc,List.drop_left]
  have:p.length+s.length - p.length=s.length:=by omega
  rw [this,List.take_left]
 have e2:min (p.length+s.length - p.length) (p.length+s.length+1 - (p.length+1))=s.length:=by omega
 unfold cpM
 simp only [Int.toNat_natCast]
 rw [e1,e2,List.take_of_length_le (Nat.le_refl _)]
 cases s with
 | nil=>
  have hx:(p++ []++x::r)=p++x::r:=by simp
  rw [hx]
  have e3:(p++x::r).take (p.length+1)=p++ [x]:=by
   rw [List.take_append,List.take_of_length_le (by omega)]
   simp
  have e4:(p++x::r).drop (p.length+1+([]:List Int).length)=r:=by
   rw [List.drop_append,List.drop_of_length_le (by simp)]
   simp
  rw [e3,e4]
  have:p++ [x]++ []++r=p++x::r:=by simp
  rw [this,vW rfl]
 | cons y s=>
  have hx:(p++(y::s)++x::r)=p++y::(s++x::r):=by simp
  rw [hx]
  have e3:(p++y::(s++x::r)).take (p.length+1)=p++ [y]:=by
   rw [List.take_append,List.take_of_length_le (by omega)]
   simp
  have e4:(p++y::(s++x::r)).drop (p.length+1+(y::s).length)=r:=by
   have:p++y::(s++x::r)=(p++y::(s++ [x]))++r:=by simp
   rw [this,List.drop_left' (by simp;omega)]
  rw [e3,e4]
  have:p++ [y]++(y::s)++r=p++y::((y::s)++r):=by simp
  rw [this,vW rfl]
  simp
include hcv hl
theorem mL1 : ∀ (r p s : List Int) (h : Int), p.length + s.length + r.length ≤ 2000 →
    zE (fun (x : Int × Int × Int × (List Int)) => yW (zK0 c l) x.1 x.2.1 x.2.2.1 x.2.2.2) ((p.length : Int), h, ((p.length + s.length : Nat) : Int), p ++ s ++ r) =
      some ((((zC9 (fun q => (zC5 (yL c).Entries q).2) (clE l) r p s h).1.length : Nat) : Int), (zC9 (fun q => (zC5 (yL c).Entries q).2) (clE l) r p s h).1 ++ (zC9 (fun q => (zC5 (yL c).Entries q).2) (clE l) r p s h).2)
  | [], p, s, h, _ => by
    refine zJ ?_
    have : decide (((p.length + s.length : Nat) : Int) < ((p ++ s ++ []).length : Int)) = false := by simp
    simp only [yW, zN, this, Bool.false_and, cond_false]
    simp [zC9]
  | x :: r, p, s, h, hn => by
    simp only [List.length_cons] at hn
    have hd : decide (((p.length + s.length : Nat) : Int) < ((p ++ s ++ x :: r).length : Int)) = true := by simp <;> omega
    have hi : yA (p ++ s ++ x :: r) ((p.length + s.length : Nat) : Int) = some x := xW (by simp)
    have etop : (zK0 c l).top = zTA l 0 := rfl
    by_cases htop : h < zTA l 0
    · have hd2 : decide (h < (zK0 c l).top) = true := by rw [etop]; simpa using htop
      by_cases h0 : clE l x = 0
      · refine zJ ?_
        simp only [yW, zN, hd, hd2, Bool.and_self, cond_true, hi, zA, zLH hcv hl, h0, decide_true, Sum.elim_inl]
        unfold zC9
        rw [if_pos h0]
        simp
      · unfold zC9
        rw [if_neg h0]
        by_cases hk : clE l x ≤ h
        · have e : decide (h < clE l x) = false := by simp; omega
          rw [e, Bool.and_false, if_neg (by simp)]
          rw [zP (x' := ((p.length : Int), h, ((p.length + (s ++ [x]).length : Nat) : Int), p ++ (s ++ [x]) ++ r)) (by
            have e2 : p ++ (s ++ [x]) ++ r = p ++ s ++ x :: r := by simp
            have e3 : p.length + (s ++ [x]).length = p.length + s.length + 1 := by simp; omega
            rw [e2, e3]
            simp only [yW, zN, hd, hd2, Bool.and_self, cond_true, hi, zA, zLH hcv hl, h0, hk, decide_true, decide_false, cond_false, Sum.elim_inr, zM (k := p.length + s.length) (by omega)])]
          have := mL1 r p (s ++ [x]) h (by simp; omega)
          rw [show max h (clE l x) = h by omega]
          exact this
        · have e : decide (h < clE l x) = true := by simp; omega
          rw [e, Bool.and_true]
          have s1 : slc (p ++ s ++ x :: r) 0 (p.length : Int) = some p := by
            rw [zFV (by simp)]
            simp
          have a1 : app p [x] = some (p ++ [x]) := xQ (by simp; omega)
          cases hf : (zC5 (yL c).Entries (p ++ [x])).2 with
          | false =>
            rw [if_neg (by simp)]
            rw [zP (x' := ((p.length : Int), clE l x, ((p.length + (s ++ [x]).length : Nat) : Int), p ++ (s ++ [x]) ++ r)) (by
              have e2 : p ++ (s ++ [x]) ++ r = p ++ s ++ x :: r := by simp
              have e3 : p.length + (s ++ [x]).length = p.length + s.length + 1 := by simp; omega
              rw [e2, e3]
              simp only [yW, zN, hd, hd2, Bool.and_self, cond_true, hi, zA, zLH hcv hl, h0, hk, decide_false, cond_false, s1, a1, zK1 hs, hf, Bool.not_false, Sum.elim_inr, zM (k := p.length + s.length) (by omega)])]
            have := mL1 r p (s ++ [x]) (clE l x) (by simp; omega)
            rw [show max h (clE l x) = clE l x by omega]
            exact this
          | true =>
            rw [if_pos rfl]
            have sc1 : ∃ q, slc (p ++ s ++ x :: r) ((p.length + 1 : Nat) : Int) ((p.length + s.length + 1 : Nat) : Int) = some q := ⟨_, zV4 (by omega) (by simp; omega)⟩
            have sc2 : ∃ q, slc (p ++ s ++ x :: r) (p.length : Int) ((p.length + s.length : Nat) : Int) = some q := ⟨_, zV4 (by omega) (by simp)⟩
            obtain ⟨q1, hq1⟩ := sc1
            obtain ⟨q2, hq2⟩ := sc2
            have hcp := yG5 (p := p) (s := s) (r := r) (x := x)
            obtain ⟨_, _, hlt⟩ := zK6 hcp
            have hix : ∃ q, yA (cpM (p ++ s ++ x :: r) ((p.length + 1 : Nat) : Int) ((p.length + s.length + 1 : Nat) : Int) (p.length : Int) ((p.length + s.length : Nat) : Int)) (p.length : Int) = some q := ⟨_, zU (by simpa using hlt)⟩
            obtain ⟨q3, hq3⟩ := hix
            rw [zP (x' := (((p ++ [x]).length : Int), h, (((p ++ [x]).length + s.length : Nat) : Int), (p ++ [x]) ++ s ++ r)) (by
              have e3 : (p ++ [x]).length + s.length = p.length + s.length + 1 := by simp; omega
              have e4 : (p ++ [x]).length = p.length + 1 := by simp
              rw [e3, e4]
              simp only [yW, zN, hd, hd2, Bool.and_self, cond_true, hi, zA, zLH hcv hl, h0, hk, decide_false, cond_false, s1, a1, zK1 hs, hf, Bool.not_true, zM (k := p.length + s.length) (by omega), zM (k := p.length) (by omega), hq1, hq2, hq3, hcp, Sum.elim_inr])]
            exact mL1 r (p ++ [x]) s h (by simp; omega)
    · have hd2 : decide (h < (zK0 c l).top) = false := by rw [etop]; simpa using htop
      have hm := zUR (fd := fun q => (zC5 (yL c).Entries q).2) (cl := clE l) (x :: r) p s h (fun y => by have := yI6 (l := l) y; omega)
      rw [hm]
      refine zJ ?_
      simp only [yW, zN, hd, hd2, Bool.and_false, cond_false, List.append_assoc]
noncomputable def stE (c:Collation) (l:List Span) (text:List Int):Int×List Int×List Element:=if vR (yL c).Entries text=0 then (1,text.drop 1,zS8 (yL c) (nth text 0)) else
 ((((zC9 (fun q=>(zC5 (yL c).Entries q).2) (clE l) (text.drop (vR (yL c).Entries text)) (text.take (vR (yL c).Entries text)) [] 0).1.length:Nat):Int),(zC9 (fun q=>(zC5 (yL c).Entries q).2) (clE l) (text.drop (vR (yL c).Entries text)) (text.take (vR (yL c).Entries text)) [] 0).2,(zC5 (yL c).Entries (zC9 (fun q=>(zC5 (yL c).Entries q).2) (clE l) (text.drop (vR (yL c).Entries text)) (text.take (vR (yL c).Entries text)) [] 0).1).1)
theorem z94 {text:List Int} (ht:text.length≤2000) (h0:text≠[]):∃seq,wC (zK0 c l) text=some ((stE c l text).1,(stE c l text).2.2,decide (vR (yL c).Entries text≠0),seq)∧slc seq (stE c l text).1 (seq.length:Int)=some (stE c l text).2.1:=by
 unfold wC
 rw [yG4 hs ht,zA]
 have hpos:0 < text.length:=List.length_pos_iff.2 h0
 by_cases hz:vR (yL c).Entries text=0
 have e1:decide (((vR (yL c).Entries text:Nat):Int)=0)=true:=by simp [hz]
 have i0:yA text (0:Int)=some (nth text 0):=z0 (k:=0) hpos
 have hst:stE c l text=(1,text.drop 1,zS8 (yL c) (nth text 0)):=by unfold stE;rw [if_pos hz]
 have him:jM (zK0 c l) (nth text 0)=some (zS8 (yL c) (nth text 0)):=zY9 c (nth text 0)
 rw [e1,cond_true,i0,zA,him,zA,hst]
 refine ⟨text,?_,?_⟩
 simp [hz]
 exact zNN (l:=text) (a:=1) (by omega)
 have e1:decide (((vR (yL c).Entries text:Nat):Int)=0)=false:=by simp;omega
 rw [e1,cond_false]
 have hle:vR (yL c).Entries text≤text.length:=zNU _ _
 have h1:=mL1 hs hcv hl (text.drop (vR (yL c).Entries text)) (text.take (vR (yL c).Entries text)) [] 0 (by simp;omega)
 have e2:(text.take (vR (yL c).Entries text)).length=vR (yL c).Entries text:=by simp;omega
 have e3:text.take (vR (yL c).Entries text)++ []++text.drop (vR (yL c).Entries text)=text:=by simp
 rw [e3,e2] at h1
 simp only [List.length_nil,Nat.add_zero] at h1
 rw [h1,zA]
 have hst:stE c l text=((((zC9 (fun q=>(zC5 (yL c).Entries q).2) (clE l) (text.drop (vR (yL c).Entries text)) (text.take (vR (yL c).Entries text)) [] 0).1.length:Nat):Int),(zC9 (fun q=>(zC5 (yL c).Entries q).2) (clE l) (text.drop (vR (yL c).Entries text)) (text.take (vR (yL c).Entries text)) [] 0).2,(zC5 (yL c).Entries (zC9 (fun q=>(zC5 (yL c).Entries q).2) (clE l) (text.drop (vR (yL c).Entries text)) (text.take (vR (yL c).Entries text)) [] 0).1).1):=by unfold stE;rw [if_neg hz]
 rw [hst]
 generalize zC9 (fun q=>(zC5 (yL c).Entries q).2) (clE l) (text.drop (vR (yL c).Entries text)) (text.take (vR (yL c).Entries text)) [] 0=q
 have s1:slc (q.1++q.2) 0 ((q.1.length:Nat):Int)=some q.1:=by rw [zFV (by simp)];simp
 simp only [s1,zA,zK1 hs]
 refine ⟨q.1++q.2,?_,?_⟩
 simp [hz]
 rw [zNN (by simp)];simp
end
end Go.M
namespace Go.M
open Go.AV
def n0:Norm:={Classes:=[{Lo:=769,Hi:=769,Value:=230},{Lo:=803,Hi:=803,Value:=220}],Decomp:=[],Excluded:={Ranges:=[]}}
def c0:Collation:={Entries:=[{Codes:=[97],Elements:=[{Primary:=7,Secondary:=1,Tertiary:=1,Variable:=false}]},{Codes:=[97,769],Elements:=[{Primary:=8,Secondary:=1,Tertiary:=1,Variable:=false}]}],Groups:=[],Base:=100,Second:=1,Third:=1}
end Go.M
namespace Go.M
open Go.AV
theorem z95 {n:Norm} (h:DS n.Decomp) (hl:n.Decomp.length≤2000) (c:Int) (b:Bool):w6 n c b=some (if syl c=true then (hdE c,true) else ((fnB n.Decomp b c).getD [],(fnB n.Decomp b c).isSome)):=by
 unfold w6
 rw [zLD,zA]
 by_cases hs:syl c=true
 have e:decide (4≤hkE c)=true:=by simpa using (zGD c).1 hs
 simp only [e,cond_true,z29 hs,zA,hs,if_true]
 have e:decide (4≤hkE c)=false:=by simp only [decide_eq_false_iff_not];exact fun hh=>hs ((zGD c).2 hh)
 simp only [Bool.not_eq_true] at hs
 simp only [e,cond_false,hs,Bool.false_eq_true,if_false]
 obtain ⟨i,hb,hp⟩:=z3B h hl c
 rw [hb]
 simp only [zA,zN]
 unfold fnB
 cases hf:n.Decomp.find? (isF c) with
 | none=>simp [uM]
 | some m=>
  obtain ⟨h1,h2⟩:=hp m hf
  simp only [Option.isSome_some,Bool.not_true,Bool.not_false,xH,z0 h1,h2,zA,Bool.false_or]
  cases b <;> cases hm:(m.Tag== []) <;> simp [hm]
section
variable {n:Norm} {b:Bool} (hd:DS n.Decomp) (hl:n.Decomp.length≤2000) (hD:∀c,DD n.Decomp n.Decomp.length c) (hw:∀c,(fu n.Decomp b c).length≤64)
def XOk (l:List Mapping) (b:Bool) (m:List (Int×List Int)):Prop:= ∀k v,mget m k=some v→v=fu l b k
def z3M (l:List Mapping) (f:Nat) (c:Int):Prop:=(∃k,DD l k c∧k+2≤f)∨(l.find? (isF c)=none∧syl c=false∧1≤f)
include hw in
theorem yG6 {f : Nat} (ih : ∀ c m, XOk n.Decomp b m → z3M n.Decomp f c → ∃ m', kA f c m n b = some (fu n.Decomp b c, m') ∧ XOk n.Decomp b m') (L : List Int) (hL : L.length ≤ 2000) (hn : ∀ e ∈ L, z3M n.Decomp f e) :
    ∀ (d i : Nat) (acc : List Int) (m : List (Int × List Int)), L.length - i = d → i ≤ L.length → acc.length ≤ 64 * i → XOk n.Decomp b m →
      ∃ m', zE (fun (x : Int × (List Int) × (List (Int × (List Int)))) => kV (L, true) (kA f) n b x.1 x.2.1 x.2.2) ((i : Int), acc, m) = some (acc ++ (L.drop i).flatMap (fu n.Decomp b), m') ∧ XOk n.Decomp b m' := by
  intro d
  induction d with
  | zero =>
    intro i acc m h1 h2 h3 h4
    refine ⟨m, ?_, h4⟩
    refine zJ ?_
    rw [List.drop_of_length_le (show L.length ≤ i by omega)]
    simp only [kV, kJ (show L.length ≤ i by omega), cond_false, List.flatMap_nil, List.append_nil]
  | succ d ihd =>
    intro i acc m h1 h2 h3 h4
    have hi : i < L.length := by omega
    obtain ⟨m1, hr, r1⟩ := ih L[i] m h4 (hn _ (List.getElem_mem hi))
    have hw1 := hw L[i]
    have ha : app acc (fu n.Decomp b L[i]) = some (acc ++ fu n.Decomp b L[i]) := xQ (by omega)
    rw [zP (x' := (((i + 1 : Nat) : Int), acc ++ fu n.Decomp b L[i], m1)) (by
      simp only [kV, yQ hi, cond_true, zU hi, zA, hr, ha, zM (k := i) (by omega)])]
    obtain ⟨m2, hq, q1⟩ := ihd (i + 1) (acc ++ fu n.Decomp b L[i]) m1 (by omega) (by omega) (by rw [List.length_append]; omega) r1
    refine ⟨m2, ?_, q1⟩
    rw [hq, List.drop_eq_getElem_cons hi, List.flatMap_cons, List.append_assoc]
include hd hl hD hw in
theorem yI8:∀(f:Nat) (c:Int) (m:List (Int×List Int)),XOk n.Decomp b m→z3M n.Decomp f c→∃m',kA f c m n b=some (fu n.Decomp b c,m')∧XOk n.Decomp b m':=by
 intro f
 induction f with
 | zero=>intro c m _ hn;exfalso;rcases hn with ⟨k,_,h⟩ | ⟨_,_,h⟩ <;> omega
 | succ f ih=>
  intro c m hm hn
  show ∃m',xS (kA f) c m n b=some _∧_
  unfold xS
  cases hh:zBY m c with
  | true=>
   obtain ⟨v,hv⟩:=Option.isSome_iff_exists.1 hh
   have hg:uV m c []=v:=by unfold uV;rw [hv];rfl
   rw [cond_true,hg,hm c v hv]
   exact ⟨m,rfl,hm⟩
  | false=>
   rw [cond_false,z95 hd hl,zA]
   have fin:∀(L:List Int),L.length≤2000→(∀e∈L,z3M n.Decomp f e)→L.flatMap (fu n.Decomp b)=fu n.Decomp b c→∃m',(cond (!((L,true):List Int×Bool).2) (some ([c],m)) ((zE (fun (x:Int×(List Int)×(List (Int×(List Int))))=>kV (L,true) (kA f) n b x.1 x.2.1 x.2.2) (0,[],m)).bind fun (y1:(List Int)×(List (Int×(List Int))))=>some (y1.1,uY y1.2 c y1.1)))=some (fu n.Decomp b c,m')∧XOk n.Decomp b m':=by
    intro L hL hne hfl
    obtain ⟨m1,hq,q1⟩:=yG6 hw ih L hL hne L.length 0 [] m (by omega) (by omega) (by simp) hm
    rw [List.drop_zero,List.nil_append,hfl] at hq
    have hq':zE (fun (x:Int×(List Int)×(List (Int×(List Int))))=>kV (L,true) (kA f) n b x.1 x.2.1 x.2.2) (0,[],m)=some (fu n.Decomp b c,m1):=hq
    simp only [Bool.not_true,cond_false]
    rw [hq']
    refine ⟨uY m1 c (fu n.Decomp b c),rfl,fun k v hk=>?_⟩
    rw [xP] at hk
    split at hk
    rename_i hx;cases hk;rw [hx]
    exact q1 k v hk
   cases hs:syl c with
   | true=>
    simp only [if_true]
    have hnone:=zZK hd hs
    have hpt:∀e∈hdE c,n.Decomp.find? (isF e)=none∧syl e=false:=by
     intro e he
     obtain ⟨p1,p2⟩:=zRW hs he
     refine ⟨?_,p1⟩
     cases hf2:n.Decomp.find? (isF e) with
     | none=>rfl
     | some m=>obtain ⟨q1,rfl⟩:=zFC hf2;exact absurd (hd.hk m q1) p2
    refine fin (hdE c) (by have:=zMK c;omega) (fun e he=>?_) ?_
    obtain ⟨p1,p2⟩:=hpt e he
    refine .inr ⟨p1,p2,?_⟩
    rcases hn with ⟨k,_,h⟩ | ⟨_,h,_⟩
    omega
    rw [hs] at h;cases h
    have h1:fu n.Decomp b c=hdE c:=by rw [zPK hD,zHB hnone]
    rw [h1]
    have:∀L:List Int,(∀e∈L,n.Decomp.find? (isF e)=none∧syl e=false)→L.flatMap (fu n.Decomp b)=L:=by
     intro L
     induction L with
     | nil=>intro _;rfl
     | cons x L ihL=>
      intro h
      obtain ⟨p1,p2⟩:=h x (by simp)
      have hx:fu n.Decomp b x= [x]:=by rw [zPK hD,zHB p1];show hdE x= [x];unfold hdE;rw [if_neg (by simp [p2])]
      rw [List.flatMap_cons,hx,ihL fun e he=>h e (by simp [he])]
      rfl
    exact this _ hpt
   | false=>
    simp only [Bool.false_eq_true,if_false]
    cases hf:fnB n.Decomp b c with
    | none=>
     simp only [Option.getD_none,Option.isSome_none,Bool.not_false,cond_true]
     refine ⟨m,?_,hm⟩
     rw [zPK hD,hf]
     have:hdE c= [c]:=by unfold hdE;rw [if_neg (by simp [hs])]
     simp only [this]
    | some to=>
     simp only [Option.getD_some,Option.isSome_some]
     obtain ⟨mm,h1,rfl,_⟩:=zIS hf
     obtain ⟨h2,_⟩:=zFC h1
     refine fin mm.To (hd.len mm h2) (fun e he=>?_) (by rw [zPK hD c,hf])
     rcases hn with ⟨k,hk,h⟩ | ⟨h,_,_⟩
     cases k with
     | zero=>have:n.Decomp.find? (isF c)=none:=hk;rw [this] at h1;cases h1
     | succ k=>exact .inl ⟨k,hk mm h1 e he,by omega⟩
     rw [h] at h1;cases h1
end
noncomputable def usN (n:Norm):Norm:=open Classical in if VD0 n then n else {Classes:=[],Decomp:=[],Excluded:={Ranges:=[]}}
structure GN (n:Norm):Prop where
 ds:DS n.Decomp
 cv:CV n.Classes
 H:∀m∈n.Decomp,WW n.Decomp m.From
 w:∀m∈n.Decomp,wt n.Decomp true m.From≤64
 cl:n.Classes.length≤40
 de:n.Decomp.length≤40
 ok:∀x∈n.Classes,okSpan x
theorem zWH {n:Norm} (hs:NSm n) (hok:zCC n):GN (usN n):=by
 unfold usN
 split
 rename_i h
 obtain ⟨h1,h2⟩:=(z9Y h.ds (by have:=hs.de;omega)).1 h.ms
 exact ⟨h.ds,h.cv,h1,h2,hs.cl,hs.de,hok.1.2⟩
 exact ⟨⟨fun k hk=>(by cases hk),fun m hm=>(by cases hm),fun m hm=>(by cases hm)⟩,z91,fun m hm=>(by cases hm),fun m hm=>(by cases hm),by simp,by simp,fun x hx=>by cases hx⟩
theorem GN.dd {n:Norm} (h:GN n):∀c,DD n.Decomp n.Decomp.length c:=zRZ h.ds h.H
theorem GN.len {n:Norm} (h:GN n) (b:Bool) (c:Int):(fu n.Decomp b c).length≤64:=yG0 h.ds (yG1 h.ds h.H h.w) b c
theorem GN.ex {n:Norm} (h:GN n) {b:Bool} (c:Int) (m:List (Int×List Int)) (hm:XOk n.Decomp b m):∃m',kA 100 c m n b=some (fu n.Decomp b c,m')∧XOk n.Decomp b m':=
 yI8 h.ds (by have:=h.de;omega) h.dd (h.len b) 100 c m hm (.inl ⟨_,h.dd c,by have:=h.de;omega⟩)
theorem yDP {n:Norm} (hs:NSm n) (hok:zCC n):uH n=some (usN n):=by
 obtain ⟨e,he,hv⟩:=z9T hs hok
 unfold uH usN
 rw [he,zA]
 by_cases hz:e=0
 rw [if_pos (hv.1 hz)];simp [hz]
 rw [if_neg (fun h=>hz (hv.2 h))];simp [hz]
theorem zZQ {f:Int→List Int} {k:Nat} (h:∀e,(f e).length≤k):∀L:List Int,(L.flatMap f).length≤k*L.length
 | []=>by simp
 | x::L=>by have:=zZQ h L;have:=h x;rw [List.flatMap_cons,List.length_append,List.length_cons,Nat.mul_succ];omega
theorem z57 {n : Norm} (h : GN n) {b : Bool} {text : List Int} (ht : text.length ≤ 2000) : ∀ (d i : Nat) (acc : List Int) (m : List (Int × List Int)), text.length - i = d → i ≤ text.length → acc.length ≤ 64 * i → XOk n.Decomp b m →
    zE (fun (x : Int × (List Int) × (List (Int × (List Int)))) => jO text n b x.1 x.2.1 x.2.2) ((i : Int), acc, m) = some (acc ++ (text.drop i).flatMap (fu n.Decomp b)) := by
  intro d
  induction d with
  | zero =>
    intro i acc m h1 h2 h3 h4
    refine zJ ?_
    rw [List.drop_of_length_le (show text.length ≤ i by omega)]
    simp only [jO, kJ (show text.length ≤ i by omega), cond_false, List.flatMap_nil, List.append_nil]
  | succ d ih =>
    intro i acc m h1 h2 h3 h4
    have hi : i < text.length := by omega
    obtain ⟨m1, hr, r1⟩ := h.ex (b := b) text[i] m h4
    have hw1 := h.len b text[i]
    have ha : app acc (fu n.Decomp b text[i]) = some (acc ++ fu n.Decomp b text[i]) := xQ (by omega)
    rw [zP (x' := (((i + 1 : Nat) : Int), acc ++ fu n.Decomp b text[i], m1)) (by
      simp only [jO, yQ hi, cond_true, zU hi, zA, hr, ha, zM (k := i) (by omega)])]
    rw [ih (i + 1) (acc ++ fu n.Decomp b text[i]) m1 (by omega) (by omega) (by rw [List.length_append]; omega) r1, List.drop_eq_getElem_cons hi, List.flatMap_cons, List.append_assoc]
noncomputable def zHC (n:Norm) (b:Bool) (text:List Int):List Int:=text.flatMap (fu (usN n).Decomp b)
theorem yDQ {n:Norm} (hs:NSm n) (hok:zCC n) {text:List Int} (ht:text.length≤2000) (b:Bool):xT n text b=zAT (usN n).Classes (zHC n b text):=by
 have h:=zWH hs hok
 unfold xT zBR
 have hu:uH {Classes:=n.Classes,Decomp:=n.Decomp,Excluded:={Ranges:=n.Excluded.Ranges}}=some (usN n):=yDP hs hok
 have hlp:=z57 h (b:=b) ht text.length 0 [] [] (by omega) (by omega) (by simp) (fun k v h=>by cases h)
 rw [List.drop_zero,List.nil_append] at hlp
 have hlp':zE (fun (x:Int×(List Int)×(List (Int×(List Int))))=>jO text (usN n) b x.1 x.2.1 x.2.2) (0,[],[])=some (zHC n b text):=hlp
 rw [hu,zA,zA,hlp',zA]
 cases zAT (usN n).Classes (zHC n b text) <;> rfl
end Go.M
namespace Go.M
open Go.AV
section
variable (key:Int→Int)
def ltK (a b:Int):Bool:=decide (key a < key b)
def ltC (a b:Int):Bool:=decide (0 < key a)&&decide (key a < key b)
def srt (l:List Int):List Int:=uA (ltK key) l []
def csE (l:List Int):List Int:=uA (ltC key) l []
def rsE:List Int→List Int→List Int
 | [],run=>srt key run
 | x::t,run=>if key x=0 then srt key run++x::rsE t [] else rsE t (run++ [x])
end
section
variable {key:Int→Int}
theorem z96 (l:List Int) (x:Int):srt key (l++ [x])=vD (ltK key) (srt key l).reverse x []:=by
 unfold srt uA
 rw [List.foldl_append]
 rfl
theorem z3N (l:List Int):Flt key l (srt key l):=by
 have:=zLG (key:=key) l []
 exact this
theorem z3O (l:List Int):(srt key l).length=l.length:=(z3N l).len.symm
theorem z3P {x:Int} (hx:0 < key x):∀(r q s:List Int),(∀y,q.head? =some y→key y=0)→vD (ltC key) (r++q) x s=q.reverse++vD (ltK key) r x s
 | [],q,s,hq=>by
  cases q with
  | nil=>rfl
  | cons y q=>
   have:ltC key x y=false:=by unfold ltC;rw [hq y rfl];simp;omega
   show vD (ltC key) (y::q) x s=_
   simp only [vD,this,Bool.false_eq_true,if_false]
 | y::r,q,s,hq=>by
  have e:ltC key x y=ltK key x y:=by unfold ltC ltK;simp [hx]
  show vD (ltC key) (y::(r++q)) x s=q.reverse++vD (ltK key) (y::r) x s
  simp only [vD,e]
  cases ltK key x y with
  | true=>simp only [if_true];exact z3P hx r q (y::s) hq
  | false=>simp
theorem z97 (hnn : ∀ x, 0 ≤ key x) : ∀ (t run p : List Int), (∀ y, p.reverse.head? = some y → key y = 0) → uA (ltC key) t (p ++ srt key run) = p ++ rsE key t run
  | [], run, p, _ => rfl
  | x :: t, run, p, hp => by
    show uA (ltC key) t (vD (ltC key) (p ++ srt key run).reverse x []) = p ++ rsE key (x :: t) run
    by_cases h0 : key x = 0
    · have e : ∀ r : List Int, vD (ltC key) r x [] = r.reverse ++ [x] := by
        intro r
        cases r with
        | nil => rfl
        | cons y r =>
          have : ltC key x y = false := by unfold ltC; rw [h0]; simp
          simp [vD, this]
      have ih := z97 hnn t [] (p ++ srt key run ++ [x]) (fun y hy => by simp at hy; rw [← hy]; exact h0)
      have e2 : srt key [] = [] := rfl
      rw [e2, List.append_nil] at ih
      rw [e, List.reverse_reverse, ih]
      simp [rsE, h0]
    · have hx : 0 < key x := by have := hnn x; omega
      rw [List.reverse_append, z3P hx _ _ _ hp, List.reverse_reverse, ← z96, z97 hnn t (run ++ [x]) p hp]
      simp [rsE, h0]
theorem yG9 (hnn:∀x,0≤key x) (t:List Int):csE key t=rsE key t []:=by
 have:=z97 hnn t [] [] (fun y hy=>by cases hy)
 exact this
theorem z98 (t:List Int):(csE key t).Perm t:=by
 have:=zJE (ltC key) t []
 rw [List.nil_append] at this
 exact this
theorem yDR (t:List Int):(csE key t).length=t.length:=(z98 t).length_eq
theorem zZR {f:List Int→Option (List Int)} {P run T r:List Int} (hpos:0 < run.length) (hf:f run=some r):zJM f (P++run++T) (P.length:Int) ((P.length+run.length:Nat):Int)=some (P++r++T):=by
 unfold zJM
 have a1:((P.length:Int)).toNat=P.length:=by simp
 have a2:(((P.length+run.length:Nat):Int)).toNat=P.length+run.length:=by omega
 rw [a1,a2,if_pos ⟨by omega,by omega,by rw [List.length_append,List.length_append];omega⟩]
 have e1:((P++run++T).drop P.length).take (P.length+run.length - P.length)=run:=by
  rw [List.append_assoc,List.drop_left,show P.length+run.length - P.length=run.length by omega,List.take_left]
 have d1:(P++run++T).take P.length=P:=by rw [List.append_assoc,List.take_left]
 have d2:(P++run++T).drop (P.length+run.length)=T:=by rw [←List.length_append,List.drop_left]
 rw [e1,d1,d2,hf]
 rfl
theorem z3Q {f : List Int → Option (List Int)} {st : Int → Bool} (hst : ∀ x, st x = decide (key x = 0)) (hf : ∀ l, l.length ≤ 2000 → f l = some (srt key l)) : ∀ (t run P : List Int) (s : Int), P.length + run.length + t.length ≤ 2000 → (run = [] ∧ s = -1 ∨ run ≠ [] ∧ s = (P.length : Int)) →
    uN f Range.Lo Range.Hi (P ++ run ++ t) (jQ st t ((P.length + run.length : Nat) : Int) s) = some (P ++ rsE key t run)
  | [], run, P, s, hl, hs => by
    rcases hs with ⟨rfl, rfl⟩ | ⟨hne, rfl⟩
    · simp only [jQ, show ¬ (0 : Int) ≤ -1 by decide, if_false]
      show some (P ++ [] ++ []) = some (P ++ [])
      simp
    · have h0 : (0 : Int) ≤ (P.length : Int) := by omega
      simp only [jQ, h0, if_true]
      have hpos : 0 < run.length := List.length_pos_iff.2 hne
      show (some (P ++ run ++ [])).bind (fun l => zJM f l (P.length : Int) ((P.length + run.length : Nat) : Int)) = _
      rw [zA, zZR hpos (hf run (by simp at hl; omega))]
      simp [rsE]
  | x :: t, run, P, s, hl, hs => by
    have hl' : P.length + run.length + t.length + 1 ≤ 2000 := by simp only [List.length_cons] at hl; omega
    by_cases h0 : key x = 0
    · have hsx : st x = true := by rw [hst]; simp [h0]
      rcases hs with ⟨rfl, rfl⟩ | ⟨hne, rfl⟩
      · have e : jQ st (x :: t) ((P.length + ([] : List Int).length : Nat) : Int) (-1) = jQ st t (((P ++ [x]).length + ([] : List Int).length : Nat) : Int) (-1) := by
          simp only [jQ, hsx]
          simp
        have ih := z3Q hst hf t [] (P ++ [x]) (-1) (by simp only [List.length_append, List.length_singleton, List.length_nil]; simp at hl'; omega) (.inl ⟨rfl, rfl⟩)
        rw [e, show P ++ [] ++ x :: t = P ++ [x] ++ [] ++ t by simp, ih]
        have e2 : srt key [] = [] := rfl
        simp [rsE, h0, e2]
      · have h00 : (0 : Int) ≤ (P.length : Int) := by omega
        have hpos : 0 < run.length := List.length_pos_iff.2 hne
        have e : jQ st (x :: t) ((P.length + run.length : Nat) : Int) (P.length : Int) = { Lo := (P.length : Int), Hi := ((P.length + run.length : Nat) : Int) } :: jQ st t (((P ++ srt key run ++ [x]).length + ([] : List Int).length : Nat) : Int) (-1) := by
          have e3 : (((P ++ srt key run ++ [x]).length + ([] : List Int).length : Nat) : Int) = ((P.length + run.length : Nat) : Int) + 1 := by simp [z3O]; omega
          rw [e3]
          simp only [jQ, hsx, Bool.not_true, Bool.false_and, Bool.false_eq_true, if_false, Bool.true_and, h00, decide_true, if_true]
        have ih := z3Q hst hf t [] (P ++ srt key run ++ [x]) (-1) (by simp [z3O]; omega) (.inl ⟨rfl, rfl⟩)
        have e4 : zJM f (P ++ run ++ x :: t) (P.length : Int) ((P.length + run.length : Nat) : Int) = some (P ++ srt key run ++ [x] ++ [] ++ t) := by
          rw [zZR hpos (hf run (by omega))]
          simp
        have e5 : uN f Range.Lo Range.Hi (P ++ run ++ x :: t) ({ Lo := (P.length : Int), Hi := ((P.length + run.length : Nat) : Int) } :: jQ st t (((P ++ srt key run ++ [x]).length + ([] : List Int).length : Nat) : Int) (-1)) = uN f Range.Lo Range.Hi (P ++ srt key run ++ [x] ++ [] ++ t) (jQ st t (((P ++ srt key run ++ [x]).length + ([] : List Int).length : Nat) : Int) (-1)) := by
          unfold uN
          rw [List.foldl_cons, zA, e4]
        rw [e, e5, ih]
        simp [rsE, h0]
    · have hsx : st x = false := by rw [hst]; simp [h0]
      have e : jQ st (x :: t) ((P.length + run.length : Nat) : Int) s = jQ st t ((P.length + (run ++ [x]).length : Nat) : Int) (P.length : Int) := by
        have e3 : ((P.length + (run ++ [x]).length : Nat) : Int) = ((P.length + run.length : Nat) : Int) + 1 := by simp; omega
        rw [e3]
        rcases hs with ⟨rfl, rfl⟩ | ⟨hne, rfl⟩
        · simp [jQ, hsx]
        · have : ¬ ((P.length : Int) < 0) := by omega
          simp only [jQ, hsx, Bool.not_false, Bool.true_and, this, decide_false, Bool.false_eq_true, if_false, Bool.false_and]
      have ih := z3Q hst hf t (run ++ [x]) P (P.length : Int) (by simp; omega) (.inr ⟨by simp, rfl⟩)
      rw [e, show P ++ run ++ x :: t = P ++ (run ++ [x]) ++ t by simp, ih]
      simp [rsE, h0]
end
theorem z99 {l:List Span} (h:CV l) (hl:l.length≤2000) (x y:Int):xY x y l=some (sg (clE l x) (clE l y)):=by
 unfold xY
 simp only [zHA h hl,zA,z50]
 unfold sg
 rfl
theorem yHA {l:List Span} (h:CV l) (hl:l.length≤2000) (hok:∀x∈l,okSpan x) {text:List Int} (ht:text.length≤2000):zAT l text=some (csE (clE l) text):=by
 have hnn:∀x,0≤clE l x:=yI7 h
 unfold zAT zAK
 have hst:∀x,(kO l x==some 0)=decide (clE l x=0):=fun x=>by rw [zHA h hl];by_cases hx:clE l x=0 <;> simp [hx]
 rw [zUN hl hok h,zA,yGP ht,zA,zZH h hl ht hst rfl,zA]
 have:=z3Q (key:=clE l) (f:=fun p=>kH p (fun x0 x1=>xY x0 x1 l)) (st:=fun c=>kO l c==some 0) hst (fun p hp=>by
  obtain ⟨r,r1,r2,r3⟩:=z56 (key:=clE l) (f:=fun x0 x1=>xY x0 x1 l) (fun x y=>z99 h hl x y) p hp
  rw [r1]
  have:=zZM (key:=clE l) r2 (zOW (key:=clE l) p) (r3.symm.trans (z3N p))
  rw [this]
  rfl) text [] [] (-1) (by simpa using ht) (.inl ⟨rfl,rfl⟩)
 rw [yG9 hnn]
 exact this
noncomputable def zBW (n:Norm) (b:Bool) (text:List Int):List Int:=csE (clE (usN n).Classes) (zHC n b text)
theorem zK2 (n:Norm) (b:Bool) (text:List Int):(zBW n b text).length=(zHC n b text).length:=yDR _
theorem z58 {n:Norm} (hs:NSm n) (hok:zCC n) (b:Bool) (text:List Int):(zHC n b text).length≤64*text.length:=zZQ ((zWH hs hok).len b) text
theorem zZS {n:Norm} (hs:NSm n) (hok:zCC n) {text:List Int} {b:Bool} (ht:text.length≤2000) (hf:(zHC n b text).length≤2000):xT n text b=some (zBW n b text):=by
 have h:=zWH hs hok
 rw [yDQ hs hok ht,yHA h.cv (by have:=h.cl;omega) h.ok hf]
 rfl
end Go.M
namespace Go.M
open Go.AV
noncomputable def wkE (c:Collation) (l:List Span):Nat→List Int→List Element×Bool
 | 0,_=>([],true)
 | k+1,text=>if text= [] then ([],true) else ((stE c l text).2.2++(wkE c l k (stE c l text).2.1).1,decide (vR (yL c).Entries text≠0)&&(wkE c l k (stE c l text).2.1).2)
theorem yAA {c:Collation} {l:List Span} {text:List Int} (h0:text≠[]):1≤(stE c l text).1∧(stE c l text).1+((stE c l text).2.1.length:Int)=(text.length:Int):=by
 have hpos:0 < text.length:=List.length_pos_iff.2 h0
 unfold stE
 split
 refine ⟨by simp,?_⟩
 show (1:Int)+((text.drop 1).length:Int)=_
 rw [List.length_drop];omega
 rename_i hz
 have hle:vR (yL c).Entries text≤text.length:=zNU _ _
 have hinv:=zNV (fd:=fun q=>(zC5 (yL c).Entries q).2) (cl:=clE l) (text.drop (vR (yL c).Entries text)) (text.take (vR (yL c).Entries text)) [] 0
 generalize zC9 (fun q=>(zC5 (yL c).Entries q).2) (clE l) (text.drop (vR (yL c).Entries text)) (text.take (vR (yL c).Entries text)) [] 0=q at*
 obtain ⟨i1,i2,_⟩:=hinv
 rw [List.length_take,Nat.min_eq_left hle] at i1 i2
 rw [List.length_drop] at i2
 simp only [List.length_nil] at i2
 constructor
 show (1:Int)≤(q.1.length:Int);omega
 show (q.1.length:Int)+(q.2.length:Int)=_;omega
theorem zZT {c:Collation} {l:List Span} {text:List Int} (h0:text≠[]):(stE c l text).2.1.length < text.length:=by
 have:=yAA (c:=c) (l:=l) h0
 omega
theorem yAB {c:Collation} (hs:Sm c) {l:List Span} (text:List Int):(stE c l text).2.2.length≤2000:=by
 unfold stE
 split
 exact yC9 _ _
 exact yC8 (z1U hs) _
theorem z3R {c:Collation} {l:List Span}:∀(k j:Nat) (text:List Int),text.length≤k→text.length≤j→wkE c l k text=wkE c l j text
 | 0,j,text,h,_=>by
  have:text= []:=List.eq_nil_of_length_eq_zero (by omega)
  subst this
  cases j with
  | zero=>rfl
  | succ j=>simp [wkE]
 | k+1,j,text,h,hj=>by
  by_cases h0:text= []
  subst h0
  cases j <;> simp [wkE]
  have hpos:0 < text.length:=List.length_pos_iff.2 h0
  cases j with
  | zero=>omega
  | succ j=>
   have hlt:=zZT (c:=c) (l:=l) h0
   simp only [wkE,h0,if_false]
   rw [z3R k j _ (by omega) (by omega)]
noncomputable def wk (c:Collation) (l:List Span) (text:List Int):List Element×Bool:=wkE c l text.length text
theorem zOY (c:Collation) (l:List Span):wk c l []=([],true):=rfl
theorem zWI {c:Collation} {l:List Span} {text:List Int} (h0:text≠[]):wk c l text=((stE c l text).2.2++(wk c l (stE c l text).2.1).1,decide (vR (yL c).Entries text≠0)&&(wk c l (stE c l text).2.1).2):=by
 have hlt:=zZT (c:=c) (l:=l) h0
 unfold wk
 obtain ⟨k,hk⟩:∃k,text.length=k+1:=⟨text.length - 1,by have:=List.length_pos_iff.2 h0;omega⟩
 rw [hk]
 simp only [wkE,h0,if_false]
 rw [z3R k (stE c l text).2.1.length _ (by omega) (by omega)]
theorem yHB {c:Collation} (hs:Sm c) {l:List Span}:∀(k:Nat) (text:List Int),text.length≤k→(wk c l text).1.length≤2000*text.length:=by
 intro k
 induction k with
 | zero=>
  intro text h
  have:text= []:=List.eq_nil_of_length_eq_zero (by omega)
  subst this;rw [zOY];simp
 | succ k ih=>
  intro text h
  by_cases h0:text= []
  subst h0;rw [zOY];simp
  have hlt:=zZT (c:=c) (l:=l) h0
  have h1:=ih _ (show (stE c l text).2.1.length≤k by omega)
  have h2:=yAB hs (l:=l) text
  rw [zWI h0]
  show ((stE c l text).2.2++(wk c l (stE c l text).2.1).1).length≤_
  rw [List.length_append]
  omega
section
variable {c:Collation} (hs:Sm c) {l:List Span} (hcv:CV l) (hl:l.length≤2000)
include hs hcv hl
theorem yDT:∀(k:Nat) (text:List Int) (acc:List Element),text.length≤k→text.length≤2000→acc.length+2000*text.length≤100000000→zE (fun (x:(List Element)×(List Int))=>jN (zK0 c l) x.1 x.2) (acc,text)=some (acc++(wk c l text).1):=by
 intro k
 induction k with
 | zero=>
  intro text acc h _ _
  have:text= []:=List.eq_nil_of_length_eq_zero (by omega)
  subst this
  refine zJ ?_
  simp [jN,zOY]
 | succ k ih=>
  intro text acc h ht ha
  by_cases h0:text= []
  subst h0
  refine zJ ?_
  simp [jN,zOY]
  have hpos:0 < text.length:=List.length_pos_iff.2 h0
  have hlt:=zZT (c:=c) (l:=l) h0
  have h2:=yAB hs (l:=l) text
  obtain ⟨seq,m1,m2⟩:=z94 hs hcv hl ht h0
  have e0:decide ((0:Int) < (text.length:Int))=true:=by simp;omega
  have ea:app acc (stE c l text).2.2=some (acc++(stE c l text).2.2):=xQ (by omega)
  rw [zP (x':=(acc++(stE c l text).2.2,(stE c l text).2.1)) (by simp only [jN,e0,cond_true,m1,zA,ea,m2])]
  rw [ih _ _ (by omega) (by omega) (by rw [List.length_append];omega),zWI h0,List.append_assoc]
end
theorem zR2 (n:Norm):jP n=(usN n).Classes:=by
 unfold jP usN
 split <;> rfl
section
variable {n:Norm} {c:Collation} (hn:NSm n) (hok:zCC n) (hs:Sm c) (hg:∀g∈c.Groups,g.Name.length≤MX) {text:List Int} (ht:text.length≤2000) (hf:(zHC n false text).length≤2000)
include hn hok hs hg ht hf
theorem zZU:uR n c text=some (wk c (jP n) (zBW n false text)).1:=by
 unfold uR
 have hl:(jP n).length≤2000:=by have:=zOX hn;omega
 have hd:(zBW n false text).length≤2000:=by rw [zK2];exact hf
 rw [yC5 hs hg,zA,yDO hn hok,zA,zZS hn hok ht hf,zA,yDT hs (zZP n) hl _ _ [] (Nat.le_refl _) hd (by simp;omega)]
 rfl
end
theorem z11 {n:Norm} {c:Collation} (hs:Sm c) {text:List Int} (hd:(zBW n false text).length≤2000):(wk c (jP n) (zBW n false text)).1.length≤1000000000:=by
 have:=yHB hs (l:=jP n) _ (zBW n false text) (Nat.le_refl _)
 omega
end Go.M
namespace Go.M
open Go.AV
end Go.M
namespace Go.M
open Go.AV
end Go.M
namespace Go.M
open Go.AV
theorem yI9 (a0 : List Span) (v6 : Nat) (hv : v6 < a0.length) (H : List Range) (hH : H = [{ Lo := 4352, Hi := 4370 }, { Lo := 4449, Hi := 4469 }, { Lo := 4520, Hi := 4546 }, { Lo := 44032, Hi := 55203 }]) :
    (zE (fun (x : Int) => w8 H a0 (v6 : Int) x) 0 = some (.inl ()) ∧ hgOk (nth a0 v6)) ∨ (zE (fun (x : Int) => w8 H a0 (v6 : Int) x) 0 = some (.inr 11) ∧ ¬ hgOk (nth a0 v6)) := by
  have h := kZ (body := fun (x : Int) => w8 H a0 (v6 : Int) x) H.length (fun k => ¬ ((nth a0 v6).Lo ≤ (nth H k).Hi ∧ (nth H k).Lo ≤ (nth a0 v6).Hi)) (fun y => y = 11) (fun k hk => by
    have hl : H.length = 4 := by rw [hH]; rfl
    simp only [w8, yQ hk, cond_true, z0 hv, z0 hk, zA, zN, zM (k := k) (by omega)]
    by_cases h1 : (nth a0 v6).Lo ≤ (nth H k).Hi
    · simp only [h1, decide_true, xH, zA, Bool.true_and, true_and]
      exact uZ (by simp) rfl
    · simp only [h1, decide_false, uM, zA, Bool.false_and, cond_false, false_and]
      exact .inl ⟨by simp, trivial⟩) (fun k hk => by simp only [w8, kJ hk, cond_false])
  have e : (∀ j, j < H.length → ¬ ((nth a0 v6).Lo ≤ (nth H j).Hi ∧ (nth H j).Lo ≤ (nth a0 v6).Hi)) ↔ hgOk (nth a0 v6) := by
    subst hH
    unfold hgOk
    constructor
    · intro h; exact ⟨h 0 (by decide), h 1 (by decide), h 2 (by decide), h 3 (by decide)⟩
    · rintro ⟨h0, h1, h2, h3⟩ j hj
      have hj' : j < 4 := hj
      match j, hj' with
      | 0, _ => exact h0
      | 1, _ => exact h1
      | 2, _ => exact h2
      | 3, _ => exact h3
  rw [e] at h
  rcases h with h | ⟨y, rfl, h⟩
  · exact .inl h
  · exact .inr h
theorem yAC {l:List Span} (hl:l.length≤2000):Ver (zDY l) (CV l):=by
 have h0:=kZ (body:=fun (x:Int)=>zBA l x) l.length (fun k=>spOk (nth l k)) (fun y=>y≠0) (fun k hk=>by
  simp only [zBA,yQ hk,cond_true,z0 hk,zA,zN,zD0,zM (k:=k) (by omega),spOk,vld]
  generalize nth l k=q
  by_cases h1:0≤q.Lo <;> by_cases h2:q.Lo≤1114111 <;> by_cases h3:0≤q.Hi <;> by_cases h4:q.Hi≤1114111 <;> by_cases h5:q.Hi < q.Lo <;> by_cases h6:q.Value < 1 <;> by_cases h7:254 < q.Value <;> simp [h1,h2,h3,h4,h5,h6,h7,xH,uM,zA] <;> omega) (fun k hk=>by simp only [zBA,kJ hk,cond_false])
 unfold zDY Ver
 rcases h0 with ⟨h0,p0⟩ | ⟨y,hy,h0,p0⟩
 rw [h0]
 simp only [zA,Sum.elim_inl]
 have h1:=zLC (body:=fun (x:Int)=>zBB l x) l.length (fun k=>adOk (nth l k) (nth l (k+1))) (fun y=>y≠0) (fun k hk=>by
  have hk':k < l.length:=by omega
  have w:=(p0 k hk').2.1
  have w0:=(p0 k hk').1
  have w1:=(p0 k hk').2.2.1
  simp only [zBB,yQ hk,cond_true,z0 hk,zA,zN,zM (k:=k+1) (by omega),zCG (k:=k) (by omega),z0 hk']
  by_cases a1:(nth l (k+1)).Lo≤(nth l k).Hi
  simp only [a1,decide_true,Bool.not_true,uM,zA,Bool.false_and,Bool.true_or,cond_true]
  exact .inr ⟨by unfold adOk;omega,4,by decide,rfl⟩
  simp only [a1,decide_false,Bool.not_false,xH,zA,Bool.true_and,Bool.false_or]
  rw [xO (n:=(nth l k).Hi+1) (by omega) (by omega)]
  by_cases a2:(nth l (k+1)).Lo=(nth l k).Hi+1
  simp only [a2,decide_true,xH,zA,Bool.true_and]
  exact uZ (by unfold adOk;simp only [decide_eq_true_eq];omega) (by decide)
  simp only [a2,decide_false,uM,zA,Bool.false_and,cond_false]
  exact .inl ⟨by unfold adOk;omega,trivial⟩) (fun k hk=>by simp only [zBB,kJ hk,cond_false])
 rcases h1 with ⟨h1,p1⟩ | ⟨y,hy,h1,p1⟩
 rw [h1]
 simp only [zA,Sum.elim_inl,zGA]
 have h2:=kZ (body:=fun (x:Int)=>zBC l [{Lo:=4352,Hi:=4370},{Lo:=4449,Hi:=4469},{Lo:=4520,Hi:=4546},{Lo:=44032,Hi:=55203}] x) l.length (fun k=>hgOk (nth l k)) (fun y=>y≠0) (fun k hk=>by
  simp only [zBC,yQ hk,cond_true,zM (k:=k) (by omega)]
  rcases yI9 l k hk _ rfl with ⟨h,p⟩ | ⟨h,p⟩
  rw [h];exact .inl ⟨p,rfl⟩
  rw [h];exact .inr ⟨p,11,by decide,rfl⟩) (fun k hk=>by simp only [zBC,kJ hk,cond_false])
 rcases h2 with ⟨h2,p2⟩ | ⟨y,hy,h2,p2⟩
 rw [h2];exact ⟨0,rfl,by simp only [true_iff];exact ⟨p0,p1,p2⟩⟩
 rw [h2];exact ⟨y,rfl,by simp only [hy,false_iff];exact fun h=>p2 h.hg⟩
 rw [h1];exact ⟨y,rfl,by simp only [hy,false_iff];exact fun h=>p1 h.ad⟩
 rw [h0];exact ⟨y,rfl,by simp only [hy,false_iff];exact fun h=>p0 h.sp⟩
theorem zHD {l:List Span} (hl:l.length≤2000) (h:CV l) (c:Int):zAN l c=some (clE l c):=by
 obtain ⟨e,he,hp⟩:=yAC hl
 unfold zAN
 rw [he,zA,hp.2 h]
 simp only [decide_true,Bool.not_true,cond_false]
 have hb:∀k,k < l.length→xU l c (k:Int)=if zP6 c (nth l k) then some (.done (.inr (nth l k).Value)) else some (.next ((k+1:Nat):Int)):=fun k hk=>by
  simp only [xU,yQ hk,cond_true,z0 hk,zA,zN,zM (k:=k) (by omega),zP6]
  by_cases h1:(nth l k).Lo≤c
  · by_cases h2:c≤(nth l k).Hi <;> simp [h1,h2,xH]
  · simp [h1,uM]
 have key:∀(d k:Nat),l.length - k=d→k≤l.length→(∀j,j < k→zP6 c (nth l j)=false)→(zE (fun (x:Int)=>xU l c x) (k:Int)).bind (fun y=>y.elim (fun _=>some 0) fun y=>some y)=some (clE l c):=by
  intro d
  induction d with
  | zero=>
   intro k h1 h2 h3
   have:k=l.length:=by omega
   subst this
   rw [zJ (y:= .inl ()) (by simp only [xU,kJ (Nat.le_refl _),cond_false])]
   unfold clE
   rw [zWC h3]
   rfl
  | succ d ih=>
   intro k h1 h2 h3
   have hk:k < l.length:=by omega
   cases hi:zP6 c (nth l k) with
   | true=>
    rw [zJ (y:= .inr (nth l k).Value) (by show xU l c (k:Int)=_;rw [hb k hk,hi];rfl)]
    unfold clE
    rw [zNS hk h3 hi]
    rfl
   | false=>
    rw [zP (x':=((k+1:Nat):Int)) (by show xU l c (k:Int)=_;rw [hb k hk,hi];rfl)]
    refine ih (k+1) (by omega) (by omega) fun j hj=>?_
    by_cases e:j=k
    · subst e;exact hi
    · exact h3 j (by omega)
 exact key l.length 0 (by omega) (by omega) (fun j hj=>by omega)
theorem zMN {l:List Span} (hl:l.length≤2000) (h:CV l) (c:Int):zDK l c=some (decide (clE l c=0)):=by
 unfold zDK
 rw [zHD hl h]
 rfl
end Go.M
namespace Go.M
open Go.AV
theorem yHC {a b c:Mapping} (h1:mlt a b) (h2:mlt b c):mlt a c:=by
 unfold mlt at*
 rcases h1 with h1 | ⟨h1,t1⟩
 rcases h2 with h2 | ⟨h2,t2⟩
 exact .inl (by omega)
 exact .inl (by omega)
 rcases h2 with h2 | ⟨h2,t2⟩
 exact .inl (by omega)
 exact .inr ⟨by omega,List.lt_trans t1 t2⟩
theorem yDU {a b:Mapping} (h:mlt a b):¬(a.From=b.From∧a.Tag=b.Tag):=by
 rintro ⟨h1,h2⟩
 unfold mlt at h
 rcases h with h | ⟨_,h⟩
 omega
 rw [h2] at h;exact List.lt_irrefl _ h
theorem z3S {l:List Mapping} (h:∀k,k+1 < l.length→mlt (nth l k) (nth l (k+1))):∀(d i:Nat),i+d+1 < l.length→mlt (nth l i) (nth l (i+d+1))
 | 0,i,hi=>h i hi
 | d+1,i,hi=>by
  have h1:=z3S h d i (by omega)
  have h3:=h (i+d+1) (by omega)
  have:i+(d+1)+1=i+d+1+1:=by omega
  rw [this]
  exact yHC h1 h3
theorem yJA (x y:Str):(x==y)=decide (x=y):=by
 rw [Bool.eq_iff_iff];simp
section
variable {l:List Mapping} (hl:l.length≤2000) (hto:∀m∈l,m.To.length≤2000) (htg:∀m∈l,m.Tag.length≤MX)
include hl hto htg
omit hl hto htg in
theorem yAD {m:Mapping} (hm:m.To.length≤2000):∃b,zFI m=some b∧(b=true↔codesOk m):=by
 unfold zFI
 have h:=kZ (body:=fun (x:Int)=>zBD m x) m.To.length (fun j=>vld (nth m.To j)=true) (fun y=>y=false) (fun j hj=>by
  simp only [zBD,yQ hj,cond_true,z0 hj,zA,zD0,zM (k:=j) (by omega)]
  exact uZ (by simp) rfl) (fun j hj=>by simp only [zBD,kJ hj,cond_false])
 rw [zCH (p:=fun c=>vld c=true)] at h
 rcases h with ⟨h,p⟩ | ⟨y,rfl,h,p⟩
 rw [h]
 simp only [zA,Sum.elim_inl,zD0]
 exact ⟨_,rfl,⟨fun a=>⟨a,p⟩,fun a=>a.1⟩⟩
 rw [h];exact ⟨false,rfl,by simp only [Bool.false_eq_true,false_iff];exact fun a=>p a.2⟩
omit hto htg in
theorem yAE:∃b,zFJ l=some b∧(b=true→¬∀k,k+1 < l.length→mlt (nth l k) (nth l (k+1)))∧(b=false→True):=by
 unfold zFJ
 have inner:∀i,i < l.length→(zE (fun (x:Int)=>w9 (i:Int) l x) 0=some (.inl ())∧∀j,j < i→¬((nth l i).From=(nth l j).From∧(nth l i).Tag=(nth l j).Tag))∨(∃y,y=true∧zE (fun (x:Int)=>w9 (i:Int) l x) 0=some (.inr y)∧¬∀j,j < i→¬((nth l i).From=(nth l j).From∧(nth l i).Tag=(nth l j).Tag)):=by
  intro i hi
  refine kZ (body:=fun (x:Int)=>w9 (i:Int) l x) i _ (fun y=>y=true) (fun j hj=>?_) (fun j hj=>by simp only [w9,kJ hj,cond_false])
  have hj':j < l.length:=by omega
  simp only [w9,yQ hj,cond_true,z0 hi,z0 hj',zA,zN,zM (k:=j) (by omega),yJA]
  by_cases a:(nth l i).From=(nth l j).From
  simp only [a,decide_true,xH,zA,Bool.true_and,true_and]
  exact uZ (by simp) rfl
  simp only [a,decide_false,uM,zA,Bool.false_and,cond_false,false_and]
  exact .inl ⟨by simp,trivial⟩
 have h:=kZ (body:=fun (x:Int)=>zBE l x) l.length (fun i=> ∀j,j < i→¬((nth l i).From=(nth l j).From∧(nth l i).Tag=(nth l j).Tag)) (fun y=>y=true) (fun k hk=>by
  simp only [zBE,yQ hk,cond_true,zM (k:=k) (by omega)]
  rcases inner k hk with ⟨h,p⟩ | ⟨y,hy,h,p⟩
  rw [h];exact .inl ⟨p,rfl⟩
  rw [h];exact .inr ⟨p,y,hy,rfl⟩) (fun j hj=>by simp only [zBE,kJ hj,cond_false])
 rcases h with ⟨h,p⟩ | ⟨y,rfl,h,p⟩
 rw [h];exact ⟨false,rfl,fun h=>(by cases h),fun _=>trivial⟩
 rw [h]
 refine ⟨true,rfl,fun _ hh=>p fun i hi j hj=>?_,fun _=>trivial⟩
 have:=z3S hh (i - j - 1) j (by omega)
 rw [show j+(i - j - 1)+1=i by omega] at this
 have:=yDU this
 exact fun ⟨a,b⟩=>this ⟨a.symm,b.symm⟩
theorem yHD:∃e,zCQ l=some e∧(e=0→(∀m∈l,codesOk m)∧(∀m∈l,m.To.length≤64)∧∀m∈l,tagOk m)∧(e≠0→¬MV l):=by
 unfold zCQ
 have h0:=kZ (body:=fun (x:Int)=>vL l x) l.length (fun k=>codesOk (nth l k)) (fun y=>y≠0) (fun k hk=>by
  obtain ⟨b,hb,hp⟩:=yAD (hto _ (x9 hk))
  simp only [vL,yQ hk,cond_true,z0 hk,zA,hb,zM (k:=k) (by omega)]
  exact uZ (by rw [←hp];simp) (by decide)) (fun k hk=>by simp only [vL,kJ hk,cond_false])
 rw [zCH (p:=codesOk)] at h0
 rcases h0 with ⟨h0,p0⟩ | ⟨y,hy,h0,p0⟩
 case inr=>rw [h0];exact ⟨y,rfl,fun h=>absurd h hy,fun _ h=>p0 h.co⟩
 rw [h0]
 simp only [zA,Sum.elim_inl]
 have h1:=kZ (body:=fun (x:Int)=>vM l x) l.length (fun k=>(nth l k).To.length≤64) (fun y=>y≠0) (fun k hk=>by
  simp only [vM,yQ hk,cond_true,z0 hk,zA,zM (k:=k) (by omega)]
  exact uZ (by simp only [decide_eq_true_eq];omega) (by decide)) (fun k hk=>by simp only [vM,kJ hk,cond_false])
 rw [zCH (p:=fun (m:Mapping)=>m.To.length≤64)] at h1
 rcases h1 with ⟨h1,p1⟩ | ⟨y,hy,h1,p1⟩
 case inr=>rw [h1];exact ⟨y,rfl,fun h=>absurd h hy,fun _ h=>p1 h.sz⟩
 rw [h1]
 simp only [zA,Sum.elim_inl]
 have h2:=kZ (body:=fun (x:Int)=>vN l x) l.length (fun k=>tagOk (nth l k)) (fun y=>y≠0) (fun k hk=>by
  simp only [vN,yQ hk,cond_true,z0 hk,zA,zN,zM (k:=k) (by omega),tagOk,yJA]
  by_cases ht:(nth l k).Tag= []
  ·
   simp only [ht,decide_true,Bool.not_true,uM,zA,Bool.false_and,cond_false]
   exact .inl ⟨.inl trivial,trivial⟩
  ·
   simp only [ht,decide_false,Bool.not_false,xH,zA,z25 (htg _ (x9 hk)),Bool.true_and,false_or]
   exact uZ (by simp) (by decide)) (fun k hk=>by simp only [vN,kJ hk,cond_false])
 rw [zCH (p:=tagOk)] at h2
 rcases h2 with ⟨h2,p2⟩ | ⟨y,hy,h2,p2⟩
 case inr=>rw [h2];exact ⟨y,rfl,fun h=>absurd h hy,fun _ h=>p2 h.tg⟩
 rw [h2]
 simp only [zA,Sum.elim_inl]
 obtain ⟨b,hb,hp,_⟩:=yAE hl
 rw [hb,zA]
 cases b with
 | true=>exact ⟨5,rfl,fun h=>absurd h (by decide),fun _ h=>hp rfl h.lt⟩
 | false=>exact ⟨0,rfl,fun _=>⟨p0,p1,p2⟩,fun h=>absurd rfl h⟩
theorem yHE:Ver (zFK l) (MV l):=by
 obtain ⟨e,he,h0,h1⟩:=yHD hl hto htg
 unfold zFK
 rw [he,zA]
 by_cases hz:e=0
 case neg=>
  have:(!decide (e=0))=true:=by simp [hz]
  rw [this,cond_true]
  exact ⟨e,rfl,by simp only [hz,false_iff];exact h1 hz⟩
 obtain ⟨p0,p1,p2⟩:=h0 hz
 rw [hz]
 simp only [decide_true,Bool.not_true,cond_false]
 have h3:=zLC (body:=fun (x:Int)=>zBF l x) l.length (fun k=>mlt (nth l k) (nth l (k+1))) (fun y=>y≠0) (fun k hk=>by
  have hk':k < l.length:=by omega
  simp only [zBF,yQ hk,cond_true,z0 hk,zA,zM (k:=k+1) (by omega),zCG (k:=k) (by omega),z0 hk',zGB,zN,z9I]
  exact uZ (by unfold mlt;simp only [Bool.not_eq_true',Bool.or_eq_false_iff,Bool.and_eq_false_iff,decide_eq_false_iff_not,not_or,Classical.not_and_iff_not_or_not]) (by decide)) (fun k hk=>by simp only [zBF,kJ hk,cond_false])
 rcases h3 with ⟨h3,p3⟩ | ⟨y,hy,h3,p3⟩
 · rw [h3];exact ⟨0,rfl,by simp only [true_iff];exact ⟨p0,p1,p2,p3⟩⟩
 · rw [h3];exact ⟨y,rfl,by simp only [hy,false_iff];exact fun h=>p3 h.lt⟩
end
end Go.M
namespace Go.M
open Go.AV
section
variable {β:Type} [Inhabited β] (upd:List β→Nat→β)
def zNW:Nat→Nat→List β→List β
 | 0,_,out=>out
 | d+1,i,out=>zNW d (i+1) (out.set i (upd out i))
def zHE (n:Nat):Nat→List β→List β
 | 0,out=>out
 | k+1,out=>zHE n k (zNW upd n 0 out)
end
section
variable {β:Type} [Inhabited β] {upd:List β→Nat→β} {n:Nat} {Inv:List β→Prop}
theorem zQJ {out:List β} {i j:Nat} {x: β} (hi:i < out.length):nth (out.set i x) j=if j=i then x else nth out j:=by
 unfold nth
 rw [List.getD_eq_getElem?_getD,List.getD_eq_getElem?_getD,List.getElem?_set]
 by_cases h:i=j
 subst h;simp [hi]
 rw [if_neg h,if_neg (fun e=>h e.symm)]
theorem yDV {out:List β} {i:Nat} (hi:i < out.length):out.set i (nth out i)=out:=by
 rw [zBP hi];simp
omit [Inhabited β] in
theorem zQK:∀(d i:Nat) (out:List β),(zNW upd d i out).length=out.length
 | 0,_,_=>rfl
 | d+1,i,out=>by rw [zNW,zQK d];simp
omit [Inhabited β] in
theorem zQL (hi:∀i out,i < n→out.length=n→Inv out→Inv (out.set i (upd out i))):∀(d i:Nat) (out:List β),i+d=n→out.length=n→Inv out→Inv (zNW upd d i out)
 | 0,_,_,_,_,h=>h
 | d+1,i,out,hd,hl,h=>by
  rw [zNW]
  exact zQL hi d (i+1) _ (by omega) (by simp [hl]) (hi i out (by omega) hl h)
omit [Inhabited β] in
theorem zWJ (hi:∀i out,i < n→out.length=n→Inv out→Inv (out.set i (upd out i))):∀(k:Nat) (out:List β),out.length=n→Inv out→Inv (zHE upd n k out)∧(zHE upd n k out).length=n
 | 0,_,hl,h=>⟨h,hl⟩
 | k+1,out,hl,h=>by
  rw [zHE]
  exact zWJ hi k _ (by rw [zQK,hl]) (zQL hi n 0 out (by omega) hl h)
theorem yAF {R R' : Nat → Prop} {t : Nat → β} (hm : ∀ j, R j → R' j) (hi : ∀ i out, i < n → out.length = n → Inv out → Inv (out.set i (upd out i)))
    (hs : ∀ out i, i < n → out.length = n → Inv out → (∀ j, j < n → R j → nth out j = t j) → R' i → upd out i = t i) :
    ∀ (d i : Nat) (out : List β), i + d = n → out.length = n → Inv out → (∀ j, j < n → R j → nth out j = t j) → (∀ j, j < i → R' j → nth out j = t j) → ∀ j, j < n → R' j → nth (zNW upd d i out) j = t j
  | 0, i, out, hd, hl, h, h1, h2, j, hj, hr => h2 j (by omega) hr
  | d + 1, i, out, hd, hl, h, h1, h2, j, hj, hr => by
    have hin : i < n := by omega
    have hu : R' i → upd out i = t i := hs out i hin hl h h1
    rw [zNW]
    refine yAF hm hi hs d (i + 1) _ (by omega) (by simp [hl]) (hi i out hin hl h) (fun j hj hr => ?_) (fun j hj hr => ?_) j hj hr
    · rw [zQJ (by omega)]
      split
      · rename_i e; subst e; exact hu (hm _ hr)
      · exact h1 j hj hr
    · rw [zQJ (by omega)]
      split
      · rename_i e; subst e; exact hu hr
      · exact h2 j (by omega) hr
theorem zWK {R : Nat → Nat → Prop} {t : Nat → β} (hm : ∀ r j, R r j → R (r + 1) j) (hi : ∀ i out, i < n → out.length = n → Inv out → Inv (out.set i (upd out i)))
    (hs : ∀ r out i, i < n → out.length = n → Inv out → (∀ j, j < n → R r j → nth out j = t j) → R (r + 1) i → upd out i = t i) :
    ∀ (k r : Nat) (out : List β), out.length = n → Inv out → (∀ j, j < n → R r j → nth out j = t j) → ∀ j, j < n → R (r + k) j → nth (zHE upd n k out) j = t j
  | 0, _, _, _, _, h, j, hj, hr => h j hj hr
  | k + 1, r, out, hl, h, h1, j, hj, hr => by
    rw [zHE]
    have := yAF (R := R r) (R' := R (r + 1)) (hm r) hi (hs r) n 0 out (by omega) hl h h1 (fun j hj => by omega)
    refine zWK hm hi hs k (r + 1) _ (by rw [zQK, hl]) (zQL hi n 0 out (by omega) hl h) this j hj ?_
    rw [show r + 1 + k = r + (k + 1) by omega]; exact hr
omit [Inhabited β] in
theorem zNX {X Y : Type} (mk : Nat → List β → X) {body : X → Option (Stp X Y)} (fin : List β → Y)
    (hb : ∀ i out, i < n → out.length = n → Inv out → body (mk i out) = some (.next (mk (i + 1) (out.set i (upd out i)))))
    (hi : ∀ i out, i < n → out.length = n → Inv out → Inv (out.set i (upd out i)))
    (he : ∀ out, body (mk n out) = some (.done (fin out))) : ∀ (d i : Nat) (out : List β), i + d = n → out.length = n → Inv out → zE body (mk i out) = some (fin (zNW upd d i out))
  | 0, i, out, hd, hl, h => by
    have : i = n := by omega
    subst this
    exact zJ (he out)
  | d + 1, i, out, hd, hl, h => by
    rw [zP (hb i out (by omega) hl h), zNW]
    exact zNX mk fin hb hi he d (i + 1) _ (by omega) (by simp [hl]) (hi i out (by omega) hl h)
omit [Inhabited β] in
theorem zNY {X Y : Type} (mk : Nat → List β → X) {body : X → Option (Stp X Y)} (fin : List β → Y) {N : Nat}
    (hb : ∀ r out, r < N → out.length = n → Inv out → body (mk r out) = some (.next (mk (r + 1) (zNW upd n 0 out))))
    (hi : ∀ i out, i < n → out.length = n → Inv out → Inv (out.set i (upd out i)))
    (he : ∀ out, body (mk N out) = some (.done (fin out))) : ∀ (k r : Nat) (out : List β), r + k = N → out.length = n → Inv out → zE body (mk r out) = some (fin (zHE upd n k out))
  | 0, r, out, hd, hl, h => by
    have : r = N := by omega
    subst this
    exact zJ (he out)
  | k + 1, r, out, hd, hl, h => by
    rw [zP (hb r out (by omega) hl h), zHE]
    exact zNY mk fin hb hi he k (r + 1) _ (by omega) (by rw [zQK, hl]) (zQL hi n 0 out (by omega) hl h)
end
theorem zZV {A Y:Type} {p:Nat→A→Option Y}:∀{l:List A} {k:Nat} {y:Y},uX p l k=some y→∃j,∃h:j < l.length,p (k+j) l[j]=some y
 | [],_,_,h=>by cases h
 | x::l,k,y,h=>by
  unfold uX at h
  cases hp:p k x with
  | some z=>
   rw [hp] at h
   exact ⟨0,by simp,by simpa [hp] using h⟩
  | none=>
   rw [hp] at h
   obtain ⟨j,hj,e⟩:=zZV h
   exact ⟨j+1,by simpa using hj,by rw [show k+(j+1)=k+1+j by omega];simpa using e⟩
theorem zUT {A Y:Type} {p:Nat→A→Option Y}:∀{l:List A} {k j:Nat} (h:j < l.length),p (k+j) l[j]≠none→∃i,∃hi:i < l.length,i≤j∧uX p l k=p (k+i) l[i]
 | [],_,_,h,_=>by cases h
 | x::l,k,j,h,hp=>by
  unfold uX
  cases hx:p k x with
  | some z=>exact ⟨0,by simp,Nat.zero_le _,by simp [hx]⟩
  | none=>
   cases j with
   | zero=>exact absurd (by simpa using hx) hp
   | succ j=>
    obtain ⟨i,hi,hij,e⟩:=zUT (p:=p) (l:=l) (k:=k+1) (j:=j) (by simpa using h) (by rw [show k+1+j=k+(j+1) by omega];simpa using hp)
    exact ⟨i+1,by simpa using hi,by omega,by rw [show k+(i+1)=k+1+i by omega];simpa using e⟩
def pM (c:Int) (b:Bool) (k:Nat) (m:Mapping):Option Nat:=if m.From=c∧(b ||(m.Tag== []))=true then some k else none
def fi (l:List Mapping) (c:Int) (b:Bool):Option Nat:=uX (pM c b) l 0
theorem zH1 {l:List Mapping} {c:Int} {b:Bool} {i:Nat} (h:fi l c b=some i):i < l.length∧(nth l i).From=c∧(b ||((nth l i).Tag== []))=true:=by
 obtain ⟨j,hj,e⟩:=zZV h
 unfold pM at e
 split at e
 rename_i hp
 injection e with e
 have:i=j:=by omega
 subst this
 rw [zBP hj]
 exact ⟨hj,hp⟩
 cases e
theorem z3T {l:List Mapping} {c:Int} {b:Bool} (h:fi l c b=none):∀m∈l,¬(m.From=c∧(b ||(m.Tag== []))=true):=by
 intro m hm hp
 obtain ⟨j,hj,rfl⟩:=List.getElem_of_mem hm
 have:=zNP h j hj
 unfold pM at this
 rw [if_pos hp] at this
 cases this
theorem zUU {l:List Mapping} (hd:DS l) (c:Int) (b:Bool):(∃i,fi l c b=some i∧i < l.length∧(nth l i).From=c∧fnB l b c=some (nth l i).To)∨(fi l c b=none∧fnB l b c=none):=by
 cases hf:fi l c b with
 | some i=>
  obtain ⟨h1,h2,h3⟩:=zH1 hf
  refine .inl ⟨i,rfl,h1,h2,?_⟩
  have:=zC6 hd (x9 h1)
  rw [h2] at this
  unfold fnB
  rw [this]
  simp only [h3,if_true]
 | none=>
  refine .inr ⟨rfl,?_⟩
  cases hn:fnB l b c with
  | none=>rfl
  | some to=>
   obtain ⟨m,h1,_,h3⟩:=zIS hn
   obtain ⟨h4,h5⟩:=zFC h1
   exact absurd ⟨h5,h3⟩ (z3T hf m h4)
def fiI (l:List Mapping) (c:Int) (b:Bool):Int:=match fi l c b with
 | some i=>(i:Int)
 | none=> -1
end Go.M
namespace Go.M
open Go.AV
section
variable {l:List Mapping} (hd:DS l)
def zMO (l:List Mapping) (out:List Bool) (i:Nat):Bool:=(nth l i).To.all fun e=>match fi l e true with
 | some m=>nth out m
 | none=>true
def z59 (l:List Mapping) (out:List Bool):Prop:= ∀j,j < l.length→nth out j=true→WW l (nth l j).From
include hd
theorem yDX {out:List Bool} (h:z59 l out) {i:Nat} (hi:i < l.length) (hu:zMO l out i=true):WW l (nth l i).From:=by
 refine zZJ fun e he=>?_
 rw [zZI hd (x9 hi)] at he
 have:=List.all_eq_true.1 hu e he
 rcases zUU hd e true with ⟨m,h1,h2,h3,_⟩ | ⟨h1,h2⟩
 rw [h1] at this
 have:=h m h2 this
 rw [h3] at this;exact this
 cases hs:syl e with
 | true=>exact yGV hd hs
 | false=>
  refine zWE ?_
  unfold dep
  rw [if_neg (by simp [hs])]
  rw [zR0] at h2
  cases hf:l.find? (isF e) with
  | none=>rfl
  | some m=>rw [hf] at h2;cases h2
theorem zUV (i:Nat) (out:List Bool) (hi:i < l.length) (hl:out.length=l.length) (h:z59 l out):z59 l (out.set i (zMO l out i)):=by
 intro j hj hn
 rw [zQJ (by omega)] at hn
 split at hn
 rename_i e;subst e;exact yDX hd h hi hn
 exact h j hj hn
theorem yDY (r:Nat) (out:List Bool) (i:Nat) (hi:i < l.length) (_hl:out.length=l.length) (h1:∀j,j < l.length→DD l r (nth l j).From→nth out j=true) (hr:DD l (r+1) (nth l i).From):zMO l out i=true:=by
 refine List.all_eq_true.2 fun e he=>?_
 have:=hr (nth l i) (zC6 hd (x9 hi)) e he
 rcases zUU hd e true with ⟨m,e1,e2,e3,_⟩ | ⟨e1,_⟩
 rw [e1]
 exact h1 m e2 (by rw [e3];exact this)
 rw [e1]
theorem yAG:(∀j,j < l.length→nth (zHE (zMO l) l.length l.length (List.replicate l.length false)) j=true)↔∀m∈l,WW l m.From:=by
 have h0:z59 l (List.replicate l.length false):=by
  intro j hj hn
  rw [zBP (by simpa using hj)] at hn
  simp at hn
 constructor
 intro h
 have hv:=(zWJ (upd:=zMO l) (n:=l.length) (Inv:=z59 l) (zUV hd) l.length _ (by simp) h0).1
 rw [←zCH (p:=fun m:Mapping=>WW l m.From)]
 exact fun k hk=>hv k hk (h k hk)
 intro H j hj
 have hp:=z9U hd H
 refine zWK (upd:=zMO l) (n:=l.length) (Inv:=z59 l) (R:=fun r j=>j < l.length∧DD l r (nth l j).From) (t:=fun _=>true) (fun r j h=>⟨h.1,zJI h.2⟩) (zUV hd) (fun r out i hi hl _ h1 hr=>yDY hd r out i hi hl (fun j hj hr=>h1 j hj ⟨hj,hr⟩) hr.2) l.length 0 _ (by simp) h0 (fun j hj hr=>?_) j hj ⟨hj,by rw [Nat.zero_add];exact hp _ (x9 hj)⟩
 have:l.find? (isF (nth l j).From)=none:=hr.2
 rw [zC6 hd (x9 hj)] at this
 cases this
end
section
variable {l:List Mapping} (hd:DS l) (hD:∀c,DD l l.length c) {b:Bool}
def lenOf (l:List Mapping) (b:Bool) (out:List Int) (e:Int):Int:=match fi l e b with
 | some m=>nth out m
 | none=>((hdE e).length:Int)
def updL (l:List Mapping) (b:Bool) (out:List Int) (i:Nat):Int:=if (b ||((nth l i).Tag== []))=true then min (max (((nth l i).To.map (lenOf l b out)).sum) 1) 65 else 1
def zWL (out:List Int):Prop:= ∀x∈out,0≤x∧x≤65
theorem yDZ (out:List Int) (i:Nat):0≤updL l b out i∧updL l b out i≤65:=by
 unfold updL;split <;> omega
theorem zOZ (i:Nat) (out:List Int) (_hi:i < l.length) (_hl:out.length=l.length) (h:zWL out):zWL (out.set i (updL l b out i)):=by
 intro x hx
 rcases List.mem_or_eq_of_mem_set hx with hx | rfl
 exact h x hx
 exact yDZ out i
include hd hD
theorem yD0 {i:Nat} (hi:i < l.length):wt l b (nth l i).From=if (b ||((nth l i).Tag== []))=true then min (max (((nth l i).To.map (wt l b)).sum) 1) 65 else 1:=by
 rw [zUP hD]
 unfold fnB
 rw [zC6 hd (x9 hi)]
 by_cases ht:(b ||((nth l i).Tag== []))=true
 simp only [ht,if_true]
 have hs:=zRY hd (x9 hi)
 have e1:hdE (nth l i).From= [(nth l i).From]:=by unfold hdE;rw [if_neg (by simp [hs])]
 rw [if_neg ht]
 simp only [e1]
 rw [if_neg ht]
 rfl
omit hD in
theorem yAH {out:List Int} {e:Int} (hD':fnB l b e=none→wt l b e=((hdE e).length:Int)) (h:∀m,m < l.length→(nth l m).From=e→nth out m=wt l b e):lenOf l b out e=wt l b e:=by
 unfold lenOf
 rcases zUU hd e b with ⟨m,e1,e2,e3,_⟩ | ⟨e1,e2⟩
 rw [e1];exact h m e2 e3
 rw [e1,hD' e2]
theorem yD1 (r : Nat) (out : List Int) (i : Nat) (hi : i < l.length) (h1 : ∀ j, j < l.length → DD l r (nth l j).From → nth out j = wt l b (nth l j).From) (hr : DD l (r + 1) (nth l i).From) : updL l b out i = wt l b (nth l i).From := by
  rw [yD0 hd hD hi]
  unfold updL
  split
  · have : (nth l i).To.map (lenOf l b out) = (nth l i).To.map (wt l b) := List.map_congr_left fun e he => by
      have hde := hr (nth l i) (zC6 hd (x9 hi)) e he
      exact yAH hd (fun hn => by rw [zUP hD, hn]) fun m hm hf => by rw [← hf]; exact h1 m hm (by rw [hf]; exact hde)
    rw [this]
  · rfl
theorem z3U (j:Nat) (hj:j < l.length):nth (zHE (updL l b) l.length l.length (List.replicate l.length 0)) j=wt l b (nth l j).From:=by
 have h0:zWL (List.replicate l.length 0):=fun x hx=>by rw [(List.mem_replicate.1 hx).2];omega
 refine zWK (upd:=updL l b) (n:=l.length) (Inv:=zWL) (R:=fun r j=>j < l.length∧DD l r (nth l j).From) (t:=fun j=>wt l b (nth l j).From) (fun r j h=>⟨h.1,zJI h.2⟩) zOZ (fun r out i hi hl _ h1 hr=>yD1 hd hD r out i hi (fun j hj hr=>h1 j hj ⟨hj,hr⟩) hr.2) l.length 0 _ (by simp) h0 (fun j hj hr=>?_) j hj ⟨hj,by rw [Nat.zero_add];exact hD _⟩
 have:l.find? (isF (nth l j).From)=none:=hr.2
 rw [zC6 hd (x9 hj)] at this
 cases this
end
section
variable {l:List Mapping} (hd:DS l) (hD:∀c,DD l l.length c) {b:Bool}
def zFX (l:List Mapping) (b:Bool) (out:List (List Int)) (e:Int):List Int:=match fi l e b with
 | some m=>nth out m
 | none=>hdE e
def zR3 (l:List Mapping) (b:Bool) (out:List (List Int)) (i:Nat):List Int:=if (b ||((nth l i).Tag== []))=true then (nth l i).To.flatMap (zFX l b out) else nth out i
def zTC (l:List Mapping) (b:Bool) (out:List (List Int)):Prop:= ∀j,j < l.length→(nth out j).length≤(fu l b (nth l j).From).length
include hd hD
theorem z3V {i:Nat} (hi:i < l.length) (ht:(b ||((nth l i).Tag== []))=true):fu l b (nth l i).From=(nth l i).To.flatMap (fu l b):=by
 rw [zPK hD]
 unfold fnB
 rw [zC6 hd (x9 hi)]
 simp only [ht,if_true]
theorem z3W {out:List (List Int)} (h:zTC l b out) (e:Int):(zFX l b out e).length≤(fu l b e).length:=by
 unfold zFX
 rcases zUU hd e b with ⟨m,e1,e2,e3,_⟩ | ⟨e1,e2⟩
 rw [e1];have:=h m e2;rw [e3] at this;exact this
 rw [e1,zPK hD,e2];exact Nat.le_refl _
omit hd hD in
theorem zZW {f g:Int→List Int} (h:∀e,(f e).length≤(g e).length):∀L:List Int,(L.flatMap f).length≤(L.flatMap g).length
 | []=>Nat.le_refl _
 | x::L=>by have:=zZW h L;have:=h x;simp only [List.flatMap_cons,List.length_append];omega
theorem yAI {out:List (List Int)} (h:zTC l b out) {i:Nat} (hi:i < l.length):(zR3 l b out i).length≤(fu l b (nth l i).From).length:=by
 unfold zR3
 split
 rename_i ht
 rw [z3V hd hD hi ht]
 exact zZW (z3W hd hD h) _
 exact h i hi
theorem zO0 (i:Nat) (out:List (List Int)) (hi:i < l.length) (hl:out.length=l.length) (h:zTC l b out):zTC l b (out.set i (zR3 l b out i)):=by
 intro j hj
 rw [zQJ (by omega)]
 split
 rename_i e;subst e;exact yAI hd hD h hi
 exact h j hj
omit hD in
theorem yD2 (hD:∀c,DD l l.length c) (r:Nat) (out:List (List Int)) (i:Nat) (hi:i < l.length) (h1:∀j,j < l.length→(b ||((nth l j).Tag== []))=true→DD l r (nth l j).From→nth out j=fu l b (nth l j).From) (ht:(b ||((nth l i).Tag== []))=true) (hr:DD l (r+1) (nth l i).From):zR3 l b out i=fu l b (nth l i).From:=by
 rw [z3V hd hD hi ht]
 unfold zR3
 rw [if_pos ht]
 refine zMM fun e he=>?_
 have hde:=hr (nth l i) (zC6 hd (x9 hi)) e he
 unfold zFX
 cases hf:fi l e b with
 | some m=>
  obtain ⟨e1,e2,e3⟩:=zH1 hf
  show nth out m=_
  rw [h1 m e1 e3 (by rw [e2];exact hde),e2]
 | none=>
  rcases zUU hd e b with ⟨m,e1,_⟩ | ⟨_,e2⟩
  rw [hf] at e1;cases e1
  show hdE e=_
  rw [zPK hD,e2]
def zZX (l:List Mapping) (b:Bool):List (List Int):=zHE (zR3 l b) l.length l.length (List.replicate l.length [])
omit hd hD in
theorem yFF:zTC l b (List.replicate l.length []):=by
 intro j hj
 rw [zBP (by simpa using hj)]
 simp
theorem yHF (j:Nat) (hj:j < l.length) (ht:(b ||((nth l j).Tag== []))=true):nth (zZX l b) j=fu l b (nth l j).From:=by
 refine zWK (upd:=zR3 l b) (n:=l.length) (Inv:=zTC l b) (R:=fun r j=>j < l.length∧(b ||((nth l j).Tag== []))=true∧DD l r (nth l j).From) (t:=fun j=>fu l b (nth l j).From) (fun r j h=>⟨h.1,h.2.1,zJI h.2.2⟩) (zO0 hd hD) (fun r out i hi hl _ h1 hr=>yD2 hd hD r out i hi (fun j hj ht hr=>h1 j hj ⟨hj,ht,hr⟩) hr.2.1 hr.2.2) l.length 0 _ (by simp) yFF (fun j hj hr=>?_) j hj ⟨hj,ht,by rw [Nat.zero_add];exact hD _⟩
 have:l.find? (isF (nth l j).From)=none:=hr.2.2
 rw [zC6 hd (x9 hj)] at this
 cases this
theorem yD3 (e:Int):zFX l b (zZX l b) e=fu l b e:=by
 unfold zFX
 cases hf:fi l e b with
 | some m=>
  obtain ⟨e1,e2,e3⟩:=zH1 hf
  show nth (zZX l b) m=_
  rw [yHF hd hD m e1 e3,e2]
 | none=>
  rcases zUU hd e b with ⟨m,e1,_⟩ | ⟨_,e2⟩
  rw [hf] at e1;cases e1
  show hdE e=_
  rw [zPK hD,e2]
end
end Go.M
namespace Go.M
open Go.AV
def plF (n:Int):Bool→List Int→Bool×List Int
 | true,l=>(true,l)
 | false,[]=>(false,[])
 | false,x::l=>if n≤x then (true,if n < x then n::x::l else x::l) else ((plF n false l).1,x::(plF n false l).2)
def plE (n:Int):List Int→List Int
 | []=>[n]
 | x::l=>if n≤x then (if n < x then n::x::l else x::l) else x::plE n l
theorem yFG (n:Int):∀l:List Int,(if (plF n false l).1=true then (plF n false l).2 else (plF n false l).2++ [n])=plE n l
 | []=>rfl
 | x::l=>by
  have:=yFG n l
  unfold plF plE
  by_cases h:n≤x
  simp [h]
  simp only [h,if_false]
  rw [←this]
  split <;> simp
theorem z12 {l : List Int} {n : Int} (hl : l.length ≤ 2000) : ∀ (d k : Nat) (b : Bool) (out : List Int), l.length - k = d → k ≤ l.length → out.length ≤ 2 * k →
    zE (fun (x : Bool × Int × (List Int)) => jB l n x.1 x.2.1 x.2.2) (b, (k : Int), out) = some ((plF n b (l.drop k)).1, out ++ (plF n b (l.drop k)).2) := by
  intro d
  induction d with
  | zero =>
    intro k b out h1 h2 h3
    rw [List.drop_of_length_le (show l.length ≤ k by omega)]
    refine zJ ?_
    simp only [jB, kJ (show l.length ≤ k by omega), cond_false]
    cases b <;> simp [plF]
  | succ d ih =>
    intro k b out h1 h2 h3
    have hk : k < l.length := by omega
    have ha : ∀ {o : List Int} (x : Int), o.length ≤ 2 * k + 1 → app o [x] = some (o ++ [x]) := fun {o} x ho => xQ (by simp; omega)
    rw [List.drop_eq_getElem_cons hk]
    have nx : ∀ (b' : Bool) (o' : List Int), o'.length ≤ 2 * (k + 1) → jB l n b (k : Int) out = some (.next (b', ((k + 1 : Nat) : Int), o')) → (plF n b' (l.drop (k + 1))).1 = (plF n b (l[k] :: l.drop (k + 1))).1 → o' ++ (plF n b' (l.drop (k + 1))).2 = out ++ (plF n b (l[k] :: l.drop (k + 1))).2 →
        zE (fun (x : Bool × Int × (List Int)) => jB l n x.1 x.2.1 x.2.2) (b, (k : Int), out) = some ((plF n b (l[k] :: l.drop (k + 1))).1, out ++ (plF n b (l[k] :: l.drop (k + 1))).2) := by
      intro b' o' ho hb e1 e2
      rw [zP (body := fun (x : Bool × Int × (List Int)) => jB l n x.1 x.2.1 x.2.2) (x := (b, (k : Int), out)) hb, ih (k + 1) b' o' (by omega) (by omega) ho, e1, e2]
    cases b with
    | true =>
      refine nx true (out ++ [l[k]]) (by simp; omega) ?_ ?_ ?_
      · simp only [jB, yQ hk, cond_true, zN, Bool.not_true, uM, zA, Bool.false_and, cond_false, zU hk, ha _ (show out.length ≤ 2 * k + 1 by omega), zM (k := k) (by omega)]
      · simp [plF]
      · simp [plF]
    | false =>
      by_cases h4 : n ≤ l[k]
      · by_cases h5 : n < l[k]
        · refine nx true (out ++ [n] ++ [l[k]]) (by simp; omega) ?_ ?_ ?_
          · simp only [jB, yQ hk, cond_true, zN, Bool.not_false, xH, zA, Bool.true_and, zU hk, h4, h5, decide_true, ha _ (show out.length ≤ 2 * k + 1 by omega), ha _ (show (out ++ [n]).length ≤ 2 * k + 1 by simp; omega), zM (k := k) (by omega)]
          · simp [plF, h4]
          · simp [plF, h4, h5]
        · refine nx true (out ++ [l[k]]) (by simp; omega) ?_ ?_ ?_
          · simp only [jB, yQ hk, cond_true, zN, Bool.not_false, xH, zA, Bool.true_and, zU hk, h4, h5, decide_true, decide_false, cond_false, ha _ (show out.length ≤ 2 * k + 1 by omega), zM (k := k) (by omega)]
          · simp [plF, h4]
          · simp [plF, h4, h5]
      · refine nx false (out ++ [l[k]]) (by simp; omega) ?_ ?_ ?_
        · simp only [jB, yQ hk, cond_true, zN, Bool.not_false, xH, zA, Bool.true_and, zU hk, h4, decide_false, cond_false, ha _ (show out.length ≤ 2 * k + 1 by omega), zM (k := k) (by omega)]
        · simp [plF, h4]
        · simp [plF, h4]
theorem z3X (n:Int):∀l:List Int,(plF n false l).2.length≤l.length+1
 | []=>by simp [plF]
 | x::l=>by
  have:=z3X n l
  unfold plF
  by_cases h:n≤x
  by_cases h5:n < x <;> simp [h,h5]
  simp only [h,if_false,List.length_cons];omega
theorem zNZ {l:List Int} (hl:l.length≤2000) (n:Int):zCR l n=some (plE n l):=by
 unfold zCR
 have h:=z12 (n:=n) hl l.length 0 false [] (by omega) (by omega) (by simp)
 have hlen:=z3X n l
 rw [List.drop_zero,List.nil_append] at h
 have h':zE (fun (x:Bool×Int×(List Int))=>jB l n x.1 x.2.1 x.2.2) (false,0,[])=some ((plF n false l).1,(plF n false l).2):=h
 rw [h',zA,←yFG]
 cases (plF n false l).1 with
 | true=>rfl
 | false=>simp only [Bool.not_false,cond_true,xQ (show (plF n false l).2.length+ [n].length≤4294967296 by simp;omega),zA];rfl
def Gd (l:List Int):Prop:=l.Pairwise (· < ·)∧∀x∈l,0≤x∧x≤1114111
theorem zWM (n:Int):∀{l:List Int} {x:Int},x∈plE n l→x=n∨x∈l
 | [],x,h=>by simp [plE] at h;exact .inl h
 | y::l,x,h=>by
  unfold plE at h
  split at h
  split at h
  rcases List.mem_cons.1 h with h | h
  exact .inl h
  exact .inr h
  exact .inr h
  rcases List.mem_cons.1 h with h | h
  exact .inr (by simp [h])
  rcases zWM n h with h | h
  exact .inl h
  exact .inr (by simp [h])
theorem z3Y (n:Int):∀{l:List Int},l.Pairwise (· < ·)→(plE n l).Pairwise (· < ·)
 | [],_=>by simp [plE]
 | y::l,h=>by
  obtain ⟨h1,h2⟩:=List.pairwise_cons.1 h
  unfold plE
  split
  split
  rename_i hn
  refine List.pairwise_cons.2 ⟨fun z hz=>?_,h⟩
  rcases List.mem_cons.1 hz with rfl | hz
  exact hn
  have:=h1 z hz;omega
  exact h
  rename_i hn
  refine List.pairwise_cons.2 ⟨fun z hz=>?_,z3Y n h2⟩
  rcases zWM n hz with rfl | hz
  omega
  exact h1 z hz
theorem zO1 {n:Int} (hn:0≤n∧n≤1114111) {l:List Int} (h:Gd l):Gd (plE n l):=by
 refine ⟨z3Y n h.1,fun x hx=>?_⟩
 rcases zWM n hx with rfl | hx
 exact hn
 exact h.2 x hx
theorem zLI (n:Int):∀l:List Int,(plE n l).length≤l.length+1
 | []=>by simp [plE]
 | x::l=>by
  have:=zLI n l
  unfold plE
  split
  split <;> simp
  simp only [List.length_cons];omega
theorem zWN {n:Int}:∀{l:List Int},(∀x∈l,x < n)→plE n l=l++ [n]
 | [],_=>rfl
 | y::l,h=>by
  have hy:=h y (by simp)
  unfold plE
  rw [if_neg (by omega),zWN fun x hx=>h x (by simp [hx])]
  rfl
def cuS (c:List Int) (r:Range):List Int:=if 0≤r.Hi∧r.Hi < 1114111 then plE (r.Hi+1) (if vld r.Lo=true then plE r.Lo c else c) else (if vld r.Lo=true then plE r.Lo c else c)
theorem z3Z (c:List Int) (r:Range):(cuS c r).length≤c.length+2:=by
 have h1:=zLI r.Lo c
 unfold cuS
 split
 ·
  have h2:=zLI (r.Hi+1) (if vld r.Lo=true then plE r.Lo c else c)
  split at h2 <;> split <;> simp_all <;> omega
 · split <;> omega
theorem yHG {c:List Int} {r:Range} (h:Gd c):Gd (cuS c r):=by
 have h1:Gd (if vld r.Lo=true then plE r.Lo c else c):=by
  split
  rename_i hv
  unfold vld at hv
  simp only [Bool.and_eq_true,decide_eq_true_eq] at hv
  exact zO1 hv h
  exact h
 unfold cuS
 split
 exact zO1 (by omega) h1
 exact h1
def cuE (l:List Range) (c:List Int):List Int:=l.foldl cuS c
theorem zWO:∀(l:List Range) {c:List Int},Gd c→Gd (cuE l c)
 | [],_,h=>h
 | r::l,_,h=>zWO l (yHG h)
theorem zWP:∀(l:List Range) (c:List Int),(cuE l c).length≤c.length+2*l.length
 | [],c=>by simp [cuE]
 | r::l,c=>by
  have h1:=zWP l (cuS c r)
  have h2:=z3Z c r
  show (cuE l (cuS c r)).length≤_
  simp only [List.length_cons];omega
theorem z6B {s : Set} (hl : s.Ranges.length ≤ 12) : ∀ (d k : Nat) (c : List Int), s.Ranges.length - k = d → k ≤ s.Ranges.length → c.length ≤ 100 + 2 * k →
    zE (fun (x : (List Int) × Int) => wR s x.1 x.2) (c, (k : Int)) = some (cuE (s.Ranges.drop k) c) := by
  intro d
  induction d with
  | zero =>
    intro k c h1 h2 h3
    rw [List.drop_of_length_le (show s.Ranges.length ≤ k by omega)]
    refine zJ ?_
    simp only [wR, kJ (show s.Ranges.length ≤ k by omega), cond_false]
    rfl
  | succ d ih =>
    intro k c h1 h2 h3
    have hk : k < s.Ranges.length := by omega
    have hs := z3Z c s.Ranges[k]
    have hb : wR s c (k : Int) = some (.next (cuS c s.Ranges[k], ((k + 1 : Nat) : Int))) := by
      have hp := zLI s.Ranges[k].Lo c
      simp only [wR, yQ hk, cond_true, zU hk, zA, zD0, zN, zM (k := k) (by omega), zNZ (show c.length ≤ 2000 by omega)]
      unfold cuS
      by_cases hv : vld s.Ranges[k].Lo = true
      · simp only [hv, cond_true, zA, if_true]
        by_cases ha : 0 ≤ s.Ranges[k].Hi
        · by_cases hc : s.Ranges[k].Hi < 1114111
          · simp only [ha, hc, decide_true, Bool.and_self, cond_true, and_self, if_true]
            rw [xO (n := s.Ranges[k].Hi + 1) (by omega) (by omega), zNZ (by omega)]
            rfl
          · simp [ha, hc]
        · simp [ha]
      · simp only [hv, Bool.false_eq_true, if_false, cond_false, zA]
        by_cases ha : 0 ≤ s.Ranges[k].Hi
        · by_cases hc : s.Ranges[k].Hi < 1114111
          · simp only [ha, hc, decide_true, Bool.and_self, cond_true, and_self, if_true]
            rw [xO (n := s.Ranges[k].Hi + 1) (by omega) (by omega), zNZ (by omega)]
            rfl
          · simp [ha, hc]
        · simp [ha]
    rw [zP (body := fun (x : (List Int) × Int) => wR s x.1 x.2) (x := (c, (k : Int))) hb, ih (k + 1) _ (by omega) (by omega) (by omega), List.drop_eq_getElem_cons hk]
    rfl
theorem z30 {s:Set} (hl:s.Ranges.length≤12) {c:List Int} (hc:c.length≤100):zER c s=some (plE 0 (cuE s.Ranges c)):=by
 unfold zER
 have h:=z6B hl s.Ranges.length 0 c (by omega) (by omega) (by omega)
 rw [List.drop_zero] at h
 have h':zE (fun (x:(List Int)×Int)=>wR s x.1 x.2) (c,0)=some (cuE s.Ranges c):=h
 have:=zWP s.Ranges c
 rw [h',zA,zNZ (by omega)]
 rfl
def zE4 (l:List Range) (c:Int):Bool:=l.any fun r=>vld c&&decide (r.Lo≤c)&&decide (c≤r.Hi)
theorem yAJ {s:Set} (hl:s.Ranges.length≤2000) (c:Int):zES s c=some (zE4 s.Ranges c):=by
 unfold zES
 have h:=kZ (body:=fun (x:Int)=>zC0 s c x) s.Ranges.length (fun k=> ¬(vld c&&decide ((nth s.Ranges k).Lo≤c)&&decide (c≤(nth s.Ranges k).Hi))=true) (fun y=>y=true) (fun k hk=>by
  simp only [zC0,yQ hk,cond_true,zD0,zA,zN,z0 hk,zM (k:=k) (by omega)]
  cases hv:vld c with
  | false=>simp only [uM,zA,Bool.false_and,cond_false];exact .inl ⟨by simp,trivial⟩
  | true=>
   simp only [xH,zA,Bool.true_and]
   by_cases h1:(nth s.Ranges k).Lo≤c
   simp only [h1,decide_true,xH,zA,Bool.true_and]
   exact uZ (by simp) rfl
   simp only [h1,decide_false,uM,zA,Bool.false_and,cond_false]
   exact .inl ⟨by simp,trivial⟩) (fun k hk=>by simp only [zC0,kJ hk,cond_false])
 rw [zCH (p:=fun r:Range=> ¬(vld c&&decide (r.Lo≤c)&&decide (c≤r.Hi))=true)] at h
 rcases h with ⟨h,p⟩ | ⟨y,rfl,h,p⟩
 rw [h]
 have:zE4 s.Ranges c=false:=by unfold zE4;rw [List.any_eq_false];exact p
 rw [this];rfl
 rw [h]
 have:zE4 s.Ranges c=true:=by
  cases he:zE4 s.Ranges c with
  | true=>rfl
  | false=>exfalso;apply p;unfold zE4 at he;rw [List.any_eq_false] at he;exact he
 rw [this];rfl
def nxt:List Int→Int
 | []=>1114111
 | d::_=>d - 1
def coF (has : Int → Bool) : List Int → Bool → List Range → List Range
  | [], _, o => o
  | c :: cs, op, o => if has c = true then (if op = true then coF has cs true (match o with
      | q :: o' => { q with Hi := nxt cs } :: o'
      | [] => []) else coF has cs true ({ Lo := c, Hi := nxt cs } :: o)) else coF has cs false o
theorem yD4 {C : List Int} {s : Set} (hl : s.Ranges.length ≤ 12) (hC : C.length ≤ 200) (hg : Gd C) : ∀ (d k : Nat) (op : Bool) (o : List Range), C.length - k = d → k ≤ C.length → o.length ≤ k → (op = true → o ≠ []) →
    zE (fun (x : Bool × Int × (List Range)) => kY C s { Ranges := [] } 1 x.1 x.2.1 x.2.2) (op, (k : Int), o.reverse) = some (coF (zE4 s.Ranges) (C.drop k) op o).reverse := by
  intro d
  induction d with
  | zero =>
    intro k op o h1 h2 h3 h4
    rw [List.drop_of_length_le (show C.length ≤ k by omega)]
    refine zJ ?_
    simp only [kY, kJ (show C.length ≤ k by omega), cond_false]
    rfl
  | succ d ih =>
    intro k op o h1 h2 h3 h4
    have hk : k < C.length := by omega
    have he : zES { Ranges := [] } C[k] = some false := by rw [yAJ (by simp)]; rfl
    have hnx : (cond (decide (((k + 1 : Nat) : Int) < (C.length : Int))) ((yA C ((k + 1 : Nat) : Int)).bind fun t31 => some (wi (t31 - 1))) (some 1114111) : Option Int) = some (nxt (C.drop (k + 1))) := by
      by_cases hk1 : k + 1 < C.length
      · have := hg.2 _ (List.getElem_mem hk1)
        rw [yQ hk1, cond_true, zU hk1, zA, xO (by omega) (by omega), List.drop_eq_getElem_cons hk1]
        rfl
      · rw [kJ (by omega), cond_false, List.drop_of_length_le (by omega)]
        rfl
    rw [List.drop_eq_getElem_cons hk]
    have nx : ∀ (op' : Bool) (o' : List Range), o'.length ≤ k + 1 → (op' = true → o' ≠ []) → kY C s { Ranges := [] } 1 op (k : Int) o.reverse = some (.next (op', ((k + 1 : Nat) : Int), o'.reverse)) → coF (zE4 s.Ranges) (C.drop (k + 1)) op' o' = coF (zE4 s.Ranges) (C[k] :: C.drop (k + 1)) op o →
        zE (fun (x : Bool × Int × (List Range)) => kY C s { Ranges := [] } 1 x.1 x.2.1 x.2.2) (op, (k : Int), o.reverse) = some (coF (zE4 s.Ranges) (C[k] :: C.drop (k + 1)) op o).reverse := by
      intro op' o' ho hne hb e
      rw [zP (body := fun (x : Bool × Int × (List Range)) => kY C s { Ranges := [] } 1 x.1 x.2.1 x.2.2) (x := (op, (k : Int), o.reverse)) hb, ih (k + 1) op' o' (by omega) (by omega) ho hne, e]
    have hb0 : kY C s { Ranges := [] } 1 op (k : Int) o.reverse = ((cond (zE4 s.Ranges C[k] && op) ((yA o.reverse (wi ((o.reverse.length : Int) - 1))).bind fun t59 => (uU o.reverse (wi ((o.reverse.length : Int) - 1)) ({ t59 with Hi := nxt (C.drop (k + 1)) })).bind fun r4160_4 => some r4160_4) (some o.reverse)).bind fun (y3 : List Range) =>
        (cond (zE4 s.Ranges C[k] && !op) ((app y3 [({ Lo := C[k], Hi := nxt (C.drop (k + 1)) } : Range)]).bind fun r => some r) (some y3)).bind fun (y5 : List Range) => some (Stp.next (zE4 s.Ranges C[k], ((k + 1 : Nat) : Int), y5))) := by
      unfold kY
      simp only [zM (k := k) (show k + 1 ≤ 9223372036854775807 by omega), yQ hk, cond_true, hnx, zA, zU hk, yAJ (show s.Ranges.length ≤ 2000 by omega), he, zHR, decide_true, zN, Bool.or_false]
    cases hh : zE4 s.Ranges C[k] with
    | false =>
      refine nx false o (by omega) (fun h => by cases h) ?_ ?_
      · rw [hb0, hh]; rfl
      · simp [coF, hh]
    | true =>
      cases op with
      | false =>
        refine nx true ({ Lo := C[k], Hi := nxt (C.drop (k + 1)) } :: o) (by simp; omega) (fun _ => by simp) ?_ ?_
        · rw [hb0, hh]
          simp only [Bool.and_false, cond_false, zA, Bool.not_false, Bool.and_self, cond_true, xQ (show o.reverse.length + [({ Lo := C[k], Hi := nxt (C.drop (k + 1)) } : Range)].length ≤ 4294967296 by simp; omega)]
          simp
        · simp [coF, hh]
      | true =>
        cases o with
        | nil => exact absurd rfl (h4 rfl)
        | cons q o =>
          refine nx true ({ q with Hi := nxt (C.drop (k + 1)) } :: o) (by simp only [List.length_cons] at h3 ⊢; omega) (fun _ => by simp) ?_ ?_
          · rw [hb0, hh]
            have e1 : wi (((q :: o).reverse.length : Int) - 1) = ((o.length : Nat) : Int) := by
              simp only [List.length_cons] at h3
              have hL : ((q :: o).reverse.length : Int) = (o.length : Int) + 1 := by simp
              rw [hL, xO (by omega) (by omega)]; omega
            have e2 : (q :: o).reverse = o.reverse ++ q :: [] := by simp
            rw [e1, e2, xW (by simp), zA, vW (by simp)]
            simp
          · simp [coF, hh]
theorem yAK {l:List Range} (hl:l.length≤12):zGV l=some {Ranges:=(coF (zE4 l) (plE 0 (plE 0 (cuE l []))) false []).reverse}:=by
 unfold zGV zE8
 have h1:=zWP l []
 have h2:=zLI 0 (cuE l [])
 have h3:=zLI 0 (plE 0 (cuE l []))
 simp only [List.length_nil] at h1
 have e0:cuE ([]:List Range) (plE 0 (cuE l []))=plE 0 (cuE l []):=rfl
 have hg:Gd (plE 0 (plE 0 (cuE l []))):=zO1 (by omega) (zO1 (by omega) (zWO l ⟨.nil,fun x hx=>by cases hx⟩))
 rw [z30 (s:={Ranges:=l}) hl (by simp),zA,z30 (s:={Ranges:=[]}) (by simp) (show (plE 0 (cuE l [])).length≤100 by omega)]
 rw [zA]
 have h:=yD4 (s:={Ranges:=l}) hl (by omega) hg _ 0 false [] rfl (by omega) (by simp) (fun h=>by cases h)
 rw [List.drop_zero] at h
 have h':zE (fun (x:Bool×Int×(List Range))=>kY (plE 0 (plE 0 (cuE l []))) {Ranges:=l} {Ranges:=[]} 1 x.1 x.2.1 x.2.2) (false,0,[])=some (coF (zE4 l) (plE 0 (plE 0 (cuE l []))) false []).reverse:=h
 change ((zE (fun (x:Bool×Int×(List Range))=>kY (plE 0 (plE 0 (cuE l []))) {Ranges:=l} {Ranges:=[]} 1 x.1 x.2.1 x.2.2) (false,0,[])).bind fun y1=>some ({Ranges:=y1}:Set)).bind (fun t6=>some t6)=_
 rw [h']
 rfl
end Go.M
namespace Go.M
open Go.AV
theorem zQN {has:Int→Bool}:∀(C:List Int) (op:Bool) (o:List Range),Gd C→CanR o→(op=true→∀c,C.head? =some c→∃q o',o=q::o'∧q.Hi=c - 1∧q.Lo≤c)→(op=false→∀c q,C.head? =some c→o.head? =some q→q.Hi+1 < c)→(op=true→o≠[])→CanR (coF has C op o)
 | [],_,_,_,h,_,_,_=>h
 | c::cs,op,o,hg,ho,h1,h2,h3=>by
  obtain ⟨ha,hb⟩:=List.pairwise_cons.1 hg.1
  have hgs:Gd cs:=⟨hb,fun x hx=>hg.2 x (by simp [hx])⟩
  have hc:=hg.2 c (by simp)
  have hnx:c≤nxt cs∧nxt cs≤1114111∧∀d,cs.head? =some d→nxt cs=d - 1∧c < d:=by
   cases cs with
   | nil=>exact ⟨hc.2,Int.le_refl _,fun d hd=>by cases hd⟩
   | cons d cs=>
    have h5:=ha d (by simp)
    have h6:=hg.2 d (by simp)
    refine ⟨show c≤d - 1 by omega,show d - 1≤1114111 by omega,fun e he=>?_⟩
    simp only [List.head?_cons,Option.some.injEq] at he
    subst he
    exact ⟨rfl,h5⟩
  unfold coF
  split
  split
  rename_i hop
  obtain ⟨q,o',rfl,e1,e2⟩:=h1 hop c rfl
  refine zQN cs true _ hgs ?_ (fun _ d hd=>⟨_,_,rfl,(hnx.2.2 d hd).1,?_⟩) (fun h=>by cases h) (fun _=>by simp)
  have hq:=ho.head
  unfold zBV at hq
  cases o' with
  | nil=>show zBV _;unfold zBV;simp only;omega
  | cons z o'=>exact ⟨by unfold zBV;simp only;omega,ho.2.1,ho.2.2⟩
  have:=(hnx.2.2 d hd).2
  show q.Lo≤d
  omega
  rename_i hop
  simp only [Bool.not_eq_true] at hop
  refine zQN cs true _ hgs ?_ (fun _ d hd=>⟨_,_,rfl,(hnx.2.2 d hd).1,?_⟩) (fun h=>by cases h) (fun _=>by simp)
  cases o with
  | nil=>show zBV _;unfold zBV;simp only;omega
  | cons z o'=>exact ⟨by unfold zBV;simp only;omega,h2 hop c z rfl rfl,ho⟩
  have:=(hnx.2.2 d hd).2
  show c≤d
  omega
  refine zQN cs false o hgs ho (fun h=>by cases h) (fun _ d q hd hq=>?_) (fun h=>by cases h)
  have h7:=(hnx.2.2 d hd).2
  cases op with
  | true=>
   obtain ⟨q',o',rfl,e1,_⟩:=h1 rfl c rfl
   simp only [List.head?_cons,Option.some.injEq] at hq
   subst hq
   omega
  | false=>
   have:=h2 rfl c q rfl hq
   omega
def zJ6 (l:List Range):List Int:=l.flatMap fun r=>r.Lo::if r.Hi < 1114111 then [r.Hi+1] else []
theorem yAL:∀(l:List Range) (c:List Int),Can l→(∀x∈c,∀r,l.head? =some r→x < r.Lo)→cuE l c=c++zJ6 l
 | [],c,_,_=>by simp [cuE,zJ6]
 | r::l,c,h,hc=>by
  have hr:=h.head
  unfold zBV at hr
  have hv:vld r.Lo=true:=by unfold vld;simp;omega
  have e1:plE r.Lo c=c++ [r.Lo]:=zWN fun x hx=>hc x hx r rfl
  have e2:cuS c r=c++(r.Lo::if r.Hi < 1114111 then [r.Hi+1] else []):=by
   unfold cuS
   rw [if_pos hv,e1]
   by_cases hm:r.Hi < 1114111
   rw [if_pos ⟨by omega,hm⟩,if_pos hm,zWN]
   simp
   intro x hx
   rcases List.mem_append.1 hx with hx | hx
   have:=hc x hx r rfl;omega
   simp only [List.mem_singleton] at hx;omega
   rw [if_neg (fun h=>hm h.2),if_neg hm]
  show cuE l (cuS c r)=_
  rw [yAL l (cuS c r) h.tail,e2]
  simp [zJ6]
  intro x hx q hq
  have hg:r.Hi+1 < q.Lo:=h.gap q (by cases l with | nil=>cases hq | cons a l=>simp only [List.head?_cons,Option.some.injEq] at hq;simp [hq])
  rw [e2] at hx
  rcases List.mem_append.1 hx with hx | hx
  have:=hc x hx r rfl;omega
  rcases List.mem_cons.1 hx with rfl | hx
  omega
  split at hx
  simp only [List.mem_singleton] at hx;omega
  cases hx
theorem yHH {l:List Range} (h:Can l) {r:Range} (hr:r∈l):zE4 l r.Lo=true:=by
 have:=h.ok r hr
 unfold zBV at this
 unfold zE4
 refine List.any_eq_true.2 ⟨r,hr,?_⟩
 unfold vld
 simp;omega
theorem yAM:∀{l:List Range},Can l→∀{r:Range},r∈l→zE4 l (r.Hi+1)=false
 | [],_,r,hr=>by cases hr
 | a::l,h,r,hr=>by
  unfold zE4
  rw [List.any_eq_false]
  intro q hq
  have no:∀(c:Int) (q:Range),(c < q.Lo∨q.Hi < c)→¬(vld c&&decide (q.Lo≤c)&&decide (c≤q.Hi))=true:=by
   intro c q hc
   simp only [Bool.and_eq_true,decide_eq_true_eq]
   omega
  rcases List.mem_cons.1 hr with rfl | hr'
  refine no _ _ ?_
  rcases List.mem_cons.1 hq with rfl | hq
  omega
  have:=h.gap q hq;omega
  rcases List.mem_cons.1 hq with rfl | hq
  refine no _ _ ?_
  have h1:=h.gap r hr'
  have h2:=h.tail.ok r hr'
  unfold zBV at h2
  omega
  have:=yAM h.tail hr'
  unfold zE4 at this
  rw [List.any_eq_false] at this
  exact this q hq
theorem z31 {has : Int → Bool} : ∀ (l : List Range) (o : List Range), Can l → (∀ r ∈ l, has r.Lo = true ∧ (r.Hi < 1114111 → has (r.Hi + 1) = false)) → coF has (zJ6 l) false o = l.reverse ++ o
  | [], o, _, _ => by simp [zJ6, coF]
  | r :: l, o, h, hh => by
    obtain ⟨h1, h2⟩ := hh r (by simp)
    have ih := z31 (has := has) l (r :: o) h.tail fun q hq => hh q (by simp [hq])
    have hr := h.head
    unfold zBV at hr
    by_cases hm : r.Hi < 1114111
    · have e : zJ6 (r :: l) = r.Lo :: (r.Hi + 1) :: zJ6 l := by simp [zJ6, hm]
      have en : nxt ((r.Hi + 1) :: zJ6 l) = r.Hi := by show r.Hi + 1 - 1 = r.Hi; omega
      rw [e]
      unfold coF
      rw [if_pos h1, if_neg (by simp), en]
      unfold coF
      rw [if_neg (by rw [h2 hm]; simp), ih]
      simp
    · have hl : l = [] := by
        cases l with
        | nil => rfl
        | cons q l =>
          have := h.2.1
          have h3 := h.tail.head
          unfold zBV at h3
          omega
      subst hl
      have e : zJ6 [r] = [r.Lo] := by simp [zJ6, hm]
      rw [e]
      unfold coF
      rw [if_pos h1, if_neg (by simp)]
      unfold coF
      have : nxt [] = r.Hi := by show (1114111 : Int) = r.Hi; omega
      rw [this]
      rfl
theorem yAN {l:List Int} (h:Gd l):plE 0 (plE 0 l)=plE 0 l:=by
 cases l with
 | nil=>rfl
 | cons x l=>
  have:=h.2 x (by simp)
  by_cases hx:0 < x
  have e:plE 0 (x::l)=0::x::l:=by unfold plE;rw [if_pos (by omega),if_pos hx]
  rw [e]
  unfold plE
  rw [if_pos (by omega),if_neg (by omega)]
  have e:plE 0 (x::l)=x::l:=by unfold plE;rw [if_pos (by omega),if_neg hx]
  rw [e,e]
theorem yAO {l:List Range} (h:Can l):(coF (zE4 l) (plE 0 (plE 0 (cuE l []))) false []).reverse=l:=by
 rw [yAN (zWO l ⟨.nil,fun x hx=>by cases hx⟩),yAL l [] h (fun x hx=>by cases hx),List.nil_append]
 have hw:=z31 (has:=zE4 l) l [] h fun r hr=>⟨yHH h hr,fun _=>yAM h hr⟩
 rw [List.append_nil] at hw
 have h0:plE 0 (zJ6 l)=zJ6 l∨(plE 0 (zJ6 l)=0::zJ6 l∧zE4 l 0=false):=by
  cases l with
  | nil=>exact .inr ⟨rfl,rfl⟩
  | cons r l=>
   have hr:=h.head
   unfold zBV at hr
   have e:zJ6 (r::l)=r.Lo::((if r.Hi < 1114111 then [r.Hi+1] else [])++zJ6 l):=by simp [zJ6]
   rw [e]
   by_cases hx:0 < r.Lo
   refine .inr ⟨by unfold plE;rw [if_pos (by omega),if_pos hx],?_⟩
   unfold zE4
   rw [List.any_eq_false]
   intro q hq
   simp only [Bool.and_eq_true,decide_eq_true_eq]
   rcases List.mem_cons.1 hq with rfl | hq
   omega
   have:=h.gap q hq;omega
   exact .inl (by unfold plE;rw [if_pos (by omega),if_neg hx])
 rcases h0 with h0 | ⟨h0,h1⟩
 rw [h0,hw,List.reverse_reverse]
 rw [h0]
 unfold coF
 rw [if_neg (by rw [h1];simp),hw,List.reverse_reverse]
theorem z6D (l:List Range):Can (coF (zE4 l) (plE 0 (plE 0 (cuE l []))) false []).reverse:=by
 have hg:Gd (plE 0 (plE 0 (cuE l []))):=zO1 (by omega) (zO1 (by omega) (zWO l ⟨.nil,fun x hx=>by cases hx⟩))
 have:=zQN (has:=zE4 l) _ false [] hg trivial (fun h=>by cases h) (fun _ c q _ hq=>by cases hq) (fun h=>by cases h)
 have h2:=zWA _ [] this trivial (fun _ _ _ h=>by cases h)
 simpa using h2
theorem yD5 {a b:Set} (ha:a.Ranges.length≤2000):zGW a b=some (decide (a.Ranges=b.Ranges)):=by
 unfold zGW
 by_cases hl:a.Ranges.length=b.Ranges.length
 have e:(!decide ((a.Ranges.length:Int)=(b.Ranges.length:Int)))=false:=by simp [hl]
 rw [e,cond_false]
 have h:=kZ (body:=fun (x:Int)=>zB7 a b x) a.Ranges.length (fun k=>nth a.Ranges k=nth b.Ranges k) (fun y=>y=false) (fun k hk=>by
  simp only [zB7,yQ hk,cond_true,z0 hk,z0 (show k < b.Ranges.length by omega),zA,zM (k:=k) (by omega)]
  exact uZ (by simp) rfl) (fun k hk=>by simp only [zB7,kJ hk,cond_false])
 have he:(∀j,j < a.Ranges.length→nth a.Ranges j=nth b.Ranges j)↔a.Ranges=b.Ranges:=by
  constructor
  intro h
  refine List.ext_getElem hl fun i h1 h2=>?_
  have:=h i h1
  rwa [zBP h1,zBP h2] at this
  intro h j _;rw [h]
 rw [he] at h
 rcases h with ⟨h,p⟩ | ⟨y,rfl,h,p⟩
 rw [h];simp [p]
 rw [h];simp [p]
 have e:(!decide ((a.Ranges.length:Int)=(b.Ranges.length:Int)))=true:=by simp;omega
 rw [e,cond_true]
 have:a.Ranges≠b.Ranges:=fun h=>hl (by rw [h])
 simp [this]
theorem yHI {s:Set} (hl:s.Ranges.length≤12):∃b,zFL s=some b∧(b=true↔Can s.Ranges):=by
 unfold zFL
 rw [yAK hl,zA,yD5 (by omega),zA]
 refine ⟨_,rfl,?_⟩
 simp only [decide_eq_true_eq]
 constructor
 intro h;rw [h];exact z6D _
 intro h;rw [yAO h]
end Go.M
namespace Go.M
open Go.AV
theorem zWQ {l:List Mapping} (hl:l.length≤2000) (c:Int) (b:Bool):zCS l c b=some (fiI l c b):=by
 unfold zCS
 have h:zE (fun (x:Int)=>zB8 l c b x) 0=some (toS (uX (fun k m=>(pM c b k m).map fun (i:Nat)=>(i:Int)) l 0)):=by
  refine jT l _ (fun k hk=>?_) (fun k hk=>?_)
  simp only [zB8,yQ hk,cond_true,zU hk,zA,zN,zM (k:=k) (by omega),pM]
  by_cases h1:l[k].From=c
  cases b with
  | true=>simp [h1,uM,stp]
  | false=>
   cases ht:(l[k].Tag== []) with
   | true=>simp only [h1,decide_true,Bool.not_false,Bool.and_self,xH,zA,Bool.false_or,ht,Bool.true_and,cond_true,and_self,if_true,Option.map_some,stp]
   | false=>simp only [h1,decide_true,Bool.not_false,Bool.and_self,xH,zA,Bool.false_or,ht,Bool.true_and,cond_false,Bool.false_eq_true,and_false,if_false,Option.map_none,stp]
  simp [h1,uM,stp]
  simp only [zB8,kJ hk,cond_false]
 rw [h,zA,jH]
 have e:∀(L:List Mapping) (k:Nat),uX (fun k m=>(pM c b k m).map fun (i:Nat)=>(i:Int)) L k=(uX (pM c b) L k).map fun (i:Nat)=>(i:Int):=by
  intro L
  induction L with
  | nil=>intro k;rfl
  | cons x L ih=>
   intro k
   unfold uX
   cases pM c b k x with
   | none=>exact ih (k+1)
   | some y=>rfl
 rw [e]
 unfold fiI fi
 cases uX (pM c b) l 0 <;> rfl
theorem yAP (c:Int):zET c=some (hkE c):=by
 unfold zET hkE
 simp only [zN]
 by_cases h1:4352≤c∧c < 4371
 rw [if_pos h1]
 have:(decide (4352≤c)&&decide (c≤4370))=true:=by simp;omega
 rw [this];rfl
 rw [if_neg h1]
 have e1:(decide (4352≤c)&&decide (c≤4370))=false:=by simp only [Bool.and_eq_false_iff,decide_eq_false_iff_not];omega
 rw [e1,cond_false]
 by_cases h2:4449≤c∧c < 4470
 rw [if_pos h2]
 have:(decide (4449≤c)&&decide (c≤4469))=true:=by simp;omega
 rw [this];rfl
 rw [if_neg h2]
 have e2:(decide (4449≤c)&&decide (c≤4469))=false:=by simp only [Bool.and_eq_false_iff,decide_eq_false_iff_not];omega
 rw [e2,cond_false]
 by_cases h3:4520≤c∧c < 4547
 rw [if_pos h3]
 have:(decide (4520≤c)&&decide (c≤4546))=true:=by simp;omega
 rw [this];rfl
 rw [if_neg h3]
 have e3:(decide (4520≤c)&&decide (c≤4546))=false:=by simp only [Bool.and_eq_false_iff,decide_eq_false_iff_not];omega
 rw [e3,cond_false]
 by_cases h4:c < 44032∨55204≤c
 rw [if_pos h4]
 have:(decide (44032≤c)&&decide (c≤55203))=false:=by simp only [Bool.and_eq_false_iff,decide_eq_false_iff_not];omega
 rw [this];rfl
 rw [if_neg h4]
 have e4:(decide (44032≤c)&&decide (c≤55203))=true:=by simp;omega
 rw [e4,cond_true,xO (n:=c - 44032) (by omega) (by omega)]
 have er:zHF (c - 44032) 28=some ((c - 44032) % 28):=by
  unfold zHF;rw [if_neg (by decide),Int.tmod_eq_emod_of_nonneg (by omega)]
 rw [er,zA]
 by_cases h5:(c - 44032) % 28=0 <;> simp [h5]
theorem yFH (c:Int):u7 c=some (hdE c):=by
 unfold u7
 rw [yAP,zA]
 cases hs:syl c with
 | false=>
  have:decide (hkE c < 4)=true:=by
   simp only [decide_eq_true_eq]
   have:¬4≤hkE c:=fun h=>by have:=(zGD c).2 h;rw [hs] at this;cases this
   omega
  rw [this,cond_true]
  unfold hdE;rw [if_neg (by simp [hs])]
 | true=>
  have h4:=(zGD c).1 hs
  have:decide (hkE c < 4)=false:=by simp only [decide_eq_false_iff_not];omega
  rw [this,cond_false]
  have hr:44032≤c∧c≤55203:=by unfold syl at hs;simpa using hs
  rw [xO (n:=c - 44032) (by omega) (by omega)]
  have d1:zKI wi (c - 44032) 28=some ((c - 44032) / 28):=by
   unfold zKI;rw [if_neg (by decide),Int.tdiv_eq_ediv_of_nonneg (by omega),xO (by omega) (by omega)]
  have d2:zKI wi ((c - 44032) / 28) 21=some ((c - 44032) / 28 / 21):=by
   unfold zKI;rw [if_neg (by decide),Int.tdiv_eq_ediv_of_nonneg (by omega),xO (by omega) (by omega)]
  have d3:zHF ((c - 44032) / 28) 21=some ((c - 44032) / 28 % 21):=by
   unfold zHF;rw [if_neg (by decide),Int.tmod_eq_emod_of_nonneg (by omega)]
  have d4:zHF (c - 44032) 28=some ((c - 44032) % 28):=by
   unfold zHF;rw [if_neg (by decide),Int.tmod_eq_emod_of_nonneg (by omega)]
  simp only [d1,d2,d3,d4,zA]
  unfold hdE
  rw [if_pos hs,xO (n:=4352+(c - 44032) / 28 / 21) (by omega) (by omega),xO (n:=4449+(c - 44032) / 28 % 21) (by omega) (by omega)]
  by_cases h0:0 < (c - 44032) % 28
  rw [if_pos h0,xO (n:=4520+(c - 44032) % 28) (by omega) (by omega),xO (n:=4520+(c - 44032) % 28 - 1) (by omega) (by omega)]
  simp only [h0,decide_true,cond_true]
  rw [xQ (by simp)]
  rfl
  rw [if_neg h0]
  simp only [h0,decide_false,cond_false]
  rfl
section
variable {l:List Mapping} (hl:l.length≤2000) (hto:∀m∈l,m.To.length≤2000)
include hl hto
theorem yD6 {out : List Bool} (ho : out.length = l.length) {i : Nat} (hi : i < l.length) : ∀ (d k : Nat) (b : Bool), (nth l i).To.length - k = d → k ≤ (nth l i).To.length →
    zE (fun (x : Bool × Int) => wS l (i : Int) out x.1 x.2) (b, (k : Int)) = some (b && ((nth l i).To.drop k).all fun e => match fi l e true with | some m => nth out m | none => true) := by
  have hlen := hto _ (x9 hi)
  intro d
  induction d with
  | zero =>
    intro k b h1 h2
    rw [List.drop_of_length_le (show (nth l i).To.length ≤ k by omega)]
    refine zJ ?_
    simp only [wS, z0 hi, zA, kJ (show (nth l i).To.length ≤ k by omega), cond_false, List.all_nil, Bool.and_true]
  | succ d ih =>
    intro k b h1 h2
    have hk : k < (nth l i).To.length := by omega
    have hb : wS l (i : Int) out b (k : Int) = some (.next (b && (match fi l (nth l i).To[k] true with | some m => nth out m | none => true), ((k + 1 : Nat) : Int))) := by
      simp only [wS, z0 hi, zA, yQ hk, cond_true, zU hk, zWQ hl, zN, zM (k := k) (by omega)]
      unfold fiI
      cases hf : fi l (nth l i).To[k] true with
      | none => simp [uM]
      | some m =>
        obtain ⟨h3, _, _⟩ := zH1 hf
        have e : decide (((m : Nat) : Int) < 0) = false := by simp
        simp only [e, Bool.not_false, Bool.and_true, Bool.false_or]
        cases b with
        | false => simp [uM]
        | true => simp only [xH, z0 (show m < out.length by omega), zA, Bool.true_and]
    rw [zP (body := fun (x : Bool × Int) => wS l (i : Int) out x.1 x.2) (x := (b, (k : Int))) hb, ih (k + 1) _ (by omega) (by omega), List.drop_eq_getElem_cons hk, List.all_cons, Bool.and_assoc]
theorem yD7:zGX l=some (zHE (zMO l) l.length l.length (List.replicate l.length false)):=by
 unfold zGX
 rw [z1Q (by omega),zA]
 have h1:∀(out:List Bool),out.length=l.length→zE (fun (x:Int×(List Bool))=>zAU l x.1 x.2) (0,out)=some (zNW (zMO l) l.length 0 out):=fun out ho=>
  zNX (upd:=zMO l) (n:=l.length) (Inv:=fun _=>True) (body:=fun (x:Int×(List Bool))=>zAU l x.1 x.2) (fun i out=>((i:Int),out)) id (fun i out hi ho _=>by
   have:=yD6 hl hto ho hi _ 0 true rfl (by omega)
   rw [List.drop_zero,Bool.true_and] at this
   have h':zE (fun (x:Bool×Int)=>wS l (i:Int) out x.1 x.2) (true,0)=some (zMO l out i):=this
   simp only [zAU,yQ hi,cond_true,h',zA,z0 (show i < out.length by omega),zG9 (show i < out.length by omega),zM (k:=i) (by omega)]) (fun _ _ _ _ _=>trivial) (fun out=>by simp only [zAU,kJ (Nat.le_refl _),cond_false];rfl) l.length 0 out (by omega) ho trivial
 have h2:=zNY (upd:=zMO l) (n:=l.length) (Inv:=fun _=>True) (body:=fun (x:Int×(List Bool))=>zAV l x.1 x.2) (fun i out=>((i:Int),out)) id (N:=l.length) (fun r out hr ho _=>by
  simp only [zAV,yQ hr,cond_true,h1 out ho,zA,zM (k:=r) (by omega)]) (fun _ _ _ _ _=>trivial) (fun out=>by simp only [zAV,kJ (Nat.le_refl _),cond_false];rfl) l.length 0 (List.replicate l.length false) (by omega) (by simp) trivial
 have h3:zE (fun (x:Int×(List Bool))=>zAV l x.1 x.2) (0,List.replicate l.length false)=some (zHE (zMO l) l.length l.length (List.replicate l.length false)):=h2
 rw [h3]
 rfl
theorem yD8 {b : Bool} {out : List Int} (ho : out.length = l.length) (hv : zWL out) {i : Nat} (hi : i < l.length) : ∀ (d k : Nat) (n : Int), (nth l i).To.length - k = d → k ≤ (nth l i).To.length → 0 ≤ n → n ≤ 100 * (k : Int) →
    zE (fun (x : Int × Int) => jY l (i : Int) b out x.1 x.2) (n, (k : Int)) = some (n + (((nth l i).To.drop k).map (lenOf l b out)).sum) := by
  have hlen := hto _ (x9 hi)
  intro d
  induction d with
  | zero =>
    intro k n h1 h2 h3 h4
    rw [List.drop_of_length_le (show (nth l i).To.length ≤ k by omega)]
    refine zJ ?_
    simp only [jY, z0 hi, zA, kJ (show (nth l i).To.length ≤ k by omega), cond_false, List.map_nil, List.sum_nil, Int.add_zero]
  | succ d ih =>
    intro k n h1 h2 h3 h4
    have hk : k < (nth l i).To.length := by omega
    have hbd : 0 ≤ lenOf l b out (nth l i).To[k] ∧ lenOf l b out (nth l i).To[k] ≤ 65 := by
      unfold lenOf
      cases hf : fi l (nth l i).To[k] b with
      | none => have := zMK (nth l i).To[k]; simp only []; omega
      | some m => obtain ⟨h3, _, _⟩ := zH1 hf; exact hv _ (x9 (by omega))
    have hb : jY l (i : Int) b out n (k : Int) = some (.next (n + lenOf l b out (nth l i).To[k], ((k + 1 : Nat) : Int))) := by
      have hw : wi (n + lenOf l b out (nth l i).To[k]) = n + lenOf l b out (nth l i).To[k] := xO (by omega) (by omega)
      simp only [jY, z0 hi, zA, yQ hk, cond_true, zU hk, zWQ hl, zM (k := k) (by omega), yFH]
      rw [← hw]
      unfold lenOf fiI
      cases hf : fi l (nth l i).To[k] b with
      | none => rfl
      | some m =>
        obtain ⟨h3, _, _⟩ := zH1 hf
        have e : decide (0 ≤ ((m : Nat) : Int)) = true := by simp
        simp only [e, cond_true, z0 (show m < out.length by omega), zA]
    rw [zP (body := fun (x : Int × Int) => jY l (i : Int) b out x.1 x.2) (x := (n, (k : Int))) hb, ih (k + 1) _ (by omega) (by omega) (by omega) (by omega), List.drop_eq_getElem_cons hk, List.map_cons, List.sum_cons, Int.add_assoc]
theorem z32 (b:Bool):zB9 l b=some (zHE (updL l b) l.length l.length (List.replicate l.length 0)):=by
 unfold zB9
 rw [z1Q (by omega),zA]
 have h0:zWL (List.replicate l.length 0):=fun x hx=>by rw [(List.mem_replicate.1 hx).2];omega
 have h1:∀(out:List Int),out.length=l.length→zWL out→zE (fun (x:Int×(List Int))=>wN l b x.1 x.2) (0,out)=some (zNW (updL l b) l.length 0 out):=fun out ho hv=>
  zNX (upd:=updL l b) (n:=l.length) (Inv:=zWL) (body:=fun (x:Int×(List Int))=>wN l b x.1 x.2) (fun i out=>((i:Int),out)) id (fun i out hi ho hv=>by
   have:=yD8 hl hto (b:=b) ho hv hi _ 0 0 rfl (by omega) (by omega) (by omega)
   rw [List.drop_zero,Int.zero_add] at this
   have h':zE (fun (x:Int×Int)=>jY l (i:Int) b out x.1 x.2) (0,0)=some (((nth l i).To.map (lenOf l b out)).sum):=this
   simp only [wN,yQ hi,cond_true,h',zA,z0 (show i < out.length by omega),zG9 (show i < out.length by omega),z0 hi,zN,zM (k:=i) (by omega)]
   unfold updL
   cases b with
   | true=>simp
   | false=>
    cases ht:((nth l i).Tag== []) with
    | true=>simp
    | false=>simp [z0 (show i < (out.set i (min (max (List.map (lenOf l false out) (nth l i).To).sum 1) 65)).length by simp;omega),zG9 (show i < (out.set i (min (max (List.map (lenOf l false out) (nth l i).To).sum 1) 65)).length by simp;omega)]) zOZ (fun out=>by simp only [wN,kJ (Nat.le_refl _),cond_false];rfl) l.length 0 out (by omega) ho hv
 have h2:=zNY (upd:=updL l b) (n:=l.length) (Inv:=zWL) (body:=fun (x:Int×(List Int))=>wO l b x.1 x.2) (fun i out=>((i:Int),out)) id (N:=l.length) (fun r out hr ho hv=>by
  simp only [wO,yQ hr,cond_true,h1 out ho hv,zA,zM (k:=r) (by omega)]) zOZ (fun out=>by simp only [wO,kJ (Nat.le_refl _),cond_false];rfl) l.length 0 (List.replicate l.length 0) (by omega) (by simp) h0
 have h3:zE (fun (x:Int×(List Int))=>wO l b x.1 x.2) (0,List.replicate l.length 0)=some (zHE (updL l b) l.length l.length (List.replicate l.length 0)):=h2
 rw [h3]
 rfl
end
end Go.M
namespace Go.M
open Go.AV
theorem zQO {β:Type} [Inhabited β] {upd:List β→Nat→β} {n k:Nat} {out:List β} (h:out.length=n):(zHE upd n k out).length=n:=
 (zWJ (upd:=upd) (n:=n) (Inv:=fun _=>True) (fun _ _ _ _ _=>trivial) k out h trivial).2
theorem zZY {l:List Mapping} (h:∀k,k+1 < l.length→(nth l k).From < (nth l (k+1)).From):∀(d i:Nat),i+d+1 < l.length→(nth l i).From < (nth l (i+d+1)).From
 | 0,i,hi=>h i hi
 | d+1,i,hi=>by
  have h1:=zZY h d i (by omega)
  have h3:=h (i+d+1) (by omega)
  have:i+(d+1)+1=i+d+1+1:=by omega
  rw [this]
  omega
theorem z6E {l:List Mapping} (hlt:∀k,k+1 < l.length→mlt (nth l k) (nth l (k+1))):(∀k,k < l.length→¬fiI l (nth l k).From true < (k:Int))↔∀k,k+1 < l.length→(nth l (k+1)).From≠(nth l k).From:=by
 constructor
 intro h k hk e
 have hk':k < l.length:=by omega
 have hp:pM (nth l (k+1)).From true (0+k) l[k]≠none:=by
  unfold pM
  rw [if_pos ⟨by rw [e,zBP hk'],rfl⟩]
  simp
 obtain ⟨i,hi,hik,hc⟩:=zUT (p:=pM (nth l (k+1)).From true) (l:=l) (k:=0) hk' hp
 have hfi:fi l (nth l (k+1)).From true=some i:=by
  unfold fi
  rw [hc]
  unfold pM
  split
  simp
  rename_i hn
  exfalso
  have:uX (pM (nth l (k+1)).From true) l 0=none:=by rw [hc];unfold pM;rw [if_neg hn]
  exact hp (zNP this k hk')
 refine h (k+1) hk ?_
 unfold fiI
 rw [hfi]
 simp only []
 omega
 intro h k hk hlt'
 have hs:∀k,k+1 < l.length→(nth l k).From < (nth l (k+1)).From:=fun k hk=>by
  have a:=hlt k hk
  have b:=h k hk
  unfold mlt at a
  omega
 unfold fiI at hlt'
 cases hf:fi l (nth l k).From true with
 | none=>exact absurd ⟨rfl,rfl⟩ (z3T hf _ (x9 hk))
 | some i=>
  rw [hf] at hlt'
  simp only [] at hlt'
  obtain ⟨h1,h2,_⟩:=zH1 hf
  have:=zZY hs (k - i - 1) i (by omega)
  rw [show i+(k - i - 1)+1=k by omega] at this
  omega
theorem yHJ {n:Norm} (hs:NSm n) (hok:zCC n):Ver (zFM n) (VD0 n):=by
 obtain ⟨e1,he1,p1⟩:=yAC (l:=n.Classes) (by have:=hs.cl;omega)
 obtain ⟨e2,he2,p2⟩:=yHE (l:=n.Decomp) (by have:=hs.de;omega) (fun m hm=>by have:=hs.to m hm;omega) (fun m hm=>by have:=hs.tg m hm;unfold MX;omega)
 obtain ⟨e3,he3,p3⟩:=yHI (s:=n.Excluded) hs.ex
 have hde:=hs.de
 have hl:n.Decomp.length≤2000:=by omega
 have hto:∀m∈n.Decomp,m.To.length≤2000:=fun m hm=>by have:=hs.to m hm;omega
 unfold zFM
 rw [he1,zA]
 by_cases h1:e1=0
 case neg=>
  have:(!decide (e1=0))=true:=by simp [h1]
  rw [this,cond_true]
  exact ⟨e1,rfl,by simp only [h1,false_iff];exact fun h=>h1 (p1.2 h.cv)⟩
 rw [h1]
 simp only [decide_true,Bool.not_true,cond_false]
 have cv:=p1.1 h1
 rw [he2,zA]
 by_cases h2:e2=0
 case neg=>
  have:(!decide (e2=0))=true:=by simp [h2]
  rw [this,cond_true]
  exact ⟨e2,rfl,by simp only [h2,false_iff];exact fun h=>h2 (p2.2 h.mv)⟩
 rw [h2]
 simp only [decide_true,Bool.not_true,cond_false]
 have mv:=p2.1 h2
 rw [he3,zA]
 cases e3 with
 | false=>exact ⟨11,rfl,by simp only [show ((11:Int)=0)=False by simp,false_iff];exact fun h=>by have:=p3.2 h.ca;cases this⟩
 | true=>
 have ca:=p3.1 rfl
 simp only [Bool.not_true,cond_false]
 have l0:=kZ (body:=fun (x:Int)=>zBG n x) n.Decomp.length (fun k=> ¬fiI n.Decomp (nth n.Decomp k).From true < (k:Int)) (fun y=>y≠0) (fun k hk=>by
  simp only [zBG,yQ hk,cond_true,z0 hk,zA,zWQ hl,zM (k:=k) (by omega)]
  exact uZ (by simp) (by decide)) (fun k hk=>by simp only [zBG,kJ hk,cond_false])
 rw [z6E mv.lt] at l0
 rcases l0 with ⟨l0,ne⟩ | ⟨y,hy,l0,ne⟩
 case inr=>rw [l0];exact ⟨y,rfl,by simp only [hy,false_iff];exact fun h=>ne h.ne⟩
 rw [l0]
 simp only [zA,Sum.elim_inl]
 have hbt:∀m:Mapping,(m.Tag== [])=decide (m.Tag= []):=fun m=>by cases m.Tag <;> rfl
 have l1:=kZ (body:=fun (x:Int)=>zBH n x) n.Decomp.length (fun k=>(nth n.Decomp k).Tag= []→(nth n.Decomp k).To.length=1∨(nth n.Decomp k).To.length=2) (fun y=>y≠0) (fun k hk=>by
  simp only [zBH,yQ hk,cond_true,z0 hk,zA,zN,zM (k:=k) (by omega),hbt]
  by_cases ht:(nth n.Decomp k).Tag= []
  ·
   simp only [ht,decide_true,xH,zA,Bool.true_and,true_implies]
   by_cases h5:((nth n.Decomp k).To.length:Int)=1
   ·
    simp only [h5,decide_true,Bool.not_true,uM,zA,Bool.false_and,cond_false]
    exact .inl ⟨.inl (by omega),trivial⟩
   ·
    simp only [h5,decide_false,Bool.not_false,xH,zA,Bool.true_and]
    exact uZ (by simp only [Bool.not_eq_true',decide_eq_false_iff_not];omega) (by decide)
  ·
   simp only [ht,decide_false,uM,zA,Bool.false_and,cond_false,false_implies]
   exact .inl ⟨trivial,trivial⟩) (fun k hk=>by simp only [zBH,kJ hk,cond_false])
 rw [zCH (p:=fun m:Mapping=>m.Tag= []→m.To.length=1∨m.To.length=2)] at l1
 rcases l1 with ⟨l1,kd⟩ | ⟨y,hy,l1,kd⟩
 case inr=>rw [l1];exact ⟨y,rfl,by simp only [hy,false_iff];exact fun h=>kd h.kd⟩
 rw [l1]
 simp only [zA,Sum.elim_inl]
 have l2:=kZ (body:=fun (x:Int)=>zBI n x) n.Decomp.length (fun k=>hkE (nth n.Decomp k).From=0∧((nth n.Decomp k).Tag≠[]→clE n.Classes (nth n.Decomp k).From=0)) (fun y=>y≠0) (fun k hk=>by
  simp only [zBI,yQ hk,cond_true,z0 hk,zA,zN,yAP,zM (k:=k) (by omega),hbt]
  by_cases h5:hkE (nth n.Decomp k).From=0
  ·
   simp only [h5,decide_true,Bool.not_true,Bool.not_false,xH,zA,Bool.true_and,Bool.false_or,true_and]
   by_cases ht:(nth n.Decomp k).Tag= []
   ·
    simp only [ht,decide_true,Bool.not_true,uM,zA,Bool.false_and,cond_false]
    exact .inl ⟨fun h=>absurd rfl h,trivial⟩
   ·
    simp only [ht,decide_false,Bool.not_false,xH,zA,Bool.true_and,zHD (show n.Classes.length≤2000 by have:=hs.cl;omega) cv]
    exact uZ (by simp [ht]) (by decide)
  ·
   have:(!decide (hkE (nth n.Decomp k).From=0))=true:=by simp [h5]
   simp only [this,Bool.not_true,uM,zA,Bool.false_and,Bool.true_or,cond_true]
   exact .inr ⟨fun h=>h5 h.1,11,by decide,rfl⟩) (fun k hk=>by simp only [zBI,kJ hk,cond_false])
 rw [zCH (p:=fun m:Mapping=>hkE m.From=0∧(m.Tag≠[]→clE n.Classes m.From=0))] at l2
 rcases l2 with ⟨l2,hk⟩ | ⟨y,hy,l2,hk⟩
 case inr=>rw [l2];exact ⟨y,rfl,by simp only [hy,false_iff];exact fun h=>hk fun m hm=>⟨h.hk m hm,h.tc m hm⟩⟩
 rw [l2]
 simp only [zA,Sum.elim_inl]
 have hds:DS n.Decomp:=⟨fun k hk'=>by
  have a:=mv.lt k hk'
  have b:=ne k hk'
  unfold mlt at a
  omega,fun m hm=>(hk m hm).1,fun m hm=>by have:=mv.sz m hm;omega⟩
 have hms:=z9Y hds (by omega)
 rw [yD7 hl hto,zA]
 have l3:=kZ (body:=fun (x:Int)=>zBJ n (zHE (zMO n.Decomp) n.Decomp.length n.Decomp.length (List.replicate n.Decomp.length false)) x) n.Decomp.length (fun k=>nth (zHE (zMO n.Decomp) n.Decomp.length n.Decomp.length (List.replicate n.Decomp.length false)) k=true) (fun y=>y≠0) (fun k hk=>by
  simp only [zBJ,yQ hk,cond_true,z0 (show k < (zHE (zMO n.Decomp) n.Decomp.length n.Decomp.length (List.replicate n.Decomp.length false)).length by rw [zQO (by simp)];exact hk),zA,zM (k:=k) (by omega)]
  exact uZ (by simp) (by decide)) (fun k hk=>by simp only [zBJ,kJ hk,cond_false])
 rw [yAG hds] at l3
 rcases l3 with ⟨l3,H⟩ | ⟨y,hy,l3,H⟩
 case inr=>rw [l3];exact ⟨y,rfl,by simp only [hy,false_iff];exact fun h=>H (hms.1 h.ms).1⟩
 rw [l3]
 simp only [zA,Sum.elim_inl]
 have hD:=zRZ hds H
 rw [z32 hl hto false,zA,z32 hl hto true,zA]
 have l4:=kZ (body:=fun (x:Int)=>zBK n (zHE (updL n.Decomp false) n.Decomp.length n.Decomp.length (List.replicate n.Decomp.length 0)) (zHE (updL n.Decomp true) n.Decomp.length n.Decomp.length (List.replicate n.Decomp.length 0)) x) n.Decomp.length (fun k=>wt n.Decomp true (nth n.Decomp k).From≤64) (fun y=>y≠0) (fun k hk=>by
  have hmo:wt n.Decomp false (nth n.Decomp k).From≤wt n.Decomp true (nth n.Decomp k).From:=z3I hds _ _
  simp only [zBK,yQ hk,cond_true,z0 (show k < (zHE (updL n.Decomp false) n.Decomp.length n.Decomp.length (List.replicate n.Decomp.length 0)).length by rw [zQO (by simp)];exact hk),z0 (show k < (zHE (updL n.Decomp true) n.Decomp.length n.Decomp.length (List.replicate n.Decomp.length 0)).length by rw [zQO (by simp)];exact hk),zA,zN,z3U hds hD (b:=false) k hk,z3U hds hD (b:=true) k hk,zM (k:=k) (by omega)]
  by_cases h6:64 < wt n.Decomp false (nth n.Decomp k).From
  ·
   simp only [h6,decide_true,Bool.not_true,uM,zA,Bool.true_or,cond_true]
   exact .inr ⟨by omega,13,by decide,rfl⟩
  ·
   simp only [h6,decide_false,Bool.not_false,xH,zA,Bool.false_or]
   exact uZ (by simp) (by decide)) (fun k hk=>by simp only [zBK,kJ hk,cond_false])
 rw [zCH (p:=fun m:Mapping=>wt n.Decomp true m.From≤64)] at l4
 rcases l4 with ⟨l4,W⟩ | ⟨y,hy,l4,W⟩
 ·
  rw [l4]
  exact ⟨0,rfl,by simp only [true_iff];exact ⟨cv,mv,ca,ne,kd,fun m hm=>(hk m hm).1,fun m hm=>(hk m hm).2,hms.2 ⟨H,W⟩⟩⟩
 · rw [l4];exact ⟨y,rfl,by simp only [hy,false_iff];exact fun h=>W (hms.1 h.ms).2⟩
theorem yAQ {n:Norm} (hs:NSm n) (hok:zCC n):zEU n=some (usN n):=by
 obtain ⟨e,he,hv⟩:=yHJ hs hok
 unfold zEU usN
 rw [he,zA]
 by_cases hz:e=0
 rw [if_pos (hv.1 hz)];simp [hz]
 rw [if_neg (fun h=>hz (hv.2 h))];simp [hz]
section
variable {c:Collation} (hs:Sm c) {l:List Span} (hcv:CV l) (hl:l.length≤2000)
include hs
theorem z33 (codes:List Int):zCT (yL c) codes=some (zC5 (yL c).Entries codes):=z1V (z1U hs) (yC7 hs) rfl codes
theorem rM0 {text:List Int} (ht:text.length≤2000):∀(d k:Nat),text.length - k=d→k≤text.length→zE (fun (x:Int×Int)=>jZ text (yL c) x.1 x.2) (((zH0 (pfx (yL c).Entries text) k:Nat):Int),((k+1:Nat):Int))=some ((vR (yL c).Entries text:Nat):Int):=by
 intro d
 induction d with
 | zero=>
  intro k h1 h2
  have:k=text.length:=by omega
  subst this
  refine zJ ?_
  have e:decide (((text.length+1:Nat):Int)≤(text.length:Int))=false:=by simp;omega
  simp only [jZ,e,cond_false]
  rfl
 | succ d ih=>
  intro k h1 h2
  have e:decide (((k+1:Nat):Int)≤(text.length:Int))=true:=by simp;omega
  have hb:jZ text (yL c) ((zH0 (pfx (yL c).Entries text) k:Nat):Int) ((k+1:Nat):Int)=some (.next (((zH0 (pfx (yL c).Entries text) (k+1):Nat):Int),((k+1+1:Nat):Int))):=by
   simp only [jZ,e,cond_true,zFV (show k+1≤text.length by omega),zA,z33 hs,zM (k:=k+1) (by omega)]
   have el:zH0 (pfx (yL c).Entries text) (k+1)=if pfx (yL c).Entries text (k+1)=true then k+1 else zH0 (pfx (yL c).Entries text) k:=rfl
   have:(zC5 (yL c).Entries (text.take (k+1))).2=pfx (yL c).Entries text (k+1):=rfl
   rw [this,el]
   cases pfx (yL c).Entries text (k+1) <;> rfl
  rw [zP (body:=fun (x:Int×Int)=>jZ text (yL c) x.1 x.2) hb]
  exact ih (k+1) (by omega) (by omega)
include hcv hl
theorem rM1 {text : List Int} : ∀ (r p s : List Int) (h : Int) (k : Nat), text.drop k = r → k ≤ text.length → p.length + s.length + r.length ≤ 2000 → text.length ≤ 2000 →
    ∃ (m : Nat) (q : List Int), zE (fun (x : (List Int) × Int × Int × (List Int)) => xN text l (yL c) x.1 x.2.1 x.2.2.1 x.2.2.2) (p, h, (k : Int), s) = some ((zC9 (fun q => (zC5 (yL c).Entries q).2) (clE l) r p s h).1, (m : Int), q) ∧ m ≤ text.length ∧ q ++ text.drop m = (zC9 (fun q => (zC5 (yL c).Entries q).2) (clE l) r p s h).2
  | [], p, s, h, k, hd, hk, _, _ => by
    have hge : text.length ≤ k := by have := congrArg List.length hd; simp at this; omega
    refine ⟨k, s, zJ ?_, hk, ?_⟩
    · simp only [xN, kJ hge, zN, uM, zA, Bool.false_and, cond_false]
      rfl
    · rw [hd]; simp [zC9]
  | x :: r, p, s, h, k, hd, hk, hn, ht => by
    have hlt : k < text.length := by have := congrArg List.length hd; simp at this; omega
    obtain ⟨hx, hd'⟩ := List.cons_eq_cons.1 ((List.drop_eq_getElem_cons hlt).symm.trans hd)
    simp only [List.length_cons] at hn
    have hj : zEY p x = some (p ++ [x]) := by
      unfold zEY
      rw [xQ (by simp; omega), zA, List.nil_append, xQ (by simp; omega)]
      rfl
    by_cases h0 : clE l x = 0
    · refine ⟨k, s, zJ ?_, hk, ?_⟩
      · simp only [xN, yQ hlt, zN, xH, zU hlt, zA, hx, zMN hl hcv, h0, decide_true, Bool.not_true, Bool.and_false, cond_false]
        unfold zC9; rw [if_pos h0]
      · unfold zC9; rw [if_pos h0, hd]
    · unfold zC9
      rw [if_neg h0]
      cases hb : ((zC5 (yL c).Entries (p ++ [x])).2 && decide (h < clE l x)) with
      | true =>
        rw [if_pos rfl]
        obtain ⟨m, q, e1, e2, e3⟩ := rM1 r (p ++ [x]) s h (k + 1) hd' (by omega) (by simp; omega) ht
        refine ⟨m, q, ?_, e2, e3⟩
        rw [← e1]
        refine zP ?_
        simp only [xN, yQ hlt, zN, xH, zU hlt, zA, hx, zMN hl hcv, h0, decide_false, Bool.not_false, Bool.and_true, cond_true, zHD hl hcv, hj, z33 hs, hb, zM (k := k) (by omega)]
      | false =>
        rw [if_neg (by simp)]
        obtain ⟨m, q, e1, e2, e3⟩ := rM1 r p (s ++ [x]) (max h (clE l x)) (k + 1) hd' (by omega) (by simp; omega) ht
        refine ⟨m, q, ?_, e2, e3⟩
        rw [← e1]
        refine zP ?_
        simp only [xN, yQ hlt, zN, xH, zU hlt, zA, hx, zMN hl hcv, h0, decide_false, Bool.not_false, Bool.and_true, cond_true, cond_false, zHD hl hcv, hj, z33 hs, hb, xQ (show s.length + [x].length ≤ 4294967296 by simp; omega), zM (k := k) (by omega)]
noncomputable def mtE (c:Collation) (l:List Span) (text:List Int):List Int×List Int:=zC9 (fun q=>(zC5 (yL c).Entries q).2) (clE l) (text.drop (vR (yL c).Entries text)) (text.take (vR (yL c).Entries text)) [] 0
theorem z13 {text:List Int} (ht:text.length≤2000) (h0:text≠[]):zDL l (yL c) text=some (if vR (yL c).Entries text=0 then (text.take 1,text.drop 1,false) else ((mtE c l text).1,(mtE c l text).2,true)):=by
 have hpos:0 < text.length:=List.length_pos_iff.2 h0
 unfold zDL
 have h1:=rM0 hs ht text.length 0 (by omega) (by omega)
 have h1':zE (fun (x:Int×Int)=>jZ text (yL c) x.1 x.2) (0,1)=some ((vR (yL c).Entries text:Nat):Int):=h1
 rw [h1',zA]
 by_cases hz:vR (yL c).Entries text=0
 have e1:decide (((vR (yL c).Entries text:Nat):Int)=0)=true:=by simp [hz]
 have s1:slc text 0 1=some (text.take 1):=zFV (b:=1) hpos
 have s2:slc text 1 (text.length)=some (text.drop 1):=zNN (a:=1) hpos
 rw [e1,cond_true,s1,zA,s2,zA,if_pos hz]
 have e1:decide (((vR (yL c).Entries text:Nat):Int)=0)=false:=by simp;omega
 have hle:vR (yL c).Entries text≤text.length:=zNU _ _
 rw [e1,cond_false,zFV hle,zA,yGP (by simp;omega),zA,if_neg hz]
 obtain ⟨m,q,r1,r2,r3⟩:=rM1 hs hcv hl (text:=text) (text.drop (vR (yL c).Entries text)) (text.take (vR (yL c).Entries text)) [] 0 (vR (yL c).Entries text) rfl hle (by simp;omega) ht
 have hinv:=zNV (fd:=fun q=>(zC5 (yL c).Entries q).2) (cl:=clE l) (text.drop (vR (yL c).Entries text)) (text.take (vR (yL c).Entries text)) [] 0
 have hq:q.length+(text.drop m).length≤4294967296:=by
  have:=congrArg List.length r3
  rw [List.length_append] at this
  have h2:=hinv.2.1
  simp only [List.length_take,List.length_drop,List.length_nil] at h2
  omega
 rw [r1,zA]
 simp only [zNN r2,zA,xQ hq,r3]
 rfl
end
end Go.M
namespace Go.M
open Go.AV
theorem z34 {l:List Mapping} (hl:l.length≤2000) {b:Bool} {lists:List (List Int)} (hn:lists.length=l.length) (hb:∀e,(zFX l b lists e).length≤64) {text:List Int} (ht:text.length≤2000):vA l lists text b=some (text.flatMap (zFX l b lists)):=by
 have key:∀(d k:Nat) (out:List Int),text.length - k=d→k≤text.length→out.length≤64*k→zE (fun (x:Int×(List Int))=>k6 text l b lists x.1 x.2) ((k:Int),out)=some (out++(text.drop k).flatMap (zFX l b lists)):=by
  intro d
  induction d with
  | zero=>
   intro k out h1 h2 h3
   rw [List.drop_of_length_le (show text.length≤k by omega)]
   refine zJ ?_
   simp only [k6,kJ (show text.length≤k by omega),cond_false,List.flatMap_nil,List.append_nil]
  | succ d ih=>
   intro k out h1 h2 h3
   have hk:k < text.length:=by omega
   have hbd:=hb text[k]
   have hb0:k6 text l b lists (k:Int) out=some (.next (((k+1:Nat):Int),out++zFX l b lists text[k])):=by
    have ha:app out (zFX l b lists text[k])=some (out++zFX l b lists text[k]):=xQ (by omega)
    simp only [k6,yQ hk,cond_true,zU hk,zA,zWQ hl,zM (k:=k) (by omega),yFH]
    unfold zFX at ha ⊢
    unfold fiI
    cases hf:fi l text[k] b with
    | none=>
     rw [hf] at ha
     simp only [] at ha
     simp only [show decide ((0:Int)≤ -1)=false by decide,cond_false,ha,zA]
    | some m=>
     rw [hf] at ha
     simp only [] at ha
     obtain ⟨h4,_,_⟩:=zH1 hf
     have e:decide (0≤((m:Nat):Int))=true:=by simp
     simp only [e,cond_true,z0 (show m < lists.length by omega),zA,ha]
   rw [zP (body:=fun (x:Int×(List Int))=>k6 text l b lists x.1 x.2) (x:=((k:Int),out)) hb0,ih (k+1) _ (by omega) (by omega) (by rw [List.length_append];omega),List.drop_eq_getElem_cons hk,List.flatMap_cons,List.append_assoc]
 unfold vA
 have h:=key text.length 0 [] (by omega) (by omega) (by simp)
 rw [List.drop_zero,List.nil_append] at h
 have h':zE (fun (x:Int×(List Int))=>k6 text l b lists x.1 x.2) (0,[])=some (text.flatMap (zFX l b lists)):=h
 rw [h']
 rfl
theorem yHK {n:Norm} (h:GN n) (b:Bool):zFQ n.Decomp b=some (zZX n.Decomp b):=by
 have hl:n.Decomp.length≤2000:=by have:=h.de;omega
 have hbd:∀{out:List (List Int)},zTC n.Decomp b out→∀e,(zFX n.Decomp b out e).length≤64:=fun hv e=>Nat.le_trans (z3W h.ds h.dd hv e) (h.len b e)
 unfold zFQ
 rw [z1Q (by omega),zA]
 have h1:∀(out:List (List Int)),out.length=n.Decomp.length→zTC n.Decomp b out→zE (fun (x:Int×(List (List Int)))=>uS n.Decomp b x.1 x.2) (0,out)=some (zNW (zR3 n.Decomp b) n.Decomp.length 0 out):=fun out ho hv=>
  zNX (upd:=zR3 n.Decomp b) (n:=n.Decomp.length) (Inv:=zTC n.Decomp b) (body:=fun (x:Int×(List (List Int)))=>uS n.Decomp b x.1 x.2) (fun i out=>((i:Int),out)) id (fun i out hi ho hv=>by
   have hr:=z34 hl (b:=b) ho (hbd hv) (text:=(nth n.Decomp i).To) (h.ds.len _ (x9 hi))
   simp only [uS,yQ hi,cond_true,zN,z0 hi,z0 (show i < out.length by omega),zA,hr,zG9 (show i < out.length by omega),zM (k:=i) (by omega)]
   unfold zR3
   cases b with
   | true=>simp [uM]
   | false=>
    simp only [Bool.not_false,xH,zA,Bool.false_or]
    cases ht:((nth n.Decomp i).Tag== []) with
    | true=>simp
    | false=>simp [yDV (show i < out.length by omega)]) (zO0 h.ds h.dd) (fun out=>by simp only [uS,kJ (Nat.le_refl _),cond_false];rfl) n.Decomp.length 0 out (by omega) ho hv
 have h2:=zNY (upd:=zR3 n.Decomp b) (n:=n.Decomp.length) (Inv:=zTC n.Decomp b) (body:=fun (x:Int×(List (List Int)))=>uT n.Decomp b x.1 x.2) (fun i out=>((i:Int),out)) id (N:=n.Decomp.length) (fun r out hr ho hv=>by
  simp only [uT,yQ hr,cond_true,h1 out ho hv,zA,zM (k:=r) (by omega)]) (zO0 h.ds h.dd) (fun out=>by simp only [uT,kJ (Nat.le_refl _),cond_false];rfl) n.Decomp.length 0 (List.replicate n.Decomp.length []) (by omega) (by simp) yFF
 have h3:zE (fun (x:Int×(List (List Int)))=>uT n.Decomp b x.1 x.2) (0,List.replicate n.Decomp.length [])=some (zZX n.Decomp b):=h2
 rw [h3]
 rfl
theorem yD9 {n:Norm} (h:GN n) (b:Bool) {text:List Int} (ht:text.length≤2000):zGY n text b=some (text.flatMap (fu n.Decomp b)):=by
 have hl:n.Decomp.length≤2000:=by have:=h.de;omega
 unfold zGY
 have e:∀c,zFX n.Decomp b (zZX n.Decomp b) c=fu n.Decomp b c:=yD3 h.ds h.dd
 rw [yHK h,zA,z34 (lists:=zZX n.Decomp b) hl (zQO (by simp)) (fun c=>by rw [e];exact h.len b c) ht,zA,show zFX n.Decomp b (zZX n.Decomp b)=fu n.Decomp b from funext e]
section
variable {l:List Span} (hcv:CV l) (hl:l.length≤2000)
include hcv hl
theorem sIn {text : List Int} {v : Nat} (hv : v < text.length) : ∀ (r s : List Int), r.length ≤ 2000 → zE (fun (q : Int × (List Int)) => vY (clE l text[v]) l text (v : Int) q.1 q.2) ((r.length : Int), r.reverse ++ text[v] :: s) = some (vD (ltC (clE l)) r text[v] s)
  | [], s, _ => by
    refine zJ ?_
    simp [vY, zN, uM, zA, vD]
  | y :: r, s, hr => by
    simp only [List.length_cons] at hr
    have e0 : decide ((0 : Int) < ((r.length + 1 : Nat) : Int)) = true := by simp only [decide_eq_true_eq]; omega
    have e1 : (y :: r).reverse ++ text[v] :: s = r.reverse ++ y :: text[v] :: s := by simp
    have i1 : yA (r.reverse ++ y :: text[v] :: s) (r.length : Int) = some y := xW (by simp)
    have i2 : yA (r.reverse ++ y :: text[v] :: s) ((r.length + 1 : Nat) : Int) = some text[v] := by
      have := xW (p := r.reverse ++ [y]) (s := s) (x := text[v]) (k := r.length + 1) (by simp)
      simpa using this
    have s1 : uU (r.reverse ++ y :: text[v] :: s) ((r.length + 1 : Nat) : Int) y = some (r.reverse ++ y :: y :: s) := by
      have := vW (p := r.reverse ++ [y]) (s := s) (x := text[v]) (y := y) (k := r.length + 1) (by simp)
      simpa using this
    have i3 : yA (r.reverse ++ y :: y :: s) (r.length : Int) = some y := xW (by simp)
    have s2 : uU (r.reverse ++ y :: y :: s) (r.length : Int) text[v] = some (r.reverse ++ text[v] :: y :: s) := vW (by simp)
    rw [e1]
    show zE _ (((r.length + 1 : Nat) : Int), _) = _
    by_cases h0 : 0 < clE l text[v]
    · by_cases hlt : clE l text[v] < clE l y
      · rw [zP (x' := ((r.length : Int), r.reverse ++ text[v] :: (y :: s))) (by
          simp only [vY, zN, e0, h0, decide_true, Bool.and_self, zCG (k := r.length) (by omega), xH, i1, zA, zHD hl hcv, hlt, cond_true, i2, s1, zU hv, i3, s2])]
        rw [sIn hv r (y :: s) (by omega)]
        have : ltC (clE l) text[v] y = true := by unfold ltC; simp [h0, hlt]
        simp [vD, this]
      · refine zJ ?_
        have : ltC (clE l) text[v] y = false := by unfold ltC; simp [hlt]
        simp only [vY, zN, e0, h0, decide_true, Bool.and_self, zCG (k := r.length) (by omega), xH, i1, zA, zHD hl hcv, hlt, decide_false, Bool.and_false, cond_false, vD, this, Bool.false_eq_true, if_false, e1]
    · refine zJ ?_
      have : ltC (clE l) text[v] y = false := by unfold ltC; simp [h0]
      simp only [vY, zN, e0, h0, decide_false, Bool.and_false, uM, zA, Bool.false_and, cond_false, vD, this, Bool.false_eq_true, if_false, e1]
theorem yEA {text:List Int} (ht:text.length≤900):zEW l text=some (csE (clE l) text):=by
 have key:∀(d k:Nat) (out:List Int),text.length - k=d→k≤text.length→out.length=k→zE (fun (x:Int×(List Int))=>wT text l x.1 x.2) ((k:Int),out)=some (uA (ltC (clE l)) (text.drop k) out):=by
  intro d
  induction d with
  | zero=>
   intro k out h1 h2 h3
   rw [List.drop_of_length_le (show text.length≤k by omega)]
   refine zJ ?_
   simp only [wT,kJ (show text.length≤k by omega),cond_false]
   rfl
  | succ d ih=>
   intro k out h1 h2 h3
   have hk:k < text.length:=by omega
   have hi:=sIn hcv hl hk out.reverse [] (by simp;omega)
   rw [List.reverse_reverse,List.length_reverse] at hi
   have hb:wT text l (k:Int) out=some (.next (((k+1:Nat):Int),vD (ltC (clE l)) out.reverse text[k] [])):=by
    have e1:wi (((out++ [text[k]]).length:Int) - 1)=(out.length:Int):=by
     have hL:((out++ [text[k]]).length:Int)=(out.length:Int)+1:=by simp
     rw [hL,xO (by omega) (by omega)];omega
    simp only [wT,yQ hk,cond_true,zU hk,zA,xQ (show out.length+ [text[k]].length≤4294967296 by simp;omega),zHD hl hcv,e1,hi,zM (k:=k) (by omega)]
   rw [zP (body:=fun (x:Int×(List Int))=>wT text l x.1 x.2) (x:=((k:Int),out)) hb,ih (k+1) _ (by omega) (by omega) (by rw [zRU];simp;omega),List.drop_eq_getElem_cons hk]
   rfl
 unfold zEW
 have h:=key text.length 0 [] (by omega) (by omega) rfl
 rw [List.drop_zero] at h
 have h':zE (fun (x:Int×(List Int))=>wT text l x.1 x.2) (0,[])=some (csE (clE l) text):=h
 rw [h']
 rfl
end
theorem yAR {n:Norm} (hs:NSm n) (hok:zCC n) {text:List Int} {b:Bool} (ht:text.length≤2000) (hf:(zHC n b text).length≤900):zEX n text b=some (zBW n b text):=by
 have h:=zWH hs hok
 unfold zEX
 rw [yAQ hs hok,zA,yD9 h b ht,zA]
 have e:=yEA h.cv (by have:=h.cl;omega) hf
 have e':zEW (usN n).Classes (text.flatMap (fu (usN n).Decomp b))=some (zBW n b text):=e
 rw [e']
 rfl
section
variable {c:Collation} (hs:Sm c) (hg:∀g∈c.Groups,g.Name.length≤MX) {n:Norm} (hl:(jP n).length≤2000)
include hs hg hl
theorem yJB : ∀ (k : Nat) (text : List Int) (b : Bool) (acc : List Element), text.length ≤ k → text.length ≤ 2000 → acc.length + 2000 * text.length ≤ 100000000 →
    zE (fun (x : (List Int) × Bool × (List Element)) => wU (usN n) (yL c) c x.1 x.2.1 x.2.2) (text, b, acc) = some (b && (wk c (jP n) text).2, acc ++ (wk c (jP n) text).1) := by
  intro k
  induction k with
  | zero =>
    intro text b acc h _ _
    have : text = [] := List.eq_nil_of_length_eq_zero (by omega)
    subst this
    refine zJ ?_
    simp [wU, zOY]
  | succ k ih =>
    intro text b acc h ht ha
    by_cases h0 : text = []
    · subst h0
      refine zJ ?_
      simp [wU, zOY]
    · have hpos : 0 < text.length := List.length_pos_iff.2 h0
      have hlt := zZT (c := c) (l := jP n) h0
      have h2 := yAB hs (l := jP n) text
      have e0 : decide ((0 : Int) < (text.length : Int)) = true := by simp; omega
      have hm := z13 hs (zZP n) hl ht h0
      rw [zR2] at hm
      have ea : app acc (stE c (jP n) text).2.2 = some (acc ++ (stE c (jP n) text).2.2) := xQ (by omega)
      have hb : wU (usN n) (yL c) c text b acc = some (.next ((stE c (jP n) text).2.1, (b && decide (vR (yL c).Entries text ≠ 0)), acc ++ (stE c (jP n) text).2.2)) := by
        unfold wU
        rw [e0, cond_true, hm, zA, ← zR2]
        by_cases hz : vR (yL c).Entries text = 0
        · have hst : stE c (jP n) text = (1, text.drop 1, zS8 (yL c) (nth text 0)) := by unfold stE; rw [if_pos hz]
          rw [hst] at ea ⊢
          obtain ⟨y, ys, rfl⟩ := List.exists_cons_of_ne_nil h0
          have i0 : yA ((y :: ys).take 1) (0 : Int) = some (nth (y :: ys) 0) := rfl
          simp only [] at ea
          simp only [hz, if_true, i0, zA, zKZ hs hg, cond_false, ea, zN]
          simp
        · have hst : stE c (jP n) text = (((mtE c (jP n) text).1.length : Int), (mtE c (jP n) text).2, (zC5 (yL c).Entries (mtE c (jP n) text).1).1) := by unfold stE; rw [if_neg hz]; rfl
          have hsl := (yAA (c := c) (l := jP n) h0).1
          rw [hst] at ea hsl ⊢
          have hne : 0 < (mtE c (jP n) text).1.length := by simp only [] at hsl; omega
          have i0 : yA (mtE c (jP n) text).1 (0 : Int) = some (nth (mtE c (jP n) text).1 0) := z0 (k := 0) hne
          simp only [] at ea
          simp only [hz, if_false, i0, zA, zKZ hs hg, cond_true, z33 hs, ea, zN]
          simp [hz]
      rw [zP (body := fun (x : (List Int) × Bool × (List Element)) => wU (usN n) (yL c) c x.1 x.2.1 x.2.2) (x := (text, b, acc)) hb, ih _ _ _ (by omega) (by omega) (by rw [List.length_append]; omega), zWI h0, List.append_assoc, Bool.and_assoc]
end
theorem z14 {n:Norm} {c:Collation} (hn:NSm n) (hok:zCC n) (hs:Sm c) (hg:∀g∈c.Groups,g.Name.length≤MX) {text:List Int} (ht:text.length≤2000) (hf:(zHC n false text).length≤900):zGZ n c text=some (wk c (jP n) (zBW n false text)):=by
 have hl:(jP n).length≤2000:=by have:=zOX hn;omega
 have hd:(zBW n false text).length≤2000:=by rw [zK2];omega
 unfold zGZ
 rw [yAQ hn hok,zA,zRT hs hg,zA,yAR hn hok ht hf,zA,yJB hs hg hl _ _ true [] (Nat.le_refl _) hd (by simp;omega)]
 simp
end Go.M
namespace Go.M
open Go.AV
end Go.M
namespace Go.M
open Go.AV
end Go.M
namespace Go.M
open Go.AV
def ckO (o:Options):Int:=if o.Strength < 1∨4 < o.Strength then 1 else if o.Variable < 1∨3 < o.Variable then 8 else 0
def vX (o:Options):Options:=if ckO o=0 then o else {Strength:=3,Variable:=1,Backward:=false,Identical:=false}
theorem z15 (o:Options):wP o=some (ckO o):=by
 unfold wP ckO
 rw [zN]
 by_cases h1:o.Strength < 1∨4 < o.Strength
 have:(decide (o.Strength < 1) ||decide (4 < o.Strength))=true:=by simpa using h1
 rw [this,if_pos h1];rfl
 have:(decide (o.Strength < 1) ||decide (4 < o.Strength))=false:=by simpa using h1
 rw [this,if_neg h1,cond_false]
 by_cases v1:o.Variable=1
 simp [v1]
 by_cases v2:o.Variable=2
 simp [v2]
 by_cases v3:o.Variable=3
 simp [v3]
 rw [if_pos (by omega)]
 simp [v1,v2,v3]
theorem yAT (o:Options):zFH o=some (ckO o):=by
 unfold zFH ckO
 rw [zN,zN]
 by_cases h1:o.Strength < 1∨4 < o.Strength
 have:(decide (o.Strength < 1) ||decide (4 < o.Strength))=true:=by simpa using h1
 rw [this,if_pos h1];rfl
 have:(decide (o.Strength < 1) ||decide (4 < o.Strength))=false:=by simpa using h1
 rw [this,if_neg h1,cond_false]
 by_cases h2:o.Variable < 1∨3 < o.Variable
 have:(decide (o.Variable < 1) ||decide (3 < o.Variable))=true:=by simpa using h2
 rw [this,if_pos h2];rfl
 have:(decide (o.Variable < 1) ||decide (3 < o.Variable))=false:=by simpa using h2
 rw [this,if_neg h2];rfl
theorem z35 (o:Options):vG o=some (vX o):=by
 unfold vG vX
 rw [z15,zA]
 by_cases h:ckO o=0 <;> simp [h]
theorem zUW (o:Options):zB6 o=some (vX o):=by
 unfold zB6 vX
 rw [yAT,zA]
 by_cases h:ckO o=0 <;> simp [h]
theorem z16 (o:Options):ckO (vX o)=0:=by
 unfold vX
 split
 assumption
 rfl
theorem yJC {o:Options} (h:ckO o=0):vX o=o:=by unfold vX;rw [if_pos h]
theorem yJD {o:Options} (h:ckO o=0):1≤o.Strength∧o.Strength≤4∧1≤o.Variable∧o.Variable≤3:=by
 unfold ckO at h
 split at h
 cases h
 split at h
 cases h
 omega
def nz (x:Int):List Int:=if x=0 then [] else [x]
def col:Nat→A4Int→Int
 | 0,w=>w.x0
 | 1,w=>w.x1
 | 2,w=>w.x2
 | _,w=>w.x3
def row (k:Nat) (L:List A4Int):List Int:=L.flatMap fun w=>nz (col k w)
def zR5 (f:Bool) (e:Element):Bool:=if e.Variable=true∨e.Primary≠0 then e.Variable else f
def zUX (e:Element):Prop:=e.Primary=0∧e.Secondary=0∧e.Tertiary=0
instance (e:Element):Decidable (zUX e):=by unfold zUX;infer_instance
def tr1 (v:Int) (f:Bool) (e:Element):A4Int:=
 if v=1 then {x0:=e.Primary,x1:=e.Secondary,x2:=e.Tertiary,x3:=if zUX e then 0 else 65535}
 else if zR5 f e=true then {x0:=0,x1:=0,x2:=0,x3:=if v=3∧e.Variable=true then e.Primary else 0}
 else {x0:=e.Primary,x1:=e.Secondary,x2:=e.Tertiary,x3:=if v=3∧¬zUX e then 65535 else 0}
def trL (v:Int):Bool→List Element→List A4Int
 | _,[]=>[]
 | f,e::l=>tr1 v f e::trL v (zR5 f e) l
theorem zQP (v:Int):∀(l:List Element) (f:Bool),(trL v f l).length=l.length
 | [],_=>rfl
 | e::l,f=>by simp [trL,zQP v l]
theorem yAU {v:Int} (hv:1≤v∧v≤3) (e:Element) (f:Bool):vT e v f=some (tr1 v f e,if v=1 then f else zR5 f e):=by
 obtain ⟨p,s,t,va⟩:=e
 unfold vT tr1 zR5 zUX
 rcases (by omega:v=1∨v=2∨v=3) with rfl | rfl | rfl <;> cases va <;> cases f <;> by_cases hp:p=0 <;> by_cases hs:s=0 <;> by_cases ht:t=0 <;> simp [hp,hs,ht]
theorem yJE (f g:Bool) (e:Element):tr1 1 f e=tr1 1 g e:=rfl
theorem yFJ:∀(l:List Element) (f g:Bool),trL 1 f l=trL 1 g l
 | [],_,_=>rfl
 | e::l,f,g=>by
  show tr1 1 f e::trL 1 _ l=tr1 1 g e::trL 1 _ l
  rw [yJE f g,yFJ l (zR5 f e) (zR5 g e)]
theorem z17 (x:Int):(nz x).length≤1:=by unfold nz;split <;> simp
theorem zR6 {r:List Int} {x:Int} (h:r.length+1≤4294967296):(cond (!decide (x=0)) ((app r [x]).bind fun q=>some q) (some r))=some (r++nz x):=by
 unfold nz
 by_cases hx:x=0
 simp [hx]
 simp only [hx,decide_false,Bool.not_false,cond_true,if_false]
 rw [xQ (by simpa using h)];rfl
theorem wl1 (t : A4Int × Bool) {r0 r1 r2 r3 : List Int} {n : Nat} (hn : n + 1 ≤ 4294967296) (h0 : r0.length ≤ n) (h1 : r1.length ≤ n) (h2 : r2.length ≤ n) (h3 : r3.length ≤ n) :
    zE (fun (x : Int × (List Int) × (List Int) × (List Int) × (List Int)) => jE t x.1 x.2.1 x.2.2.1 x.2.2.2.1 x.2.2.2.2) (0, r0, r1, r2, r3) = some (r0 ++ nz t.1.x0, r1 ++ nz t.1.x1, r2 ++ nz t.1.x2, r3 ++ nz t.1.x3) := by
  have i0 : yA [t.1.x0, t.1.x1, t.1.x2, t.1.x3] (0 : Int) = some t.1.x0 := rfl
  have i1 : yA [t.1.x0, t.1.x1, t.1.x2, t.1.x3] (1 : Int) = some t.1.x1 := rfl
  have i2 : yA [t.1.x0, t.1.x1, t.1.x2, t.1.x3] (2 : Int) = some t.1.x2 := rfl
  have i3 : yA [t.1.x0, t.1.x1, t.1.x2, t.1.x3] (3 : Int) = some t.1.x3 := rfl
  rw [zP (x' := (1, r0 ++ nz t.1.x0, r1, r2, r3)) (by
    simp only [jE, i0, zA, zR6 (x := t.1.x0) (show r0.length + 1 ≤ 4294967296 by omega)]; rfl)]
  rw [zP (x' := (2, r0 ++ nz t.1.x0, r1 ++ nz t.1.x1, r2, r3)) (by
    simp only [jE, i1, zA, zR6 (x := t.1.x1) (show r1.length + 1 ≤ 4294967296 by omega)]; rfl)]
  rw [zP (x' := (3, r0 ++ nz t.1.x0, r1 ++ nz t.1.x1, r2 ++ nz t.1.x2, r3)) (by
    simp only [jE, i2, zA, zR6 (x := t.1.x2) (show r2.length + 1 ≤ 4294967296 by omega)]; rfl)]
  rw [zP (x' := (4, r0 ++ nz t.1.x0, r1 ++ nz t.1.x1, r2 ++ nz t.1.x2, r3 ++ nz t.1.x3)) (by
    simp only [jE, i3, zA, zR6 (x := t.1.x3) (show r3.length + 1 ≤ 4294967296 by omega)]; rfl)]
  exact zJ (by simp only [jE]; rfl)
theorem wl0 {l : List Element} {o : Options} (hv : 1 ≤ o.Variable ∧ o.Variable ≤ 3) (hl : l.length ≤ 4000000000) : ∀ (m k : Nat) (f : Bool) (r0 r1 r2 r3 : List Int), k + m = l.length → r0.length ≤ k → r1.length ≤ k → r2.length ≤ k → r3.length ≤ k →
    zE (fun (x : Int × Bool × (List Int) × (List Int) × (List Int) × (List Int)) => wM l o x.1 x.2.1 x.2.2.1 x.2.2.2.1 x.2.2.2.2.1 x.2.2.2.2.2) ((k : Int), f, r0, r1, r2, r3) =
      some (r0 ++ row 0 (trL o.Variable f (l.drop k)), r1 ++ row 1 (trL o.Variable f (l.drop k)), r2 ++ row 2 (trL o.Variable f (l.drop k)), r3 ++ row 3 (trL o.Variable f (l.drop k)))
  | 0, k, f, r0, r1, r2, r3, h, _, _, _, _ => by
    rw [List.drop_of_length_le (by omega)]
    refine zJ ?_
    simp only [wM, kJ (show l.length ≤ k by omega), cond_false, trL, row, List.flatMap_nil, List.append_nil]
  | m + 1, k, f, r0, r1, r2, r3, h, h0, h1, h2, h3 => by
    have hk : k < l.length := by omega
    have q : ∀ {r : List Int} (x : Int), r.length ≤ k → (r ++ nz x).length ≤ k + 1 := fun x hr => by rw [List.length_append]; have := z17 x; omega
    rw [zP (x' := (((k + 1 : Nat) : Int), (if o.Variable = 1 then f else zR5 f l[k]), r0 ++ nz (tr1 o.Variable f l[k]).x0, r1 ++ nz (tr1 o.Variable f l[k]).x1, r2 ++ nz (tr1 o.Variable f l[k]).x2, r3 ++ nz (tr1 o.Variable f l[k]).x3)) (by
      simp only [wM, yQ hk, cond_true, zU hk, zA, yAU hv, wl1 _ (n := k) (by omega) h0 h1 h2 h3, zM (k := k) (by omega)])]
    rw [wl0 hv hl m (k + 1) _ _ _ _ _ (by omega) (q _ h0) (q _ h1) (q _ h2) (q _ h3), List.drop_eq_getElem_cons hk]
    have e : trL o.Variable (if o.Variable = 1 then f else zR5 f l[k]) (l.drop (k + 1)) = trL o.Variable (zR5 f l[k]) (l.drop (k + 1)) := by
      by_cases h1 : o.Variable = 1
      · rw [h1]; exact yFJ _ _ _
      · rw [if_neg h1]
    rw [e]
    simp [trL, row, col]
theorem yAV : ∀ (n : Nat) (a m b : List Int), m.length = n → a.length = b.length → a.length + m.length + b.length ≤ 9000000000000000000 →
    zE (fun (x : Int × Int × (List Int)) => jD x.1 x.2.1 x.2.2) ((a.length : Int), ((a.length + m.length : Nat) : Int) - 1, a ++ m ++ b) = some (a ++ m.reverse ++ b) := by
  intro n
  induction n using Nat.strongRecOn with
  | ind n ih =>
    intro a m b hn hab hb
    by_cases h2 : m.length ≤ 1
    · have e : decide ((a.length : Int) < ((a.length + m.length : Nat) : Int) - 1) = false := by simp; omega
      refine zJ ?_
      have hr : m.reverse = m := by
        match m, h2 with
        | [], _ => rfl
        | [x], _ => rfl
      simp only [jD, e, cond_false, hr]
    · obtain ⟨x, m1, rfl⟩ := List.exists_cons_of_ne_nil (l := m) (fun e => by rw [e] at h2; simp at h2)
      have hm1 : m1 ≠ [] := fun e => by rw [e] at h2; simp at h2
      obtain ⟨m2, y, rfl⟩ : ∃ m2 y, m1 = m2 ++ [y] := ⟨m1.dropLast, m1.getLast hm1, (List.dropLast_concat_getLast hm1).symm⟩
      simp only [List.length_cons, List.length_append, List.length_nil] at hn hb h2
      have e : decide ((a.length : Int) < ((a.length + (x :: (m2 ++ [y])).length : Nat) : Int) - 1) = true := by simp; omega
      have ej : ((a.length + (x :: (m2 ++ [y])).length : Nat) : Int) - 1 = ((a.length + 1 + m2.length : Nat) : Int) := by simp; omega
      have g1 : yA (a ++ (x :: (m2 ++ [y])) ++ b) (((a.length + 1 + m2.length : Nat) : Int)) = some y := by
        rw [zU (by simp; omega)]; congr 1
        rw [List.getElem_append_left (by simp; omega), List.getElem_append_right (by omega)]
        simp only [show a.length + 1 + m2.length - a.length = m2.length + 1 by omega, List.getElem_cons_succ]
        rw [List.getElem_append_right (by omega)]; simp
      have g2 : yA (a ++ (x :: (m2 ++ [y])) ++ b) ((a.length : Nat) : Int) = some x := by
        rw [zU (by simp)]; congr 1
        rw [List.getElem_append_left (by simp), List.getElem_append_right (by omega)]; simp
      have s1 : uU (a ++ (x :: (m2 ++ [y])) ++ b) ((a.length : Nat) : Int) y = some (a ++ (y :: (m2 ++ [y])) ++ b) := by
        rw [zG9 (by simp)]; congr 1; simp
      have g3 : yA (a ++ (y :: (m2 ++ [y])) ++ b) (((a.length + 1 + m2.length : Nat) : Int)) = some y := by
        rw [zU (by simp; omega)]; congr 1
        rw [List.getElem_append_left (by simp; omega), List.getElem_append_right (by omega)]
        simp only [show a.length + 1 + m2.length - a.length = m2.length + 1 by omega, List.getElem_cons_succ]
        rw [List.getElem_append_right (by omega)]; simp
      have s2 : uU (a ++ (y :: (m2 ++ [y])) ++ b) (((a.length + 1 + m2.length : Nat) : Int)) x = some ((a ++ [y]) ++ m2 ++ (x :: b)) := by
        rw [zG9 (by simp; omega)]; congr 1
        have e1 : a ++ (y :: (m2 ++ [y])) ++ b = (a ++ y :: m2) ++ y :: b := by simp
        rw [e1, show a.length + 1 + m2.length = (a ++ y :: m2).length by simp; omega, List.set_append_right _ _ (Nat.le_refl _)]
        simp
      rw [zP (x' := (((a ++ [y]).length : Int), (((a ++ [y]).length + m2.length : Nat) : Int) - 1, (a ++ [y]) ++ m2 ++ (x :: b))) (by
        simp only [jD, e, cond_true]
        rw [ej]
        simp only [g1, g2, s1, g3, s2, zA]
        rw [zM (k := a.length) (by omega), xO (by omega) (by omega)]
        simp only [List.length_append, List.length_cons, List.length_nil])]
      rw [ih m2.length (by omega) (a ++ [y]) m2 (x :: b) rfl (by simp; omega) (by simp; omega)]
      simp
theorem yHM {l:List Int} (h:l.length≤4294967296):jX l=some l.reverse:=by
 unfold jX
 have:=yAV l.length [] l [] rfl rfl (by simp;omega)
 simp only [List.nil_append,List.append_nil,List.length_nil,Nat.zero_add] at this
 rw [xO (by omega) (by omega)]
 rw [show ((0:Nat):Int)=0 from rfl] at this
 rw [this];rfl
def yAW (b:Bool) (l:List Int):List Int:=if b=true then l.reverse else l
def rows (b:Bool) (L:List A4Int):List (List Int):=[row 0 L,yAW b (row 1 L),row 2 L,row 3 L]
def wts (l:List Element) (o:Options):List (List Int):=(rows o.Backward (trL o.Variable false l)).take o.Strength.toNat
theorem zWR (k:Nat):∀(L:List A4Int),(row k L).length≤L.length
 | []=>by simp [row]
 | w::L=>by
  have:=zWR k L
  have h2:=z17 (col k w)
  simp only [row,List.flatMap_cons,List.length_append,List.length_cons] at this ⊢
  omega
theorem zR7 {l:List Element} (hl:l.length≤4000000000) (o:Options):u6 l o=some (wts l (vX o)):=by
 have hb:=yJD (z16 o)
 unfold u6 wts
 have e0:({Strength:=o.Strength,Variable:=o.Variable,Backward:=o.Backward,Identical:=o.Identical}:Options)=o:=rfl
 rw [e0,z35,zA]
 generalize vX o=q at*
 have hw:=wl0 (l:=l) (o:=q) hb.2.2 hl l.length 0 false [] [] [] [] (by omega) (by simp) (by simp) (by simp) (by simp)
 simp only [List.drop_zero,List.nil_append] at hw
 rw [show ((0:Nat):Int)=0 from rfl] at hw
 unfold zCD
 rw [zA,hw,zA]
 have hr:(cond q.Backward ((jX (row 1 (trL q.Variable false l))).bind fun t45=>some t45) (some (row 1 (trL q.Variable false l))))=some (yAW q.Backward (row 1 (trL q.Variable false l))):=by
  cases q.Backward with
  | false=>rfl
  | true=>
   have:=zWR 1 (trL q.Variable false l)
   rw [zQP] at this
   rw [cond_true,yHM (by omega)];rfl
 simp only [hr,zA]
 have hs:q.Strength=((q.Strength.toNat:Nat):Int):=by omega
 have hsl:slc [row 0 (trL q.Variable false l),yAW q.Backward (row 1 (trL q.Variable false l)),row 2 (trL q.Variable false l),row 3 (trL q.Variable false l)] 0 q.Strength=some ((rows q.Backward (trL q.Variable false l)).take q.Strength.toNat):=by
  rw [hs,zFV (by simp;omega)];rfl
 rw [hsl,zA,xQ (by simp [rows];omega)]
 rfl
end Go.M
namespace Go.M
open Go.AV
theorem yAX {l : List Element} {v : Int} (hv : 1 ≤ v ∧ v ≤ 3) (hl : l.length ≤ 4000000000) : ∀ (m k : Nat) (f : Bool) (acc : List A4Int), k + m = l.length → acc.length ≤ k →
    zE (fun (x : Bool × Int × (List A4Int)) => uJ l v x.1 x.2.1 x.2.2) (f, (k : Int), acc) = some (acc ++ trL v f (l.drop k))
  | 0, k, f, acc, h, _ => by
    rw [List.drop_of_length_le (by omega)]
    refine zJ ?_
    simp only [uJ, kJ (show l.length ≤ k by omega), cond_false, trL, List.append_nil]
  | m + 1, k, f, acc, h, ha => by
    have hk : k < l.length := by omega
    rw [zP (x' := (zR5 f l[k], ((k + 1 : Nat) : Int), acc ++ [tr1 v f l[k]])) (by
      simp only [uJ, yQ hk, cond_true, zU hk, zA, zN, zM (k := k) (by omega)]
      generalize l[k] = e
      have ea : ∀ w : A4Int, app acc [w] = some (acc ++ [w]) := fun w => xQ (by simp; omega)
      obtain ⟨p, s, t, va⟩ := e
      unfold tr1 zR5 zUX
      rcases (by omega : v = 1 ∨ v = 2 ∨ v = 3) with rfl | rfl | rfl <;> cases va <;> cases f <;> by_cases hp : p = 0 <;> by_cases hs : s = 0 <;> by_cases ht : t = 0 <;> simp [hp, hs, ht, ea])]
    rw [yAX hv hl m (k + 1) _ _ (by omega) (by simp; omega), List.drop_eq_getElem_cons hk]
    simp [trL]
theorem z18 {l:List Element} {v:Int} (hv:1≤v∧v≤3) (hl:l.length≤4000000000):zDM l v=some (trL v false l):=by
 unfold zDM
 have:=yAX hv hl l.length 0 false [] (by omega) (by simp)
 rw [show ((0:Nat):Int)=0 from rfl] at this
 rw [this];simp
theorem yK2 (w:A4Int) {k:Nat} (hk:k < 4):yA [w.x0,w.x1,w.x2,w.x3] (k:Int)=some (col k w):=by
 match k,hk with
 | 0,_=>rfl
 | 1,_=>rfl
 | 2,_=>rfl
 | 3,_=>rfl
def zJJ (b:Bool) (k:Nat) (L:List A4Int):List A4Int:=if k=1∧b=true then L.reverse else L
theorem zZZ (b:Bool) (k:Nat) (L:List A4Int):(zJJ b k L).length=L.length:=by unfold zJJ;split;exact List.length_reverse;rfl
theorem rw1 {L : List A4Int} {o : Options} {q : Nat} (hq : q < 4) (hl : L.length ≤ 4000000000) : ∀ (m k : Nat) (acc : List Int), k + m = L.length → acc.length ≤ k →
    zE (fun (x : Int × (List Int)) => uK L (q : Int) o x.1 x.2) ((k : Int), acc) = some (acc ++ row q ((zJJ o.Backward q L).drop k))
  | 0, k, acc, h, _ => by
    rw [List.drop_of_length_le (by rw [zZZ]; omega)]
    refine zJ ?_
    simp only [uK, kJ (show L.length ≤ k by omega), cond_false, row, List.flatMap_nil, List.append_nil]
  | m + 1, k, acc, h, ha => by
    have hk : k < L.length := by omega
    have hk2 : k < (zJJ o.Backward q L).length := by rw [zZZ]; exact hk
    have hi : ∃ j : Nat, j < L.length ∧ cond (decide ((q : Int) = 1) && o.Backward) (some (wi ((wi ((L.length : Int) - 1)) - (k : Int)))) (some (k : Int)) = some (j : Int) ∧ L[j]? = some (zJJ o.Backward q L)[k] := by
      unfold zJJ
      by_cases h1 : q = 1 ∧ o.Backward = true
      · have e : (decide ((q : Int) = 1) && o.Backward) = true := by simp [h1.1, h1.2]
        refine ⟨L.length - 1 - k, by omega, ?_, ?_⟩
        · rw [e, cond_true, xO (n := (L.length : Int) - 1) (by omega) (by omega), xO (by omega) (by omega)]
          congr 1; omega
        · simp only [h1, and_self, if_true]
          rw [List.getElem_reverse, List.getElem?_eq_getElem (by omega)]
      · have e : (decide ((q : Int) = 1) && o.Backward) = false := by
          cases hb : o.Backward with
          | false => simp
          | true =>
            have : q ≠ 1 := fun e => h1 ⟨e, hb⟩
            simp; omega
        refine ⟨k, hk, by rw [e, cond_false], ?_⟩
        simp only [h1, if_false]
        rw [List.getElem?_eq_getElem hk]
    obtain ⟨j, hj, e1, e2⟩ := hi
    rw [List.getElem?_eq_getElem hj] at e2
    have e3 : yA L (j : Int) = some (zJJ o.Backward q L)[k] := by rw [zU hj]; exact e2
    rw [zP (x' := (((k + 1 : Nat) : Int), acc ++ nz (col q (zJJ o.Backward q L)[k]))) (by
      simp only [uK, yQ hk, cond_true, zN, e1, zA, e3, yK2 _ hq, zR6 (x := col q (zJJ o.Backward q L)[k]) (show acc.length + 1 ≤ 4294967296 by omega), zM (k := k) (by omega)])]
    rw [rw1 hq hl m (k + 1) _ (by omega) (by rw [List.length_append]; have := z17 (col q (zJJ o.Backward q L)[k]); omega), List.drop_eq_getElem_cons hk2]
    simp only [row, List.flatMap_cons, List.append_assoc]
theorem yHN (x:Int):(nz x).reverse=nz x:=by unfold nz;split <;> rfl
theorem z36 (k:Nat):∀(L:List A4Int),row k L.reverse=(row k L).reverse
 | []=>rfl
 | w::L=>by
  have:=z36 k L
  simp only [row] at this ⊢
  simp [this,yHN]
theorem yAY (b:Bool) (L:List A4Int) {q:Nat} (hq:q < 4):(rows b L)[q]? =some (row q (zJJ b q L)):=by
 match q,hq with
 | 0,_=>simp [rows,zJJ]
 | 1,_=>cases b <;> simp [rows,zJJ,yAW,z36]
 | 2,_=>simp [rows,zJJ]
 | 3,_=>simp [rows,zJJ]
theorem rw0 {L : List A4Int} {o : Options} (hs : 1 ≤ o.Strength ∧ o.Strength ≤ 4) (hl : L.length ≤ 4000000000) : ∀ (m k : Nat) (acc : List (List Int)), k + m = o.Strength.toNat → acc.length = k →
    zE (fun (x : Int × (List (List Int))) => uL o L x.1 x.2) ((k : Int), acc) = some (acc ++ ((rows o.Backward L).take o.Strength.toNat).drop k)
  | 0, k, acc, h, _ => by
    rw [List.drop_of_length_le (by simp [rows]; omega)]
    have e : decide ((k : Int) < o.Strength) = false := by simp; omega
    refine zJ ?_
    simp only [uL, e, cond_false, List.append_nil]
  | m + 1, k, acc, h, ha => by
    have e : decide ((k : Int) < o.Strength) = true := by simp; omega
    have hk4 : k < 4 := by omega
    have hr := rw1 (o := o) hk4 hl L.length 0 [] (by omega) (by simp)
    rw [show ((0 : Nat) : Int) = 0 from rfl, List.drop_zero, List.nil_append] at hr
    rw [zP (x' := (((k + 1 : Nat) : Int), acc ++ [row k (zJJ o.Backward k L)])) (by
      simp only [uL, e, cond_true, hr, zA, xQ (show acc.length + [row k (zJJ o.Backward k L)].length ≤ 4294967296 by simp; omega), zM (k := k) (by omega)])]
    rw [rw0 hs hl m (k + 1) _ (by omega) (by simp; omega)]
    have hlt : k < ((rows o.Backward L).take o.Strength.toNat).length := by simp [rows]; omega
    rw [List.drop_eq_getElem_cons hlt, List.append_assoc]
    have hg := yAY o.Backward L hk4
    have : ((rows o.Backward L).take o.Strength.toNat)[k] = row k (zJJ o.Backward k L) := by
      have h2 : ((rows o.Backward L).take o.Strength.toNat)[k]? = some (row k (zJJ o.Backward k L)) := by rw [List.getElem?_take, if_pos (by omega)]; exact hg
      rw [List.getElem?_eq_getElem hlt] at h2
      exact Option.some.inj h2
    rw [this]; rfl
theorem zTE {l:List Element} (hl:l.length≤4000000000) (o:Options):zDN l o=some (wts l (vX o)):=by
 have hb:=yJD (z16 o)
 unfold zDN wts
 have e0:({Strength:=o.Strength,Variable:=o.Variable,Backward:=o.Backward,Identical:=o.Identical}:Options)=o:=rfl
 rw [e0,zUW,zA]
 generalize vX o=q at*
 rw [z18 hb.2.2 hl,zA]
 have:=rw0 (o:=q) ⟨hb.1,hb.2.1⟩ (L:=trL q.Variable false l) (by rw [zQP];exact hl) q.Strength.toNat 0 [] (by omega) rfl
 rw [show ((0:Nat):Int)=0 from rfl] at this
 rw [this];simp
theorem z19 {l:List Element} {o:Options} {x:List Int} (h:x∈wts l o):x.length≤l.length:=by
 unfold wts at h
 have h:=List.mem_of_mem_take h
 have key:∀k,(row k (trL o.Variable false l)).length≤l.length:=fun k=>by have:=zWR k (trL o.Variable false l);rwa [zQP] at this
 simp only [rows,List.mem_cons,List.not_mem_nil,or_false] at h
 rcases h with rfl | rfl | rfl | rfl
 exact key 0
 unfold yAW;split
 rw [List.length_reverse];exact key 1
 exact key 1
 exact key 2
 exact key 3
end Go.M
namespace Go.M
open Go.AV
def jn:Nat→List Int→List (List Int)→List Int
 | _,acc,[]=>acc
 | k,acc,x::xs=>jn (k+1) ((if 0 < k then acc++ [0] else acc)++x) xs
theorem zWS {N:Nat}:∀(l:List (List Int)) (k:Nat) (acc:List Int),(∀x∈l,x.length≤N)→(jn k acc l).length≤acc.length+l.length*(N+1)
 | [],_,acc,_=>by simp [jn]
 | x::xs,k,acc,h=>by
  have h1:=h x (by simp)
  have h2:=zWS xs (k+1) ((if 0 < k then acc++ [0] else acc)++x) (fun y hy=>h y (by simp [hy]))
  have h3:((if 0 < k then acc++ [0] else acc)++x).length≤acc.length+1+N:=by
   split <;> simp <;> omega
  simp only [jn,List.length_cons,Nat.add_mul]
  omega
theorem yJF {acc:List Int} {k:Nat} (h:acc.length+1≤4294967296):(cond (decide ((0:Int) < (k:Int))) ((app acc [0]).bind fun q=>some q) (some acc))=some (if 0 < k then acc++ [0] else acc):=by
 by_cases hk:0 < k
 have e:decide ((0:Int) < (k:Int))=true:=by simp;omega
 rw [e,cond_true,xQ (by simpa using h),if_pos hk];rfl
 have e:decide ((0:Int) < (k:Int))=false:=by simp;omega
 rw [e,cond_false,if_neg hk]
section
variable {l:List (List Int)} {N:Nat} (hN:∀x∈l,x.length≤N) (hl:l.length≤1000000)
include hN hl
theorem yJG:∀(m k:Nat) (acc:List Int),k+m=l.length→acc.length+m*(N+1)≤4294967296→zE (fun (x:Int×(List Int))=>zA8 l x.1 x.2) ((k:Int),acc)=some (jn k acc (l.drop k))
 | 0,k,acc,h,_=>by
  rw [List.drop_of_length_le (by omega)]
  refine zJ ?_
  simp only [zA8,kJ (show l.length≤k by omega),cond_false,jn]
 | m+1,k,acc,h,ha=>by
  have hk:k < l.length:=by omega
  have hx:=hN _ (List.getElem_mem hk)
  rw [Nat.add_mul] at ha
  have h3:(if 0 < k then acc++ [0] else acc).length≤acc.length+1:=by split <;> simp
  rw [zP (x':=(((k+1:Nat):Int),(if 0 < k then acc++ [0] else acc)++l[k])) (by
   simp only [zA8,yQ hk,cond_true,zU hk,zA,yJF (k:=k) (show acc.length+1≤4294967296 by omega),xQ (show (if 0 < k then acc++ [0] else acc).length+l[k].length≤4294967296 by omega),zM (k:=k) (by omega)])]
  rw [yJG m (k+1) _ (by omega) (by rw [List.length_append];omega),List.drop_eq_getElem_cons hk]
  rfl
theorem yFK:∀(m k:Nat) (acc:List Int),k+m=l.length→acc.length+m*(N+1)≤4294967296→zE (fun (x:Int×(List Int))=>zCB l x.1 x.2) ((k:Int),acc)=some (jn k acc (l.drop k))
 | 0,k,acc,h,_=>by
  rw [List.drop_of_length_le (by omega)]
  refine zJ ?_
  simp only [zCB,kJ (show l.length≤k by omega),cond_false,jn]
 | m+1,k,acc,h,ha=>by
  have hk:k < l.length:=by omega
  have hx:=hN _ (List.getElem_mem hk)
  rw [Nat.add_mul] at ha
  have h3:(if 0 < k then acc++ [0] else acc).length≤acc.length+1:=by split <;> simp
  rw [zP (x':=(((k+1:Nat):Int),(if 0 < k then acc++ [0] else acc)++l[k])) (by
   simp only [zCB,yQ hk,cond_true,zU hk,zA,yJF (k:=k) (show acc.length+1≤4294967296 by omega),xQ (show (if 0 < k then acc++ [0] else acc).length+l[k].length≤4294967296 by omega),zM (k:=k) (by omega)])]
  rw [yFK m (k+1) _ (by omega) (by rw [List.length_append];omega),List.drop_eq_getElem_cons hk]
  rfl
end
def idn (t:List Int):List Int:=t.flatMap fun c=>if 0≤c∧c≤1114111 then [c+1] else []
theorem yAZ (c : Int) {acc : List Int} (h : acc.length + 1 ≤ 4294967296) : (cond (decide (0 ≤ c) && decide (c ≤ 1114111)) ((app acc [wi (c + 1)]).bind fun q => some q) (some acc)) = some (acc ++ if 0 ≤ c ∧ c ≤ 1114111 then [c + 1] else []) := by
  by_cases hc : 0 ≤ c ∧ c ≤ 1114111
  · have e : (decide (0 ≤ c) && decide (c ≤ 1114111)) = true := by simpa using hc
    rw [e, cond_true, xQ (by simpa using h), if_pos hc, xO (by omega) (by omega)]; rfl
  · have e : (decide (0 ≤ c) && decide (c ≤ 1114111)) = false := by
      cases h : (decide (0 ≤ c) && decide (c ≤ 1114111)) with
      | false => rfl
      | true => exact absurd (by simpa using h) hc
    rw [e, cond_false, if_neg hc, List.append_nil]
theorem zWT (c:Int):(if 0≤c∧c≤1114111 then [c+1] else ([]:List Int)).length≤1:=by split <;> simp
theorem yJH {t:List Int} (hl:t.length≤1000000):∀(m k:Nat) (acc:List Int),k+m=t.length→acc.length+m≤4294967296→zE (fun (x:Int×(List Int))=>zA9 t x.1 x.2) ((k:Int),acc)=some (acc++idn (t.drop k))
 | 0,k,acc,h,_=>by
  rw [List.drop_of_length_le (by omega)]
  refine zJ ?_
  simp only [zA9,kJ (show t.length≤k by omega),cond_false,idn,List.flatMap_nil,List.append_nil]
 | m+1,k,acc,h,ha=>by
  have hk:k < t.length:=by omega
  have h1:=zWT t[k]
  rw [zP (x':=(((k+1:Nat):Int),acc++if 0≤t[k]∧t[k]≤1114111 then [t[k]+1] else [])) (by
   simp only [zA9,yQ hk,cond_true,zU hk,zA,zN,yAZ t[k] (show acc.length+1≤4294967296 by omega),zM (k:=k) (by omega)])]
  rw [yJH hl m (k+1) _ (by omega) (by rw [List.length_append];omega),List.drop_eq_getElem_cons hk]
  simp only [idn,List.flatMap_cons,List.append_assoc]
def zR8 (o:Options) (el:List Element) (t:List Int):List Int:=jn 0 [] (wts el o)++if o.Identical=true then [0]++idn t else []
theorem zWU (l:List Element) (o:Options):(wts l o).length≤4:=by unfold wts;simp [rows];omega
theorem z37 (o:Options):vX (vX o)=vX o:=yJC (z16 o)
section
variable {n:Norm} {c:Collation} (hn:NSm n) (hok:zCC n) (hs:Sm c) (hg:∀g∈c.Groups,g.Name.length≤MX) {text:List Int} (ht:text.length≤2000) (hf:(zHC n false text).length≤2000)
include hn hok hs hg ht hf
theorem z2A (o:Options):zAL n c o text=some (zR8 (vX o) (wk c (jP n) (zBW n false text)).1 (zBW n false text)):=by
 unfold zAL zR8
 have hd:(zBW n false text).length≤2000:=by rw [zK2];exact hf
 have hel:=z11 (n:=n) hs (text:=text) hd
 rw [show ({Strength:=o.Strength,Variable:=o.Variable,Backward:=o.Backward,Identical:=o.Identical}:Options)=o from rfl,z35,zA,zZU hn hok hs hg ht hf,zA,show ({Strength:=(vX o).Strength,Variable:=(vX o).Variable,Backward:=(vX o).Backward,Identical:=(vX o).Identical}:Options)=vX o from rfl,zR7 (by omega),z37,zA]
 generalize (wk c (jP n) (zBW n false text)).1=el at*
 have h4:=zWU el (vX o)
 have hN:∀x∈wts el (vX o),x.length≤1000000000:=fun x hx=>Nat.le_trans (z19 hx) hel
 have hk0:=yJG hN (by omega) (wts el (vX o)).length 0 [] (by omega) (by simp;omega)
 rw [show ((0:Nat):Int)=0 from rfl,List.drop_zero] at hk0
 have hjl:=zWS (wts el (vX o)) 0 [] hN
 simp only [List.length_nil] at hjl
 rw [hk0,zA]
 cases hi:(vX o).Identical with
 | false=>simp
 | true=>
  have h5:(jn 0 [] (wts el (vX o))).length≤4000000004:=by omega
  rw [Bool.not_true,cond_false,xQ (by simp;omega),zA,zZS hn hok ht hf,zA]
  have hk1:=yJH (t:=zBW n false text) (by omega) (zBW n false text).length 0 (jn 0 [] (wts el (vX o))++ [0]) (by omega) (by simp;omega)
  rw [show ((0:Nat):Int)=0 from rfl,List.drop_zero] at hk1
  rw [hk1,zA,if_pos rfl,List.append_assoc]
theorem z6G (o:Options) (s:Int):zBN n c o text s=some (zR8 (vX {Strength:=s,Variable:=o.Variable,Backward:=o.Backward,Identical:=false}) (wk c (jP n) (zBW n false text)).1 (zBW n false text)):=by
 unfold zBN
 rw [z2A hn hok hs hg ht hf,zA]
omit hn hok hg ht in
theorem yA0 (o:Options):(zR8 (vX o) (wk c (jP n) (zBW n false text)).1 (zBW n false text)).length≤4611686018427387904:=by
 have hd:(zBW n false text).length≤2000:=by rw [zK2];exact hf
 have hel:=z11 (n:=n) hs (text:=text) hd
 unfold zR8
 generalize (wk c (jP n) (zBW n false text)).1=el at*
 have h4:=zWU el (vX o)
 have hjl:=zWS (wts el (vX o)) 0 [] (N:=1000000000) (fun x hx=>Nat.le_trans (z19 hx) hel)
 have hid:∀t:List Int,(idn t).length≤t.length:=by
  intro t
  induction t with
  | nil=>simp [idn]
  | cons x t ih=>
   have:=zWT x
   simp only [idn,List.flatMap_cons,List.length_append,List.length_cons] at ih ⊢
   omega
 have:=hid (zBW n false text)
 simp only [List.length_nil] at hjl
 rw [List.length_append]
 split <;> simp <;> omega
end
def nZ:Norm:={Classes:=[],Decomp:=[],Excluded:={Ranges:=[]}}
def cZ:Collation:={Entries:=[{Codes:=[97],Elements:=[{Primary:=16,Secondary:=32,Tertiary:=2,Variable:=false}]},{Codes:=[98],Elements:=[{Primary:=17,Secondary:=32,Tertiary:=2,Variable:=false}]}],Groups:=[],Base:=100,Second:=32,Third:=2}
theorem yK3:NSm nZ:=⟨by decide,by decide,fun m hm=>(by cases hm),fun m hm=>(by cases hm),by decide⟩
theorem yJI:zCC nZ:=by unfold zCC okSpan z8C nZ;simp
theorem yK4:Sm cZ:=⟨by decide,by decide,by decide,by decide⟩
theorem yA1:usN nZ=nZ:=by unfold usN;split <;> rfl
theorem yJJ:jP nZ= []:=by rw [zR2,yA1];rfl
theorem z38:zHC nZ false [97,98]= [97,98]:=by unfold zHC;rw [yA1];decide
theorem yHO:zBW nZ false [97,98]= [97,98]:=by unfold zBW;rw [z38,yA1];decide
theorem yJK:(wk cZ [] [97,98]).1= [{Primary:=16,Secondary:=32,Tertiary:=2,Variable:=false},{Primary:=17,Secondary:=32,Tertiary:=2,Variable:=false}]:=by decide
end Go.M
namespace Go.M
open Go.AV
theorem yHP:zDO [258]=some [0,0,1,2]:=by
 unfold zDO
 have h0:zE (fun (x:Int×(List Int))=>zC3 [258] x.1 x.2) (0,[])=some [0,0,1,2]:=by
  rw [zP (x':=(1,[0,0,1,2])) (by rfl)]
  exact zJ (by rfl)
 rw [h0];decide
theorem yEB:zDZ=some true:=by
 unfold zDZ
 have hw:=zR7 (l:=[({Primary:=16,Secondary:=32,Tertiary:=2,Variable:=false}:Element),({Primary:=17,Secondary:=32,Tertiary:=2,Variable:=false}:Element)]) (by simp) ({Strength:=2,Variable:=1,Backward:=false,Identical:=false}:Options)
 rw [hw,zA]
 have hk:=z2A yK3 yJI yK4 (fun g hg=>by cases hg) (text:=[97,98]) (by simp) (by rw [z38];simp) ({Strength:=2,Variable:=1,Backward:=false,Identical:=false}:Options)
 rw [yJJ,yHO,yJK] at hk
 have hv:zR8 (vX ({Strength:=2,Variable:=1,Backward:=false,Identical:=false}:Options)) [{Primary:=16,Secondary:=32,Tertiary:=2,Variable:=false},{Primary:=17,Secondary:=32,Tertiary:=2,Variable:=false}] [97,98]= [16,17,0,32,32]:=by decide
 rw [hv] at hk
 have s1:slc [({Primary:=16,Secondary:=32,Tertiary:=2,Variable:=false}:Element),({Primary:=17,Secondary:=32,Tertiary:=2,Variable:=false}:Element)] 0 1=some [{Primary:=16,Secondary:=32,Tertiary:=2,Variable:=false}]:=by decide
 have s2:slc [({Primary:=16,Secondary:=32,Tertiary:=2,Variable:=false}:Element),({Primary:=17,Secondary:=32,Tertiary:=2,Variable:=false}:Element)] 1 ([({Primary:=16,Secondary:=32,Tertiary:=2,Variable:=false}:Element),({Primary:=17,Secondary:=32,Tertiary:=2,Variable:=false}:Element)].length)=some [{Primary:=17,Secondary:=32,Tertiary:=2,Variable:=false}]:=by decide
 rw [s1,zA,s2,zA]
 have hk':zAL ({Classes:=[],Decomp:=[],Excluded:=(({Ranges:=[]}):Set)}:Norm) ({Entries:=[({Codes:=[97],Elements:=[{Primary:=16,Secondary:=32,Tertiary:=2,Variable:=false}]}:Entry),({Codes:=[98],Elements:=[{Primary:=17,Secondary:=32,Tertiary:=2,Variable:=false}]}:Entry)],Groups:=[],Base:=100,Second:=32,Third:=2}:Collation) ({Strength:=2,Variable:=1,Backward:=false,Identical:=false}:Options) [97,98]=some [16,17,0,32,32]:=hk
 have c1:wP ({Strength:=0,Variable:=0,Backward:=false,Identical:=false}:Options)=some 1:=by rw [z15];decide
 have c2:wP ({Strength:=1,Variable:=0,Backward:=false,Identical:=false}:Options)=some 8:=by rw [z15];decide
 have w2:(wts [({Primary:=16,Secondary:=32,Tertiary:=2,Variable:=false}:Element),({Primary:=17,Secondary:=32,Tertiary:=2,Variable:=false}:Element)] (vX ({Strength:=2,Variable:=1,Backward:=false,Identical:=false}:Options))).length=2:=by decide
 have e1:zAM [16,17,0,32,32] [16,17,0,32,32]=some true:=by rw [zNR (by simp)];simp
 rw [hk',zA,zN,w2]
 simp only [e1,yHP,c1,c2,zN,xH,zA,Bool.and_self,decide_true,BEq.rfl,show decide (((2:Nat):Int)=2)=true from rfl]
end Go.M
namespace Go.M
open Go.AV
theorem s22 {n:Norm} (hl:n.Decomp.length≤40):∀(m k:Nat),k+m=n.Decomp.length→∃y,zE (fun (x:Int)=>vB n x) (k:Int)=some y∧(y= .inr false∨(y= .inl ()∧∀x∈n.Decomp.drop k,x.To.length≤70∧x.Tag.length≤40))
 | 0,k,h=>⟨.inl (),zJ (by simp only [vB,kJ (show n.Decomp.length≤k by omega),cond_false]),.inr ⟨rfl,by rw [List.drop_of_length_le (by omega)];intro x hx;cases hx⟩⟩
 | m+1,k,h=>by
  have hk:k < n.Decomp.length:=by omega
  by_cases h1:70 < n.Decomp[k].To.length
  have e:decide ((70:Int) < (n.Decomp[k].To.length:Int))=true:=by simp;omega
  exact ⟨.inr false,zJ (by simp only [vB,yQ hk,cond_true,zU hk,zA,zN,e,Bool.not_true,uM,Bool.true_or]),.inl rfl⟩
  have e:decide ((70:Int) < (n.Decomp[k].To.length:Int))=false:=by simp;omega
  by_cases h2:40 < n.Decomp[k].Tag.length
  have e2:decide ((40:Int) < (n.Decomp[k].Tag.length:Int))=true:=by simp;omega
  exact ⟨.inr false,zJ (by simp only [vB,yQ hk,cond_true,zU hk,zA,zN,e,Bool.not_false,xH,e2,Bool.or_true]),.inl rfl⟩
  have e2:decide ((40:Int) < (n.Decomp[k].Tag.length:Int))=false:=by simp;omega
  obtain ⟨y,h3,h4⟩:=s22 hl m (k+1) (by omega)
  refine ⟨y,?_,?_⟩
  rw [zP (x':=((k+1:Nat):Int)) (by simp only [vB,yQ hk,cond_true,zU hk,zA,zN,e,Bool.not_false,xH,e2,Bool.or_self,cond_false,zM (k:=k) (by omega)])]
  exact h3
  rcases h4 with h4 | ⟨h4,h5⟩
  exact .inl h4
  refine .inr ⟨h4,?_⟩
  rw [List.drop_eq_getElem_cons hk]
  intro x hx
  rcases List.mem_cons.1 hx with rfl | hx
  exact ⟨by omega,by omega⟩
  exact h5 x hx
theorem yEC (n:Norm):∃b,zFR n=some b∧(b=true→NSm n):=by
 unfold zFR
 by_cases h:40 < n.Classes.length∨40 < n.Decomp.length∨12 < n.Excluded.Ranges.length
 have e:((decide ((40:Int) < (n.Classes.length:Int)) ||decide ((40:Int) < (n.Decomp.length:Int))) ||decide ((12:Int) < (n.Excluded.Ranges.length:Int)))=true:=by simp;omega
 simp only [zN,e,cond_true]
 exact ⟨false,rfl,fun h=>by cases h⟩
 have e:((decide ((40:Int) < (n.Classes.length:Int)) ||decide ((40:Int) < (n.Decomp.length:Int))) ||decide ((12:Int) < (n.Excluded.Ranges.length:Int)))=false:=by simp;omega
 obtain ⟨y,h3,h4⟩:=s22 (n:=n) (by omega) n.Decomp.length 0 (by omega)
 rw [show ((0:Nat):Int)=0 from rfl] at h3
 simp only [zN,e,cond_false,h3,zA]
 rcases h4 with rfl | ⟨rfl,h5⟩
 exact ⟨false,rfl,fun h=>by cases h⟩
 rw [List.drop_zero] at h5
 exact ⟨true,rfl,fun _=>⟨by omega,by omega,fun m hm=>(h5 m hm).1,fun m hm=>(h5 m hm).2,by omega⟩⟩
theorem f42 {c:Collation} (hl:c.Entries.length≤12):∀(m k:Nat),k+m=c.Entries.length→∃y,zE (fun (x:Int)=>zAO c x) (k:Int)=some y∧(y= .inr false∨(y= .inl ()∧∀x∈c.Entries.drop k,x.Codes.length≤16∧x.Elements.length≤16))
 | 0,k,h=>⟨.inl (),zJ (by simp only [zAO,kJ (show c.Entries.length≤k by omega),cond_false]),.inr ⟨rfl,by rw [List.drop_of_length_le (by omega)];intro x hx;cases hx⟩⟩
 | m+1,k,h=>by
  have hk:k < c.Entries.length:=by omega
  by_cases h1:16 < c.Entries[k].Codes.length
  have e:decide ((16:Int) < (c.Entries[k].Codes.length:Int))=true:=by simp;omega
  exact ⟨.inr false,zJ (by simp only [zAO,yQ hk,cond_true,zU hk,zA,zN,e,Bool.not_true,uM,Bool.true_or]),.inl rfl⟩
  have e:decide ((16:Int) < (c.Entries[k].Codes.length:Int))=false:=by simp;omega
  by_cases h2:c.Entries[k].Elements.length≤16
  have e2:decide ((c.Entries[k].Elements.length:Int)≤16)=true:=by simp;omega
  obtain ⟨y,h3,h4⟩:=f42 hl m (k+1) (by omega)
  refine ⟨y,?_,?_⟩
  rw [zP (x':=((k+1:Nat):Int)) (by simp only [zAO,vU,yQ hk,cond_true,zU hk,zA,zN,e,Bool.not_false,xH,e2,Bool.not_true,Bool.or_self,cond_false,zM (k:=k) (by omega)])]
  exact h3
  rcases h4 with h4 | ⟨h4,h5⟩
  exact .inl h4
  refine .inr ⟨h4,?_⟩
  rw [List.drop_eq_getElem_cons hk]
  intro x hx
  rcases List.mem_cons.1 hx with rfl | hx
  exact ⟨by omega,h2⟩
  exact h5 x hx
  have e2:decide ((c.Entries[k].Elements.length:Int)≤16)=false:=by simp;omega
  exact ⟨.inr false,zJ (by simp only [zAO,vU,yQ hk,cond_true,zU hk,zA,zN,e,Bool.not_false,xH,e2,Bool.or_true]),.inl rfl⟩
theorem yJL {c:Collation} (hl:c.Groups.length≤8):∀(m k:Nat),k+m=c.Groups.length→∃y,zE (fun (x:Int)=>zBS c x) (k:Int)=some y
 | 0,k,h=>⟨.inl (),zJ (by simp only [zBS,kJ (show c.Groups.length≤k by omega),cond_false])⟩
 | m+1,k,h=>by
  have hk:k < c.Groups.length:=by omega
  by_cases h1:(40:Int) < (c.Groups[k].Name.length:Int)
  exact ⟨.inr false,zJ (by simp only [zBS,yQ hk,cond_true,zU hk,zA,h1,decide_true])⟩
  obtain ⟨y,h3⟩:=yJL hl m (k+1) (by omega)
  refine ⟨y,?_⟩
  rw [zP (x':=((k+1:Nat):Int)) (by simp only [zBS,yQ hk,cond_true,zU hk,zA,h1,decide_false,cond_false,zM (k:=k) (by omega)])]
  exact h3
theorem yJM (c:Collation):∃b,zIH c=some b∧(b=true→Sm c):=by
 unfold zIH
 by_cases h:12 < c.Entries.length∨8 < c.Groups.length
 have e:(decide ((12:Int) < (c.Entries.length:Int)) ||decide ((8:Int) < (c.Groups.length:Int)))=true:=by simp;omega
 simp only [zN,e,cond_true]
 exact ⟨false,rfl,fun h=>by cases h⟩
 have e:(decide ((12:Int) < (c.Entries.length:Int)) ||decide ((8:Int) < (c.Groups.length:Int)))=false:=by simp;omega
 obtain ⟨y,h3,h4⟩:=f42 (c:=c) (by omega) c.Entries.length 0 (by omega)
 obtain ⟨z,h6⟩:=yJL (c:=c) (by omega) c.Groups.length 0 (by omega)
 rw [show ((0:Nat):Int)=0 from rfl] at h3 h6
 simp only [zN,e,cond_false,h3,zA]
 rcases h4 with rfl | ⟨rfl,h5⟩
 exact ⟨false,rfl,fun h=>by cases h⟩
 rw [List.drop_zero] at h5
 have hs:Sm c:=⟨by omega,by omega,fun x hx=>(h5 x hx).1,fun x hx=>by have:=(h5 x hx).2;omega⟩
 rw [Sum.elim_inl,h6,zA]
 cases z with
 | inl z=>exact ⟨true,rfl,fun _=>hs⟩
 | inr z=>exact ⟨z,rfl,fun _=>hs⟩
theorem yED (d:Unicodetextlaw44_Data):∃b,zFS d=some b∧(b=true→NSm d.Norm∧Sm d.Collation):=by
 obtain ⟨b,hb,pb⟩:=yEC d.Norm
 obtain ⟨c,hc,pc⟩:=yJM d.Collation
 unfold zFS
 rw [hb,zA,zN,hc]
 cases b with
 | false=>exact ⟨false,rfl,fun h=>by cases h⟩
 | true=>exact ⟨c,by simp only [xH,zA,Bool.true_and],fun h=>⟨pb rfl,pc h⟩⟩
section
variable {d:Unicodetextlaw44_Data} (hn:NSm d.Norm) (hc:Sm d.Collation) (ok:zA1 d) {t:List Int} (ht:t.length≤12)
include hn hc ok ht
omit hc in
theorem z39:(zHC d.Norm false t).length≤900:=by have:=z58 hn ok.1 false t;omega
theorem yK5 (o:Options):zAL d.Norm d.Collation o t=some (zR8 (vX o) (wk d.Collation (jP d.Norm) (zBW d.Norm false t)).1 (zBW d.Norm false t)):=
 z2A hn ok.1 hc (zQG ok.2.1) (by omega) (by have:=z39 hn ok ht;omega) o
theorem yEE (o:Options) (s:Int):zBN d.Norm d.Collation o t s=some (zR8 (vX {Strength:=s,Variable:=o.Variable,Backward:=o.Backward,Identical:=false}) (wk d.Collation (jP d.Norm) (zBW d.Norm false t)).1 (zBW d.Norm false t)):=
 z6G hn ok.1 hc (zQG ok.2.1) (by omega) (by have:=z39 hn ok ht;omega) o s
omit ht in
theorem yJN (ht:t.length≤12) (o:Options):(zR8 (vX o) (wk d.Collation (jP d.Norm) (zBW d.Norm false t)).1 (zBW d.Norm false t)).length≤4611686018427387904:=
 yA0 hc (by have:=z39 hn ok ht;omega) o
end
end Go.M
namespace Go.M
open Go.AV
theorem rk1 {t:List Int} (hl:t.length≤1000000):∀(m k:Nat) (acc:List Int),k+m=t.length→acc.length+m≤4294967296→zE (fun (x:Int×(List Int))=>zC2 t x.1 x.2) ((k:Int),acc)=some (acc++idn (t.drop k))
 | 0,k,acc,h,_=>by
  rw [List.drop_of_length_le (by omega)]
  refine zJ ?_
  simp only [zC2,kJ (show t.length≤k by omega),cond_false,idn,List.flatMap_nil,List.append_nil]
 | m+1,k,acc,h,ha=>by
  have hk:k < t.length:=by omega
  have h1:=zWT t[k]
  rw [zP (x':=(((k+1:Nat):Int),acc++if 0≤t[k]∧t[k]≤1114111 then [t[k]+1] else [])) (by
   simp only [zC2,xM,yQ hk,cond_true,zU hk,zA,zN,yAZ t[k] (show acc.length+1≤4294967296 by omega),zM (k:=k) (by omega)])]
  rw [rk1 hl m (k+1) _ (by omega) (by rw [List.length_append];omega),List.drop_eq_getElem_cons hk]
  simp only [idn,List.flatMap_cons,List.append_assoc]
section
variable {n:Norm} {c:Collation} (hn:NSm n) (hok:zCC n) (hs:Sm c) (hg:∀g∈c.Groups,g.Name.length≤MX) {text:List Int} (ht:text.length≤2000) (hf:(zHC n false text).length≤900)
include hn hok hs hg ht hf
theorem zUY (o:Options):zGI n c o text=some (zR8 (vX o) (wk c (jP n) (zBW n false text)).1 (zBW n false text)):=by
 unfold zGI zR8
 have hd:(zBW n false text).length≤2000:=by rw [zK2];omega
 have hel:=z11 (n:=n) hs (text:=text) hd
 have hE:zCV n c text=some (wk c (jP n) (zBW n false text)).1:=by
  unfold zCV
  rw [z14 hn hok hs hg ht hf,zA]
 rw [show ({Strength:=o.Strength,Variable:=o.Variable,Backward:=o.Backward,Identical:=o.Identical}:Options)=o from rfl,zUW,zA,hE,zA,show ({Strength:=(vX o).Strength,Variable:=(vX o).Variable,Backward:=(vX o).Backward,Identical:=(vX o).Identical}:Options)=vX o from rfl,zTE (by omega),z37,zA]
 generalize (wk c (jP n) (zBW n false text)).1=el at*
 have h4:=zWU el (vX o)
 have hN:∀x∈wts el (vX o),x.length≤1000000000:=fun x hx=>Nat.le_trans (z19 hx) hel
 have hk0:=yFK hN (by omega) (wts el (vX o)).length 0 [] (by omega) (by simp;omega)
 rw [show ((0:Nat):Int)=0 from rfl,List.drop_zero] at hk0
 have hjl:=zWS (wts el (vX o)) 0 [] hN
 simp only [List.length_nil] at hjl
 unfold zI8
 rw [hk0,zA,zA]
 cases hi:(vX o).Identical with
 | false=>simp
 | true=>
  have h5:(jn 0 [] (wts el (vX o))).length≤4000000004:=by omega
  rw [Bool.not_true,cond_false,xQ (by simp;omega),zA,yAR hn hok ht hf,zA]
  have hk1:=rk1 (t:=zBW n false text) (by omega) (zBW n false text).length 0 (jn 0 [] (wts el (vX o))++ [0]) (by omega) (by simp;omega)
  rw [show ((0:Nat):Int)=0 from rfl,List.drop_zero] at hk1
  rw [hk1,zA,if_pos rfl,List.append_assoc]
end
theorem law44_SortkeyKeys_true (d:Unicodetextlaw44_Data) (t:List Int) (s:Int) (ok:zA1 d) {q:Prop} (_:q) {q2:Prop} (_:q2):zCE d t s=some true:=by
 unfold zCE
 obtain ⟨b,hb,hp⟩:=yED d
 rw [hb,yEB,zA,zN]
 cases b with
 | false=>rfl
 | true=>
 obtain ⟨hn,hc⟩:=hp rfl
 by_cases h:12 < t.length
 have e:decide ((12:Int) < (t.length:Int))=true:=by simp;omega
 simp only [e,Bool.or_true,cond_true,zA]
 have e:decide ((12:Int) < (t.length:Int))=false:=by simp;omega
 have ht:t.length≤12:=by omega
 have hf:=z39 hn ok ht
 have r1:=zUY hn ok.1 hc (zQG ok.2.1) (show t.length≤2000 by omega) hf d.Options
 have r2:=zUY hn ok.1 hc (zQG ok.2.1) (show t.length≤2000 by omega) hf {Strength:=s,Variable:=d.Options.Variable,Backward:=d.Options.Backward,Identical:=false}
 have l1:=yJN hn hc ok ht d.Options
 have l2:=yJN hn hc ok ht {Strength:=s,Variable:=d.Options.Variable,Backward:=d.Options.Backward,Identical:=false}
 rw [e,Bool.or_false,Bool.not_true,cond_false,yK5 hn hc ok ht,zA,r1,zA,yEE hn hc ok ht,zA]
 unfold zGC
 rw [r2]
 simp only [zA,zNR l1,zNR l2,zN,decide_true,xH,Bool.and_self]
end Go.M


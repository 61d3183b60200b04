/- What the plain counterparts answer. Conditions: none. -/
import Derived.Test.YtjcbhabmkcdcnaaDoorPu1
set_option linter.unusedSimpArgs false
set_option linter.unusedVariables false
set_option linter.unnecessarySimpa false
namespace Go.M
open Go.AV
open Classical in
noncomputable def wT (n:Norm):List Span:=if VD0 n then n.Classes else []
theorem zZK:CV []:=⟨fun k h=>(by cases h),fun k h=>(by cases h),fun k h=>(by cases h)⟩
theorem zZL (n:Norm):CV (wT n):=by
 unfold wT
 split
 rename_i h;exact h.cv
 exact zZK
theorem zNH {n:Norm} (hs:NSm n):(wT n).length≤40:=by
 unfold wT
 split
 exact hs.cl
 simp
def zL3 (l:List Span) (t:Int):Int:=l.foldl (fun t s=>max t s.Value) t
def zF3 (c:Collation) (l:List Span):Colltable_table:={zIX c with classes:=l,top:=zL3 l 0}
theorem zZM {l:List Span} (hl:l.length≤2000):∀(d k:Nat) (t:Int),l.length - k=d→k≤l.length→zD (fun (x:Int×Int)=>kP l x.1 x.2) ((k:Int),t)=some (zL3 (l.drop k) t):=by
 intro d
 induction d with
 | zero=>
  intro k t h1 h2
  rw [List.drop_of_length_le (by omega)]
  refine zK ?_
  simp only [kP,jT (show l.length≤k by omega),cond_false]
  rfl
 | succ d ih=>
  intro k t h1 h2
  have hk:k < l.length:=by omega
  rw [List.drop_eq_getElem_cons hk]
  rw [zR (x':=(((k+1:Nat):Int),max t l[k].Value)) (by simp only [kP,jI hk,cond_true,yA hk,zA,zV (k:=k) (by omega)])]
  exact ih (k+1) _ (by omega) (by omega)
theorem z2V {c:Collation} {n:Norm} (hs:NSm n) (hok:zBQ n):xO (zIX c) n=some (zF3 c (wT n)):=by
 obtain ⟨e,he,hp⟩:=zZE hs hok
 unfold xO
 rw [he,zA]
 have h1:(cond (decide (e=0)) (some n.Classes) (some (zIX c).classes):Option (List Span))=some (wT n):=by
  unfold wT
  by_cases h:e=0
  rw [if_pos (hp.1 h)];simp [h]
  rw [if_neg (fun hh=>h (hp.2 hh))];simp [h,zIX]
 rw [h1,zA]
 have h2:=zZM (l:=wT n) (by have:=zNH hs;omega) (wT n).length 0 0 (by omega) (by omega)
 rw [List.drop_zero] at h2
 have h2':zD (fun (x:Int×Int)=>kP (wT n) x.1 x.2) (0,(zIX c).top)=some (zL3 (wT n) 0):=h2
 rw [h2']
 rfl
theorem zF4 {c:Collation} (hs:Sm c) {l:List Span} {codes:List Int}:kT (zF3 c l) codes=some (zCM (kU c).Entries codes):=z2C hs (codes:=codes)
theorem zGF {c:Collation} {l:List Span} (h:CV l) (hl:l.length≤2000) (x:Int):j8 (zF3 c l) x=some (clE l x):=by
 obtain ⟨j,hj,hr,hlo,hhi⟩:=zOJ (n:=l.length) hl (body:=fun (q:Int×Int)=>uE (fun x0=>jR x0 (zF3 c l) x) q.1 q.2) (fun k=>decide (x≤(nth l k).Hi))
  (fun k _=>by simp only [uE,jT (Nat.le_refl _),cond_false])
  (fun lo hi h1 h2=>by
   have hm:(lo+hi) / 2 < l.length:=by omega
   have hi1:kM (zF3 c l).classes (((lo+hi) / 2:Nat):Int)=some (nth l ((lo+hi) / 2)):=kR hm
   simp only [uE,jI h1,cond_true,zHE (show lo+hi≤4611686018427387903 by omega),jR,hi1,zA,zV (k:=(lo+hi) / 2) (by omega)]
   by_cases hc:x≤(nth l ((lo+hi) / 2)).Hi <;> simp [hc])
  (fun i j hij hj hi=>by
   have:=h.hi hij hj
   simp only [decide_eq_true_eq] at hi ⊢
   omega)
 simp only [decide_eq_false_iff_not,decide_eq_true_eq] at hlo hhi
 unfold j8 zDI
 have e0:(zF3 c l).classes=l:=rfl
 rw [e0,hr,z34 h hj (fun k hk=>by have:=hlo k hk;omega) hhi]
 simp only [zA,zT]
 by_cases hn:j < l.length
 simp only [jI hn,zBG,kR hn,zA,Bool.true_and,hn,true_and]
 by_cases hc2:(nth l j).Lo≤x <;> simp [hc2]
 simp only [jT (show l.length≤j by omega),zEC,zA,Bool.false_and,cond_false,hn,false_and,if_false]
theorem zSK:∀(l:List Span) (t:Int),t≤zL3 l t∧∀s∈l,s.Value≤zL3 l t
 | [],t=>⟨Int.le_refl _,fun s h=>by cases h⟩
 | x::l,t=>by
  have ih:=zSK l (max t x.Value)
  refine ⟨by show t≤zL3 l (max t x.Value);omega,fun s hs=>?_⟩
  show s.Value≤zL3 l (max t x.Value)
  rcases List.mem_cons.1 hs with rfl | hs
  omega
  exact ih.2 s hs
theorem z8M {l:List Span} (x:Int):clE l x≤zL3 l 0:=by
 unfold clE
 cases hf:l.find? (zQZ x) with
 | none=>exact (zSK l 0).1
 | some s=>exact (zSK l 0).2 s (List.mem_of_find?_eq_some hf)
theorem z8N {l:List Span} (h:CV l) (x:Int):0≤clE l x:=by
 unfold clE
 cases hf:l.find? (zQZ x) with
 | none=>exact Int.le_refl _
 | some s=>
  have:=List.mem_of_find?_eq_some hf
  obtain ⟨k,hk,rfl⟩:=List.getElem_of_mem this
  have:=h.sp k hk
  rw [zCF hk] at this
  unfold spOk at this
  show 0≤(l[k]).Value
  omega
def zIA (p:Nat→Bool):Nat→Nat
 | 0=>0
 | k+1=>if p (k+1) then k+1 else zIA p k
theorem zLG (p:Nat→Bool):∀k,zIA p k≤k
 | 0=>Nat.le_refl _
 | k+1=>by unfold zIA;split;omega;have:=zLG p k;omega
theorem zNI {p : Nat → Bool} {m : Nat} : ∀ {k : Nat}, m ≤ k → (∀ j, m < j → j ≤ k → p j = false) → zIA p k = zIA p m
  | 0, h, _ => by have : m = 0 := by omega
                  rw [this]
  | k + 1, h, hp => by
    by_cases e : m = k + 1
    · rw [e]
    · unfold zIA
      rw [hp (k + 1) (by omega) (Nat.le_refl _)]
      simp only [Bool.false_eq_true, if_false]
      rw [zNI (m := m) (by omega) fun j h1 h2 => hp j h1 (by omega)]
      cases m <;> rfl
def pfx (es:List Entry) (text:List Int) (k:Nat):Bool:=(zCM es (text.take k)).2
def zAE (es:List Entry) (text:List Int):Nat:=zIA (pfx es text) text.length
def zB9 (fd:List Int→Bool) (cl:Int→Int):List Int→List Int→List Int→Int→List Int×List Int
 | [],p,s,_=>(p,s)
 | x::r,p,s,h=>if cl x=0 then (p,s++x::r) else if fd (p++ [x])&&decide (h < cl x) then zB9 fd cl r (p++ [x]) s h else zB9 fd cl r p (s++ [x]) (max h (cl x))
theorem zNJ {fd:List Int→Bool} {cl:Int→Int}:∀(r p s:List Int) (h:Int),(∀x,cl x≤h)→zB9 fd cl r p s h=(p,s++r)
 | [],p,s,h,_=>by simp [zB9]
 | x::r,p,s,h,hc=>by
  have hx:=hc x
  unfold zB9
  split
  rfl
  have e:decide (h < cl x)=false:=by simp;omega
  rw [e,Bool.and_false,if_neg (by simp),zNJ r p (s++ [x]) (max h (cl x)) (fun y=>by have:=hc y;omega)]
  simp
theorem zLH {fd:List Int→Bool} {cl:Int→Int}:∀(r p s:List Int) (h:Int),p.length≤(zB9 fd cl r p s h).1.length∧(zB9 fd cl r p s h).1.length+(zB9 fd cl r p s h).2.length=p.length+s.length+r.length∧((zB9 fd cl r p s h).1.length=p.length→zB9 fd cl r p s h=(p,s++r))
 | [],p,s,h=>by simp [zB9]
 | x::r,p,s,h=>by
  unfold zB9
  split
  refine ⟨Nat.le_refl _,by simp;omega,fun _=>rfl⟩
  split
  have ih:=zLH (fd:=fd) (cl:=cl) r (p++ [x]) s h
  simp only [List.length_append,List.length_cons,List.length_nil] at ih ⊢
  exact ⟨by omega,by omega,fun e=>by omega⟩
  have ih:=zLH (fd:=fd) (cl:=cl) r p (s++ [x]) (max h (cl x))
  simp only [List.length_append,List.length_cons,List.length_nil] at ih ⊢
  refine ⟨ih.1,by omega,fun e=>?_⟩
  rw [ih.2.2 e];simp
section
variable {c:Collation} (hs:Sm c) {l:List Span} (hcv:CV l) (hl:l.length≤2000)
include hs
theorem mL0 {text:List Int} (ht:text.length≤2000):∀k,k≤text.length→zD (fun (x:Int)=>kD text (zF3 c l) x) (k:Int)=some ((zIA (pfx (kU c).Entries text) k:Nat):Int)
 | 0,_=>by
  refine zK ?_
  have:decide ((0:Int) < ((0:Nat):Int))=false:=rfl
  simp only [kD,this,cond_false]
  rfl
 | k+1,hk=>by
  have hd:decide ((0:Int) < ((k+1:Nat):Int))=true:=by simp <;> omega
  have ih:=mL0 ht k (by omega)
  unfold zIA
  cases hp:pfx (kU c).Entries text (k+1) with
  | true=>
   rw [if_pos rfl]
   refine zK ?_
   unfold pfx at hp
   simp only [kD,hd,cond_true,zEB hk,zA,zF4 hs,hp]
  | false=>
   rw [if_neg (by simp),←ih]
   refine zR ?_
   unfold pfx at hp
   simp only [kD,hd,cond_true,zEB hk,zA,zF4 hs,hp,cond_false,zDO (k:=k) (by omega)]
omit hs in
theorem zZN {text:List Int} {k:Nat} (hk:k≤text.length) (h:zH7 (kU c).Entries 0 < (k:Int)):pfx (kU c).Entries text k=false:=by
 have h1:=zOG (kU c).Entries 0
 unfold pfx zCM
 have:(kU c).Entries.find? (fun x=>decide (x.Codes=text.take k))=none:=by
  rw [List.find?_eq_none]
  intro x hx
  simp only [decide_eq_true_eq]
  intro e
  have h2:=h1.2 x hx
  rw [e] at h2
  have:(text.take k).length=k:=by simp;omega
  omega
 rw [this]
theorem z6E {text:List Int} (ht:text.length≤2000):zD (fun (x:Int)=>kD text (zF3 c l) x) (min (zF3 c l).longest (text.length:Int))=some ((zAE (kU c).Entries text:Nat):Int):=by
 have h1:=zOG (kU c).Entries 0
 have e:(zF3 c l).longest=zH7 (kU c).Entries 0:=rfl
 rw [e]
 obtain ⟨m,hm⟩:∃m:Nat,min (zH7 (kU c).Entries 0) (text.length:Int)=(m:Int):=⟨(min (zH7 (kU c).Entries 0) (text.length:Int)).toNat,by omega⟩
 rw [hm,mL0 hs ht m (by omega)]
 unfold zAE
 rw [zNI (p:=pfx (kU c).Entries text) (m:=m) (k:=text.length) (by omega) fun j h2 h3=>zZN h3 (by omega)]
omit hs in
theorem z6F {p s r:List Int} {x:Int}:u3 (cpM (p++s++x::r) ((p.length+1:Nat):Int) ((p.length+s.length+1:Nat):Int) (p.length:Int) ((p.length+s.length:Nat):Int)) (p.length:Int) x=some ((p++ [x])++s++r):=by
 have e1:((p++s++x::r).drop p.length).take (p.length+s.length - p.length)=s:=by
  rw [List.append_assoc,List.drop_left]
  have:p.length+s.length - p.length=s.length:=by omega
  rw [this,List.take_left]
 have e2:min (p.length+s.length - p.length) (p.length+s.length+1 - (p.length+1))=s.length:=by omega
 unfold cpM
 simp only [Int.toNat_natCast]
 rw [e1,e2,List.take_of_length_le (Nat.le_refl _)]
 cases s with
 | nil=>
  have hx:(p++ []++x::r)=p++x::r:=by simp
  rw [hx]
  have e3:(p++x::r).take (p.length+1)=p++ [x]:=by
   rw [List.take_append,List.take_of_length_le (by omega)]
   simp
  have e4:(p++x::r).drop (p.length+1+([]:List Int).length)=r:=by
   rw [List.drop_append,List.drop_of_length_le (by simp)]
   simp
  rw [e3,e4]
  have:p++ [x]++ []++r=p++x::r:=by simp
  rw [this,uI rfl]
 | cons y s=>
  have hx:(p++(y::s)++x::r)=p++y::(s++x::r):=by simp
  rw [hx]
  have e3:(p++y::(s++x::r)).take (p.length+1)=p++ [y]:=by
   rw [List.take_append,List.take_of_length_le (by omega)]
   simp
  have e4:(p++y::(s++x::r)).drop (p.length+1+(y::s).length)=r:=by
   have:p++y::(s++x::r)=(p++y::(s++ [x]))++r:=by simp
   rw [this,List.drop_left' (by simp;omega)]
  rw [e3,e4]
  have:p++ [y]++(y::s)++r=p++y::((y::s)++r):=by simp
  rw [this,uI rfl]
  simp
include hcv hl
theorem mL1 : ∀ (r p s : List Int) (h : Int), p.length + s.length + r.length ≤ 2000 →
    zD (fun (x : Int × Int × Int × (List Int)) => yI (zF3 c l) x.1 x.2.1 x.2.2.1 x.2.2.2) ((p.length : Int), h, ((p.length + s.length : Nat) : Int), p ++ s ++ r) =
      some ((((zB9 (fun q => (zCM (kU c).Entries q).2) (clE l) r p s h).1.length : Nat) : Int), (zB9 (fun q => (zCM (kU c).Entries q).2) (clE l) r p s h).1 ++ (zB9 (fun q => (zCM (kU c).Entries q).2) (clE l) r p s h).2)
  | [], p, s, h, _ => by
    refine zK ?_
    have : decide (((p.length + s.length : Nat) : Int) < ((p ++ s ++ []).length : Int)) = false := by simp
    simp only [yI, zT, this, Bool.false_and, cond_false]
    simp [zB9]
  | x :: r, p, s, h, hn => by
    simp only [List.length_cons] at hn
    have hd : decide (((p.length + s.length : Nat) : Int) < ((p ++ s ++ x :: r).length : Int)) = true := by simp <;> omega
    have hi : kM (p ++ s ++ x :: r) ((p.length + s.length : Nat) : Int) = some x := wC (by simp)
    have etop : (zF3 c l).top = zL3 l 0 := rfl
    by_cases htop : h < zL3 l 0
    · have hd2 : decide (h < (zF3 c l).top) = true := by rw [etop]; simpa using htop
      by_cases h0 : clE l x = 0
      · refine zK ?_
        simp only [yI, zT, hd, hd2, Bool.and_self, cond_true, hi, zA, zGF hcv hl, h0, decide_true, Sum.elim_inl]
        unfold zB9
        rw [if_pos h0]
        simp
      · unfold zB9
        rw [if_neg h0]
        by_cases hk : clE l x ≤ h
        · have e : decide (h < clE l x) = false := by simp; omega
          rw [e, Bool.and_false, if_neg (by simp)]
          rw [zR (x' := ((p.length : Int), h, ((p.length + (s ++ [x]).length : Nat) : Int), p ++ (s ++ [x]) ++ r)) (by
            have e2 : p ++ (s ++ [x]) ++ r = p ++ s ++ x :: r := by simp
            have e3 : p.length + (s ++ [x]).length = p.length + s.length + 1 := by simp; omega
            rw [e2, e3]
            simp only [yI, zT, hd, hd2, Bool.and_self, cond_true, hi, zA, zGF hcv hl, h0, hk, decide_true, decide_false, cond_false, Sum.elim_inr, zV (k := p.length + s.length) (by omega)])]
          have := mL1 r p (s ++ [x]) h (by simp; omega)
          rw [show max h (clE l x) = h by omega]
          exact this
        · have e : decide (h < clE l x) = true := by simp; omega
          rw [e, Bool.and_true]
          have s1 : slc (p ++ s ++ x :: r) 0 (p.length : Int) = some p := by
            rw [zEB (by simp)]
            simp
          have a1 : app p [x] = some (p ++ [x]) := zA3 (by simp; omega)
          cases hf : (zCM (kU c).Entries (p ++ [x])).2 with
          | false =>
            rw [if_neg (by simp)]
            rw [zR (x' := ((p.length : Int), clE l x, ((p.length + (s ++ [x]).length : Nat) : Int), p ++ (s ++ [x]) ++ r)) (by
              have e2 : p ++ (s ++ [x]) ++ r = p ++ s ++ x :: r := by simp
              have e3 : p.length + (s ++ [x]).length = p.length + s.length + 1 := by simp; omega
              rw [e2, e3]
              simp only [yI, zT, hd, hd2, Bool.and_self, cond_true, hi, zA, zGF hcv hl, h0, hk, decide_false, cond_false, s1, a1, zF4 hs, hf, Bool.not_false, Sum.elim_inr, zV (k := p.length + s.length) (by omega)])]
            have := mL1 r p (s ++ [x]) (clE l x) (by simp; omega)
            rw [show max h (clE l x) = clE l x by omega]
            exact this
          | true =>
            rw [if_pos rfl]
            have sc1 : ∃ q, slc (p ++ s ++ x :: r) ((p.length + 1 : Nat) : Int) ((p.length + s.length + 1 : Nat) : Int) = some q := ⟨_, zOD (by omega) (by simp; omega)⟩
            have sc2 : ∃ q, slc (p ++ s ++ x :: r) (p.length : Int) ((p.length + s.length : Nat) : Int) = some q := ⟨_, zOD (by omega) (by simp)⟩
            obtain ⟨q1, hq1⟩ := sc1
            obtain ⟨q2, hq2⟩ := sc2
            have hcp := z6F (p := p) (s := s) (r := r) (x := x)
            obtain ⟨_, _, hlt⟩ := zF8 hcp
            have hix : ∃ q, kM (cpM (p ++ s ++ x :: r) ((p.length + 1 : Nat) : Int) ((p.length + s.length + 1 : Nat) : Int) (p.length : Int) ((p.length + s.length : Nat) : Int)) (p.length : Int) = some q := ⟨_, yA (by simpa using hlt)⟩
            obtain ⟨q3, hq3⟩ := hix
            rw [zR (x' := (((p ++ [x]).length : Int), h, (((p ++ [x]).length + s.length : Nat) : Int), (p ++ [x]) ++ s ++ r)) (by
              have e3 : (p ++ [x]).length + s.length = p.length + s.length + 1 := by simp; omega
              have e4 : (p ++ [x]).length = p.length + 1 := by simp
              rw [e3, e4]
              simp only [yI, zT, hd, hd2, Bool.and_self, cond_true, hi, zA, zGF hcv hl, h0, hk, decide_false, cond_false, s1, a1, zF4 hs, hf, Bool.not_true, zV (k := p.length + s.length) (by omega), zV (k := p.length) (by omega), hq1, hq2, hq3, hcp, Sum.elim_inr])]
            exact mL1 r (p ++ [x]) s h (by simp; omega)
    · have hd2 : decide (h < (zF3 c l).top) = false := by rw [etop]; simpa using htop
      have hm := zNJ (fd := fun q => (zCM (kU c).Entries q).2) (cl := clE l) (x :: r) p s h (fun y => by have := z8M (l := l) y; omega)
      rw [hm]
      refine zK ?_
      simp only [yI, zT, hd, hd2, Bool.and_false, cond_false, List.append_assoc]
noncomputable def stE (c:Collation) (l:List Span) (text:List Int):Int×List Int×List Element:=if zAE (kU c).Entries text=0 then (1,text.drop 1,zSF (kU c) (nth text 0)) else
 ((((zB9 (fun q=>(zCM (kU c).Entries q).2) (clE l) (text.drop (zAE (kU c).Entries text)) (text.take (zAE (kU c).Entries text)) [] 0).1.length:Nat):Int),(zB9 (fun q=>(zCM (kU c).Entries q).2) (clE l) (text.drop (zAE (kU c).Entries text)) (text.take (zAE (kU c).Entries text)) [] 0).2,(zCM (kU c).Entries (zB9 (fun q=>(zCM (kU c).Entries q).2) (clE l) (text.drop (zAE (kU c).Entries text)) (text.take (zAE (kU c).Entries text)) [] 0).1).1)
theorem zZO {text:List Int} (ht:text.length≤2000) (h0:text≠[]):∃seq,j9 (zF3 c l) text=some ((stE c l text).1,(stE c l text).2.2,decide (zAE (kU c).Entries text≠0),seq)∧slc seq (stE c l text).1 (seq.length:Int)=some (stE c l text).2.1:=by
 unfold j9
 rw [z6E hs ht,zA]
 have hpos:0 < text.length:=List.length_pos_iff.2 h0
 by_cases hz:zAE (kU c).Entries text=0
 have e1:decide (((zAE (kU c).Entries text:Nat):Int)=0)=true:=by simp [hz]
 have i0:kM text (0:Int)=some (nth text 0):=kR (k:=0) hpos
 have hst:stE c l text=(1,text.drop 1,zSF (kU c) (nth text 0)):=by unfold stE;rw [if_pos hz]
 have him:k8 (zF3 c l) (nth text 0)=some (zSF (kU c) (nth text 0)):=zQR c (nth text 0)
 rw [e1,cond_true,i0,zA,him,zA,hst]
 refine ⟨text,?_,?_⟩
 simp [hz]
 exact zQK (l:=text) (a:=1) (by omega)
 have e1:decide (((zAE (kU c).Entries text:Nat):Int)=0)=false:=by simp;omega
 rw [e1,cond_false]
 have hle:zAE (kU c).Entries text≤text.length:=zLG _ _
 have h1:=mL1 hs hcv hl (text.drop (zAE (kU c).Entries text)) (text.take (zAE (kU c).Entries text)) [] 0 (by simp;omega)
 have e2:(text.take (zAE (kU c).Entries text)).length=zAE (kU c).Entries text:=by simp;omega
 have e3:text.take (zAE (kU c).Entries text)++ []++text.drop (zAE (kU c).Entries text)=text:=by simp
 rw [e3,e2] at h1
 simp only [List.length_nil,Nat.add_zero] at h1
 rw [h1,zA]
 have hst:stE c l text=((((zB9 (fun q=>(zCM (kU c).Entries q).2) (clE l) (text.drop (zAE (kU c).Entries text)) (text.take (zAE (kU c).Entries text)) [] 0).1.length:Nat):Int),(zB9 (fun q=>(zCM (kU c).Entries q).2) (clE l) (text.drop (zAE (kU c).Entries text)) (text.take (zAE (kU c).Entries text)) [] 0).2,(zCM (kU c).Entries (zB9 (fun q=>(zCM (kU c).Entries q).2) (clE l) (text.drop (zAE (kU c).Entries text)) (text.take (zAE (kU c).Entries text)) [] 0).1).1):=by unfold stE;rw [if_neg hz]
 rw [hst]
 generalize zB9 (fun q=>(zCM (kU c).Entries q).2) (clE l) (text.drop (zAE (kU c).Entries text)) (text.take (zAE (kU c).Entries text)) [] 0=q
 have s1:slc (q.1++q.2) 0 ((q.1.length:Nat):Int)=some q.1:=by rw [zEB (by simp)];simp
 simp only [s1,zA,zF4 hs]
 refine ⟨q.1++q.2,?_,?_⟩
 simp [hz]
 rw [zQK (by simp)];simp
end
end Go.M
namespace Go.M
open Go.AV
def n0:Norm:={Classes:=[{Lo:=769,Hi:=769,Value:=230},{Lo:=803,Hi:=803,Value:=220}],Decomp:=[],Excluded:={Ranges:=[]}}
def c0:Collation:={Entries:=[{Codes:=[97],Elements:=[{Primary:=7,Secondary:=1,Tertiary:=1,Variable:=false}]},{Codes:=[97,769],Elements:=[{Primary:=8,Secondary:=1,Tertiary:=1,Variable:=false}]}],Groups:=[],Base:=100,Second:=1,Third:=1}
end Go.M
namespace Go.M
open Go.AV
theorem zZP {n:Norm} (h:DS n.Decomp) (hl:n.Decomp.length≤2000) (c:Int) (b:Bool):xN n c b=some (if syl c=true then (hdE c,true) else ((fnB n.Decomp b c).getD [],(fnB n.Decomp b c).isSome)):=by
 unfold xN
 rw [zGC,zA]
 by_cases hs:syl c=true
 have e:decide (4≤hkE c)=true:=by simpa using (zEX c).1 hs
 simp only [e,cond_true,zTU hs,zA,hs,if_true]
 have e:decide (4≤hkE c)=false:=by simp only [decide_eq_false_iff_not];exact fun hh=>hs ((zEX c).2 hh)
 simp only [Bool.not_eq_true] at hs
 simp only [e,cond_false,hs,Bool.false_eq_true,if_false]
 obtain ⟨i,hb,hp⟩:=zTX h hl c
 rw [hb]
 simp only [zA,zT]
 unfold fnB
 cases hf:n.Decomp.find? (isF c) with
 | none=>simp [zEC]
 | some m=>
  obtain ⟨h1,h2⟩:=hp m hf
  simp only [Option.isSome_some,Bool.not_true,Bool.not_false,zBG,kR h1,h2,zA,Bool.false_or]
  cases b <;> cases hm:(m.Tag== []) <;> simp [hm]
section
variable {n:Norm} {b:Bool} (hd:DS n.Decomp) (hl:n.Decomp.length≤2000) (hD:∀c,DD n.Decomp n.Decomp.length c) (hw:∀c,(fu n.Decomp b c).length≤64)
def XOk (l:List Mapping) (b:Bool) (m:List (Int×List Int)):Prop:= ∀k v,mget m k=some v→v=fu l b k
def zUA (l:List Mapping) (f:Nat) (c:Int):Prop:=(∃k,DD l k c∧k+2≤f)∨(l.find? (isF c)=none∧syl c=false∧1≤f)
include hw in
theorem z6G {f : Nat} (ih : ∀ c m, XOk n.Decomp b m → zUA n.Decomp f c → ∃ m', yL f c m n b = some (fu n.Decomp b c, m') ∧ XOk n.Decomp b m') (L : List Int) (hL : L.length ≤ 2000) (hn : ∀ e ∈ L, zUA n.Decomp f e) :
    ∀ (d i : Nat) (acc : List Int) (m : List (Int × List Int)), L.length - i = d → i ≤ L.length → acc.length ≤ 64 * i → XOk n.Decomp b m →
      ∃ m', zD (fun (x : Int × (List Int) × (List (Int × (List Int)))) => kF (L, true) (yL f) n b x.1 x.2.1 x.2.2) ((i : Int), acc, m) = some (acc ++ (L.drop i).flatMap (fu n.Decomp b), m') ∧ XOk n.Decomp b m' := by
  intro d
  induction d with
  | zero =>
    intro i acc m h1 h2 h3 h4
    refine ⟨m, ?_, h4⟩
    refine zK ?_
    rw [List.drop_of_length_le (show L.length ≤ i by omega)]
    simp only [kF, jT (show L.length ≤ i by omega), cond_false, List.flatMap_nil, List.append_nil]
  | succ d ihd =>
    intro i acc m h1 h2 h3 h4
    have hi : i < L.length := by omega
    obtain ⟨m1, hr, r1⟩ := ih L[i] m h4 (hn _ (List.getElem_mem hi))
    have hw1 := hw L[i]
    have ha : app acc (fu n.Decomp b L[i]) = some (acc ++ fu n.Decomp b L[i]) := zA3 (by omega)
    rw [zR (x' := (((i + 1 : Nat) : Int), acc ++ fu n.Decomp b L[i], m1)) (by
      simp only [kF, jI hi, cond_true, yA hi, zA, hr, ha, zV (k := i) (by omega)])]
    obtain ⟨m2, hq, q1⟩ := ihd (i + 1) (acc ++ fu n.Decomp b L[i]) m1 (by omega) (by omega) (by rw [List.length_append]; omega) r1
    refine ⟨m2, ?_, q1⟩
    rw [hq, List.drop_eq_getElem_cons hi, List.flatMap_cons, List.append_assoc]
include hd hl hD hw in
theorem z8O:∀(f:Nat) (c:Int) (m:List (Int×List Int)),XOk n.Decomp b m→zUA n.Decomp f c→∃m',yL f c m n b=some (fu n.Decomp b c,m')∧XOk n.Decomp b m':=by
 intro f
 induction f with
 | zero=>intro c m _ hn;exfalso;rcases hn with ⟨k,_,h⟩ | ⟨_,_,h⟩ <;> omega
 | succ f ih=>
  intro c m hm hn
  show ∃m',jU (yL f) c m n b=some _∧_
  unfold jU
  cases hh:uQ m c with
  | true=>
   obtain ⟨v,hv⟩:=Option.isSome_iff_exists.1 hh
   have hg:wW m c []=v:=by unfold wW;rw [hv];rfl
   rw [cond_true,hg,hm c v hv]
   exact ⟨m,rfl,hm⟩
  | false=>
   rw [cond_false,zZP hd hl,zA]
   have fin:∀(L:List Int),L.length≤2000→(∀e∈L,zUA n.Decomp f e)→L.flatMap (fu n.Decomp b)=fu n.Decomp b c→∃m',(cond (!((L,true):List Int×Bool).2) (some ([c],m)) ((zD (fun (x:Int×(List Int)×(List (Int×(List Int))))=>kF (L,true) (yL f) n b x.1 x.2.1 x.2.2) (0,[],m)).bind fun (y1:(List Int)×(List (Int×(List Int))))=>some (y1.1,w6 y1.2 c y1.1)))=some (fu n.Decomp b c,m')∧XOk n.Decomp b m':=by
    intro L hL hne hfl
    obtain ⟨m1,hq,q1⟩:=z6G hw ih L hL hne L.length 0 [] m (by omega) (by omega) (by simp) hm
    rw [List.drop_zero,List.nil_append,hfl] at hq
    have hq':zD (fun (x:Int×(List Int)×(List (Int×(List Int))))=>kF (L,true) (yL f) n b x.1 x.2.1 x.2.2) (0,[],m)=some (fu n.Decomp b c,m1):=hq
    simp only [Bool.not_true,cond_false]
    rw [hq']
    refine ⟨w6 m1 c (fu n.Decomp b c),rfl,fun k v hk=>?_⟩
    rw [jS] at hk
    split at hk
    rename_i hx;cases hk;rw [hx]
    exact q1 k v hk
   cases hs:syl c with
   | true=>
    simp only [if_true]
    have hnone:=zQ3 hd hs
    have hpt:∀e∈hdE c,n.Decomp.find? (isF e)=none∧syl e=false:=by
     intro e he
     obtain ⟨p1,p2⟩:=zLC hs he
     refine ⟨?_,p1⟩
     cases hf2:n.Decomp.find? (isF e) with
     | none=>rfl
     | some m=>obtain ⟨q1,rfl⟩:=zCO hf2;exact absurd (hd.hk m q1) p2
    refine fin (hdE c) (by have:=zIZ c;omega) (fun e he=>?_) ?_
    obtain ⟨p1,p2⟩:=hpt e he
    refine .inr ⟨p1,p2,?_⟩
    rcases hn with ⟨k,_,h⟩ | ⟨_,h,_⟩
    omega
    rw [hs] at h;cases h
    have h1:fu n.Decomp b c=hdE c:=by rw [zT4 hD,zC9 hnone]
    rw [h1]
    have:∀L:List Int,(∀e∈L,n.Decomp.find? (isF e)=none∧syl e=false)→L.flatMap (fu n.Decomp b)=L:=by
     intro L
     induction L with
     | nil=>intro _;rfl
     | cons x L ihL=>
      intro h
      obtain ⟨p1,p2⟩:=h x (by simp)
      have hx:fu n.Decomp b x= [x]:=by rw [zT4 hD,zC9 p1];show hdE x= [x];unfold hdE;rw [if_neg (by simp [p2])]
      rw [List.flatMap_cons,hx,ihL fun e he=>h e (by simp [he])]
      rfl
    exact this _ hpt
   | false=>
    simp only [Bool.false_eq_true,if_false]
    cases hf:fnB n.Decomp b c with
    | none=>
     simp only [Option.getD_none,Option.isSome_none,Bool.not_false,cond_true]
     refine ⟨m,?_,hm⟩
     rw [zT4 hD,hf]
     have:hdE c= [c]:=by unfold hdE;rw [if_neg (by simp [hs])]
     simp only [this]
    | some to=>
     simp only [Option.getD_some,Option.isSome_some]
     obtain ⟨mm,h1,rfl,_⟩:=zF2 hf
     obtain ⟨h2,_⟩:=zCO h1
     refine fin mm.To (hd.len mm h2) (fun e he=>?_) (by rw [zT4 hD c,hf])
     rcases hn with ⟨k,hk,h⟩ | ⟨h,_,_⟩
     cases k with
     | zero=>have:n.Decomp.find? (isF c)=none:=hk;rw [this] at h1;cases h1
     | succ k=>exact .inl ⟨k,hk mm h1 e he,by omega⟩
     rw [h] at h1;cases h1
end
noncomputable def usN (n:Norm):Norm:=open Classical in if VD0 n then n else {Classes:=[],Decomp:=[],Excluded:={Ranges:=[]}}
structure GN (n:Norm):Prop where
 ds:DS n.Decomp
 cv:CV n.Classes
 H:∀m∈n.Decomp,WW n.Decomp m.From
 w:∀m∈n.Decomp,wt n.Decomp true m.From≤64
 cl:n.Classes.length≤40
 de:n.Decomp.length≤40
 ok:∀x∈n.Classes,okSpan x
theorem zSL {n:Norm} (hs:NSm n) (hok:zBQ n):GN (usN n):=by
 unfold usN
 split
 rename_i h
 obtain ⟨h1,h2⟩:=(z6A h.ds (by have:=hs.de;omega)).1 h.ms
 exact ⟨h.ds,h.cv,h1,h2,hs.cl,hs.de,hok.1.2⟩
 exact ⟨⟨fun k hk=>(by cases hk),fun m hm=>(by cases hm),fun m hm=>(by cases hm)⟩,zZK,fun m hm=>(by cases hm),fun m hm=>(by cases hm),by simp,by simp,fun x hx=>by cases hx⟩
theorem GN.dd {n:Norm} (h:GN n):∀c,DD n.Decomp n.Decomp.length c:=zOL h.ds h.H
theorem GN.len {n:Norm} (h:GN n) (b:Bool) (c:Int):(fu n.Decomp b c).length≤64:=z59 h.ds (z6B h.ds h.H h.w) b c
theorem GN.ex {n:Norm} (h:GN n) {b:Bool} (c:Int) (m:List (Int×List Int)) (hm:XOk n.Decomp b m):∃m',yL 100 c m n b=some (fu n.Decomp b c,m')∧XOk n.Decomp b m':=
 z8O h.ds (by have:=h.de;omega) h.dd (h.len b) 100 c m hm (.inl ⟨_,h.dd c,by have:=h.de;omega⟩)
theorem z2W {n:Norm} (hs:NSm n) (hok:zBQ n):wK n=some (usN n):=by
 obtain ⟨e,he,hv⟩:=zZE hs hok
 unfold wK usN
 rw [he,zA]
 by_cases hz:e=0
 rw [if_pos (hv.1 hz)];simp [hz]
 rw [if_neg (fun h=>hz (hv.2 h))];simp [hz]
theorem zQ9 {f:Int→List Int} {k:Nat} (h:∀e,(f e).length≤k):∀L:List Int,(L.flatMap f).length≤k*L.length
 | []=>by simp
 | x::L=>by have:=zQ9 h L;have:=h x;rw [List.flatMap_cons,List.length_append,List.length_cons,Nat.mul_succ];omega
theorem zV5 {n : Norm} (h : GN n) {b : Bool} {text : List Int} (ht : text.length ≤ 2000) : ∀ (d i : Nat) (acc : List Int) (m : List (Int × List Int)), text.length - i = d → i ≤ text.length → acc.length ≤ 64 * i → XOk n.Decomp b m →
    zD (fun (x : Int × (List Int) × (List (Int × (List Int)))) => jB text n b x.1 x.2.1 x.2.2) ((i : Int), acc, m) = some (acc ++ (text.drop i).flatMap (fu n.Decomp b)) := by
  intro d
  induction d with
  | zero =>
    intro i acc m h1 h2 h3 h4
    refine zK ?_
    rw [List.drop_of_length_le (show text.length ≤ i by omega)]
    simp only [jB, jT (show text.length ≤ i by omega), cond_false, List.flatMap_nil, List.append_nil]
  | succ d ih =>
    intro i acc m h1 h2 h3 h4
    have hi : i < text.length := by omega
    obtain ⟨m1, hr, r1⟩ := h.ex (b := b) text[i] m h4
    have hw1 := h.len b text[i]
    have ha : app acc (fu n.Decomp b text[i]) = some (acc ++ fu n.Decomp b text[i]) := zA3 (by omega)
    rw [zR (x' := (((i + 1 : Nat) : Int), acc ++ fu n.Decomp b text[i], m1)) (by
      simp only [jB, jI hi, cond_true, yA hi, zA, hr, ha, zV (k := i) (by omega)])]
    rw [ih (i + 1) (acc ++ fu n.Decomp b text[i]) m1 (by omega) (by omega) (by rw [List.length_append]; omega) r1, List.drop_eq_getElem_cons hi, List.flatMap_cons, List.append_assoc]
noncomputable def zE7 (n:Norm) (b:Bool) (text:List Int):List Int:=text.flatMap (fu (usN n).Decomp b)
theorem z2X {n:Norm} (hs:NSm n) (hok:zBQ n) {text:List Int} (ht:text.length≤2000) (b:Bool):jV n text b=vS (usN n).Classes (zE7 n b text):=by
 have h:=zSL hs hok
 unfold jV uM
 have hu:wK {Classes:=n.Classes,Decomp:=n.Decomp,Excluded:={Ranges:=n.Excluded.Ranges}}=some (usN n):=z2W hs hok
 have hlp:=zV5 h (b:=b) ht text.length 0 [] [] (by omega) (by omega) (by simp) (fun k v h=>by cases h)
 rw [List.drop_zero,List.nil_append] at hlp
 have hlp':zD (fun (x:Int×(List Int)×(List (Int×(List Int))))=>jB text (usN n) b x.1 x.2.1 x.2.2) (0,[],[])=some (zE7 n b text):=hlp
 rw [hu,zA,zA,hlp',zA]
 cases vS (usN n).Classes (zE7 n b text) <;> rfl
end Go.M
namespace Go.M
open Go.AV
section
variable (key:Int→Int)
def ltK (a b:Int):Bool:=decide (key a < key b)
def ltC (a b:Int):Bool:=decide (0 < key a)&&decide (key a < key b)
def srt (l:List Int):List Int:=wS (ltK key) l []
def csE (l:List Int):List Int:=wS (ltC key) l []
def rsE:List Int→List Int→List Int
 | [],run=>srt key run
 | x::t,run=>if key x=0 then srt key run++x::rsE t [] else rsE t (run++ [x])
end
section
variable {key:Int→Int}
theorem zZQ (l:List Int) (x:Int):srt key (l++ [x])=wV (ltK key) (srt key l).reverse x []:=by
 unfold srt wS
 rw [List.foldl_append]
 rfl
theorem zUC (l:List Int):Flt key l (srt key l):=by
 have:=zGE (key:=key) l []
 exact this
theorem zUD (l:List Int):(srt key l).length=l.length:=(zUC l).len.symm
theorem zUE {x:Int} (hx:0 < key x):∀(r q s:List Int),(∀y,q.head? =some y→key y=0)→wV (ltC key) (r++q) x s=q.reverse++wV (ltK key) r x s
 | [],q,s,hq=>by
  cases q with
  | nil=>rfl
  | cons y q=>
   have:ltC key x y=false:=by unfold ltC;rw [hq y rfl];simp;omega
   show wV (ltC key) (y::q) x s=_
   simp only [wV,this,Bool.false_eq_true,if_false]
 | y::r,q,s,hq=>by
  have e:ltC key x y=ltK key x y:=by unfold ltC ltK;simp [hx]
  show wV (ltC key) (y::(r++q)) x s=q.reverse++wV (ltK key) (y::r) x s
  simp only [wV,e]
  cases ltK key x y with
  | true=>simp only [if_true];exact zUE hx r q (y::s) hq
  | false=>simp
theorem zZR (hnn : ∀ x, 0 ≤ key x) : ∀ (t run p : List Int), (∀ y, p.reverse.head? = some y → key y = 0) → wS (ltC key) t (p ++ srt key run) = p ++ rsE key t run
  | [], run, p, _ => rfl
  | x :: t, run, p, hp => by
    show wS (ltC key) t (wV (ltC key) (p ++ srt key run).reverse x []) = p ++ rsE key (x :: t) run
    by_cases h0 : key x = 0
    · have e : ∀ r : List Int, wV (ltC key) r x [] = r.reverse ++ [x] := by
        intro r
        cases r with
        | nil => rfl
        | cons y r =>
          have : ltC key x y = false := by unfold ltC; rw [h0]; simp
          simp [wV, this]
      have ih := zZR hnn t [] (p ++ srt key run ++ [x]) (fun y hy => by simp at hy; rw [← hy]; exact h0)
      have e2 : srt key [] = [] := rfl
      rw [e2, List.append_nil] at ih
      rw [e, List.reverse_reverse, ih]
      simp [rsE, h0]
    · have hx : 0 < key x := by have := hnn x; omega
      rw [List.reverse_append, zUE hx _ _ _ hp, List.reverse_reverse, ← zZQ, zZR hnn t (run ++ [x]) p hp]
      simp [rsE, h0]
theorem z6I (hnn:∀x,0≤key x) (t:List Int):csE key t=rsE key t []:=by
 have:=zZR hnn t [] [] (fun y hy=>by cases hy)
 exact this
theorem zZS (t:List Int):(csE key t).Perm t:=by
 have:=zEV (ltC key) t []
 rw [List.nil_append] at this
 exact this
theorem z2Y (t:List Int):(csE key t).length=t.length:=(zZS t).length_eq
theorem zRA {f:List Int→Option (List Int)} {P run T r:List Int} (hpos:0 < run.length) (hf:f run=some r):zE2 f (P++run++T) (P.length:Int) ((P.length+run.length:Nat):Int)=some (P++r++T):=by
 unfold zE2
 have a1:((P.length:Int)).toNat=P.length:=by simp
 have a2:(((P.length+run.length:Nat):Int)).toNat=P.length+run.length:=by omega
 rw [a1,a2,if_pos ⟨by omega,by omega,by rw [List.length_append,List.length_append];omega⟩]
 have e1:((P++run++T).drop P.length).take (P.length+run.length - P.length)=run:=by
  rw [List.append_assoc,List.drop_left,show P.length+run.length - P.length=run.length by omega,List.take_left]
 have d1:(P++run++T).take P.length=P:=by rw [List.append_assoc,List.take_left]
 have d2:(P++run++T).drop (P.length+run.length)=T:=by rw [←List.length_append,List.drop_left]
 rw [e1,d1,d2,hf]
 rfl
theorem zUF {f : List Int → Option (List Int)} {st : Int → Bool} (hst : ∀ x, st x = decide (key x = 0)) (hf : ∀ l, l.length ≤ 2000 → f l = some (srt key l)) : ∀ (t run P : List Int) (s : Int), P.length + run.length + t.length ≤ 2000 → (run = [] ∧ s = -1 ∨ run ≠ [] ∧ s = (P.length : Int)) →
    wO f Range.Lo Range.Hi (P ++ run ++ t) (jC st t ((P.length + run.length : Nat) : Int) s) = some (P ++ rsE key t run)
  | [], run, P, s, hl, hs => by
    rcases hs with ⟨rfl, rfl⟩ | ⟨hne, rfl⟩
    · simp only [jC, show ¬ (0 : Int) ≤ -1 by decide, if_false]
      show some (P ++ [] ++ []) = some (P ++ [])
      simp
    · have h0 : (0 : Int) ≤ (P.length : Int) := by omega
      simp only [jC, h0, if_true]
      have hpos : 0 < run.length := List.length_pos_iff.2 hne
      show (some (P ++ run ++ [])).bind (fun l => zE2 f l (P.length : Int) ((P.length + run.length : Nat) : Int)) = _
      rw [zA, zRA hpos (hf run (by simp at hl; omega))]
      simp [rsE]
  | x :: t, run, P, s, hl, hs => by
    have hl' : P.length + run.length + t.length + 1 ≤ 2000 := by simp only [List.length_cons] at hl; omega
    by_cases h0 : key x = 0
    · have hsx : st x = true := by rw [hst]; simp [h0]
      rcases hs with ⟨rfl, rfl⟩ | ⟨hne, rfl⟩
      · have e : jC st (x :: t) ((P.length + ([] : List Int).length : Nat) : Int) (-1) = jC st t (((P ++ [x]).length + ([] : List Int).length : Nat) : Int) (-1) := by
          simp only [jC, hsx]
          simp
        have ih := zUF hst hf t [] (P ++ [x]) (-1) (by simp only [List.length_append, List.length_singleton, List.length_nil]; simp at hl'; omega) (.inl ⟨rfl, rfl⟩)
        rw [e, show P ++ [] ++ x :: t = P ++ [x] ++ [] ++ t by simp, ih]
        have e2 : srt key [] = [] := rfl
        simp [rsE, h0, e2]
      · have h00 : (0 : Int) ≤ (P.length : Int) := by omega
        have hpos : 0 < run.length := List.length_pos_iff.2 hne
        have e : jC st (x :: t) ((P.length + run.length : Nat) : Int) (P.length : Int) = { Lo := (P.length : Int), Hi := ((P.length + run.length : Nat) : Int) } :: jC st t (((P ++ srt key run ++ [x]).length + ([] : List Int).length : Nat) : Int) (-1) := by
          have e3 : (((P ++ srt key run ++ [x]).length + ([] : List Int).length : Nat) : Int) = ((P.length + run.length : Nat) : Int) + 1 := by simp [zUD]; omega
          rw [e3]
          simp only [jC, hsx, Bool.not_true, Bool.false_and, Bool.false_eq_true, if_false, Bool.true_and, h00, decide_true, if_true]
        have ih := zUF hst hf t [] (P ++ srt key run ++ [x]) (-1) (by simp [zUD]; omega) (.inl ⟨rfl, rfl⟩)
        have e4 : zE2 f (P ++ run ++ x :: t) (P.length : Int) ((P.length + run.length : Nat) : Int) = some (P ++ srt key run ++ [x] ++ [] ++ t) := by
          rw [zRA hpos (hf run (by omega))]
          simp
        have e5 : wO f Range.Lo Range.Hi (P ++ run ++ x :: t) ({ Lo := (P.length : Int), Hi := ((P.length + run.length : Nat) : Int) } :: jC st t (((P ++ srt key run ++ [x]).length + ([] : List Int).length : Nat) : Int) (-1)) = wO f Range.Lo Range.Hi (P ++ srt key run ++ [x] ++ [] ++ t) (jC st t (((P ++ srt key run ++ [x]).length + ([] : List Int).length : Nat) : Int) (-1)) := by
          unfold wO
          rw [List.foldl_cons, zA, e4]
        rw [e, e5, ih]
        simp [rsE, h0]
    · have hsx : st x = false := by rw [hst]; simp [h0]
      have e : jC st (x :: t) ((P.length + run.length : Nat) : Int) s = jC st t ((P.length + (run ++ [x]).length : Nat) : Int) (P.length : Int) := by
        have e3 : ((P.length + (run ++ [x]).length : Nat) : Int) = ((P.length + run.length : Nat) : Int) + 1 := by simp; omega
        rw [e3]
        rcases hs with ⟨rfl, rfl⟩ | ⟨hne, rfl⟩
        · simp [jC, hsx]
        · have : ¬ ((P.length : Int) < 0) := by omega
          simp only [jC, hsx, Bool.not_false, Bool.true_and, this, decide_false, Bool.false_eq_true, if_false, Bool.false_and]
      have ih := zUF hst hf t (run ++ [x]) P (P.length : Int) (by simp; omega) (.inr ⟨by simp, rfl⟩)
      rw [e, show P ++ run ++ x :: t = P ++ (run ++ [x]) ++ t by simp, ih]
      simp [rsE, h0]
end
theorem zZT {l:List Span} (h:CV l) (hl:l.length≤2000) (x y:Int):j6 x y l=some (sg (clE l x) (clE l y)):=by
 unfold j6
 simp only [zC8 h hl,zA,zVZ]
 unfold sg
 rfl
theorem z6J {l:List Span} (h:CV l) (hl:l.length≤2000) (hok:∀x∈l,okSpan x) {text:List Int} (ht:text.length≤2000):vS l text=some (csE (clE l) text):=by
 have hnn:∀x,0≤clE l x:=z8N h
 unfold vS vK
 have hst:∀x,(yZ l x==some 0)=decide (clE l x=0):=fun x=>by rw [zC8 h hl];by_cases hx:clE l x=0 <;> simp [hx]
 rw [zNF hl hok h,zA,z92 ht,zA,zQ1 h hl ht hst rfl,zA]
 have:=zUF (key:=clE l) (f:=fun p=>yU p (fun x0 x1=>j6 x0 x1 l)) (st:=fun c=>yZ l c==some 0) hst (fun p hp=>by
  obtain ⟨r,r1,r2,r3⟩:=zV4 (key:=clE l) (f:=fun x0 x1=>j6 x0 x1 l) (fun x y=>zZT h hl x y) p hp
  rw [r1]
  have:=zQ6 (key:=clE l) r2 (zI2 (key:=clE l) p) (r3.symm.trans (zUC p))
  rw [this]
  rfl) text [] [] (-1) (by simpa using ht) (.inl ⟨rfl,rfl⟩)
 rw [z6I hnn]
 exact this
noncomputable def uV (n:Norm) (b:Bool) (text:List Int):List Int:=csE (clE (usN n).Classes) (zE7 n b text)
theorem zLI (n:Norm) (b:Bool) (text:List Int):(uV n b text).length=(zE7 n b text).length:=z2Y _
theorem zV6 {n:Norm} (hs:NSm n) (hok:zBQ n) (b:Bool) (text:List Int):(zE7 n b text).length≤64*text.length:=zQ9 ((zSL hs hok).len b) text
theorem zRB {n:Norm} (hs:NSm n) (hok:zBQ n) {text:List Int} {b:Bool} (ht:text.length≤2000) (hf:(zE7 n b text).length≤2000):jV n text b=some (uV n b text):=by
 have h:=zSL hs hok
 rw [z2X hs hok ht,z6J h.cv (by have:=h.cl;omega) h.ok hf]
 rfl
end Go.M
namespace Go.M
open Go.AV
noncomputable def wkE (c:Collation) (l:List Span):Nat→List Int→List Element×Bool
 | 0,_=>([],true)
 | k+1,text=>if text= [] then ([],true) else ((stE c l text).2.2++(wkE c l k (stE c l text).2.1).1,decide (zAE (kU c).Entries text≠0)&&(wkE c l k (stE c l text).2.1).2)
theorem z6K {c:Collation} {l:List Span} {text:List Int} (h0:text≠[]):1≤(stE c l text).1∧(stE c l text).1+((stE c l text).2.1.length:Int)=(text.length:Int):=by
 have hpos:0 < text.length:=List.length_pos_iff.2 h0
 unfold stE
 split
 refine ⟨by simp,?_⟩
 show (1:Int)+((text.drop 1).length:Int)=_
 rw [List.length_drop];omega
 rename_i hz
 have hle:zAE (kU c).Entries text≤text.length:=zLG _ _
 have hinv:=zLH (fd:=fun q=>(zCM (kU c).Entries q).2) (cl:=clE l) (text.drop (zAE (kU c).Entries text)) (text.take (zAE (kU c).Entries text)) [] 0
 generalize zB9 (fun q=>(zCM (kU c).Entries q).2) (clE l) (text.drop (zAE (kU c).Entries text)) (text.take (zAE (kU c).Entries text)) [] 0=q at*
 obtain ⟨i1,i2,_⟩:=hinv
 rw [List.length_take,Nat.min_eq_left hle] at i1 i2
 rw [List.length_drop] at i2
 simp only [List.length_nil] at i2
 constructor
 show (1:Int)≤(q.1.length:Int);omega
 show (q.1.length:Int)+(q.2.length:Int)=_;omega
theorem zUG {c:Collation} {l:List Span} {text:List Int} (h0:text≠[]):(stE c l text).2.1.length < text.length:=by
 have:=z6K (c:=c) (l:=l) h0
 omega
theorem z4D {c:Collation} (hs:Sm c) {l:List Span} (text:List Int):(stE c l text).2.2.length≤2000:=by
 unfold stE
 split
 exact z2E _ _
 exact z2D (zY0 hs) _
theorem zUH {c:Collation} {l:List Span}:∀(k j:Nat) (text:List Int),text.length≤k→text.length≤j→wkE c l k text=wkE c l j text
 | 0,j,text,h,_=>by
  have:text= []:=List.eq_nil_of_length_eq_zero (by omega)
  subst this
  cases j with
  | zero=>rfl
  | succ j=>simp [wkE]
 | k+1,j,text,h,hj=>by
  by_cases h0:text= []
  subst h0
  cases j <;> simp [wkE]
  have hpos:0 < text.length:=List.length_pos_iff.2 h0
  cases j with
  | zero=>omega
  | succ j=>
   have hlt:=zUG (c:=c) (l:=l) h0
   simp only [wkE,h0,if_false]
   rw [zUH k j _ (by omega) (by omega)]
noncomputable def wk (c:Collation) (l:List Span) (text:List Int):List Element×Bool:=wkE c l text.length text
theorem zOO (c:Collation) (l:List Span):wk c l []=([],true):=rfl
theorem zUI {c:Collation} {l:List Span} {text:List Int} (h0:text≠[]):wk c l text=((stE c l text).2.2++(wk c l (stE c l text).2.1).1,decide (zAE (kU c).Entries text≠0)&&(wk c l (stE c l text).2.1).2):=by
 have hlt:=zUG (c:=c) (l:=l) h0
 unfold wk
 obtain ⟨k,hk⟩:∃k,text.length=k+1:=⟨text.length - 1,by have:=List.length_pos_iff.2 h0;omega⟩
 rw [hk]
 simp only [wkE,h0,if_false]
 rw [zUH k (stE c l text).2.1.length _ (by omega) (by omega)]
theorem z6L {c:Collation} (hs:Sm c) {l:List Span}:∀(k:Nat) (text:List Int),text.length≤k→(wk c l text).1.length≤2000*text.length:=by
 intro k
 induction k with
 | zero=>
  intro text h
  have:text= []:=List.eq_nil_of_length_eq_zero (by omega)
  subst this;rw [zOO];simp
 | succ k ih=>
  intro text h
  by_cases h0:text= []
  subst h0;rw [zOO];simp
  have hlt:=zUG (c:=c) (l:=l) h0
  have h1:=ih _ (show (stE c l text).2.1.length≤k by omega)
  have h2:=z4D hs (l:=l) text
  rw [zUI h0]
  show ((stE c l text).2.2++(wk c l (stE c l text).2.1).1).length≤_
  rw [List.length_append]
  omega
section
variable {c:Collation} (hs:Sm c) {l:List Span} (hcv:CV l) (hl:l.length≤2000)
include hs hcv hl
theorem z20:∀(k:Nat) (text:List Int) (acc:List Element),text.length≤k→text.length≤2000→acc.length+2000*text.length≤100000000→zD (fun (x:(List Element)×(List Int))=>jA (zF3 c l) x.1 x.2) (acc,text)=some (acc++(wk c l text).1):=by
 intro k
 induction k with
 | zero=>
  intro text acc h _ _
  have:text= []:=List.eq_nil_of_length_eq_zero (by omega)
  subst this
  refine zK ?_
  simp [jA,zOO]
 | succ k ih=>
  intro text acc h ht ha
  by_cases h0:text= []
  subst h0
  refine zK ?_
  simp [jA,zOO]
  have hpos:0 < text.length:=List.length_pos_iff.2 h0
  have hlt:=zUG (c:=c) (l:=l) h0
  have h2:=z4D hs (l:=l) text
  obtain ⟨seq,m1,m2⟩:=zZO hs hcv hl ht h0
  have e0:decide ((0:Int) < (text.length:Int))=true:=by simp;omega
  have ea:app acc (stE c l text).2.2=some (acc++(stE c l text).2.2):=zA3 (by omega)
  rw [zR (x':=(acc++(stE c l text).2.2,(stE c l text).2.1)) (by simp only [jA,e0,cond_true,m1,zA,ea,m2])]
  rw [ih _ _ (by omega) (by omega) (by rw [List.length_append];omega),zUI h0,List.append_assoc]
end
theorem zZU (n:Norm):wT n=(usN n).Classes:=by
 unfold wT usN
 split <;> rfl
section
variable {n:Norm} {c:Collation} (hn:NSm n) (hok:zBQ n) (hs:Sm c) (hg:∀g∈c.Groups,g.Name.length≤MX) {text:List Int} (ht:text.length≤2000) (hf:(zE7 n false text).length≤2000)
include hn hok hs hg ht hf
theorem zRC:wR n c text=some (wk c (wT n) (uV n false text)).1:=by
 unfold wR
 have hl:(wT n).length≤2000:=by have:=zNH hn;omega
 have hd:(uV n false text).length≤2000:=by rw [zLI];exact hf
 rw [z2B hs hg,zA,z2V hn hok,zA,zRB hn hok ht hf,zA,z20 hs (zZL n) hl _ _ [] (Nat.le_refl _) hd (by simp;omega)]
 rfl
end
theorem zZV {n:Norm} {c:Collation} (hs:Sm c) {text:List Int} (hd:(uV n false text).length≤2000):(wk c (wT n) (uV n false text)).1.length≤1000000000:=by
 have:=z6L hs (l:=wT n) _ (uV n false text) (Nat.le_refl _)
 omega
end Go.M
namespace Go.M
open Go.AV
end Go.M
namespace Go.M
open Go.AV
end Go.M
namespace Go.M
open Go.AV
end Go.M
namespace Go.M
open Go.AV
end Go.M
namespace Go.M
open Go.AV
def pM (c:Int) (b:Bool) (k:Nat) (m:Mapping):Option Nat:=if m.From=c∧(b ||(m.Tag== []))=true then some k else none
def fi (l:List Mapping) (c:Int) (b:Bool):Option Nat:=chk (pM c b) l 0
end Go.M
namespace Go.M
open Go.AV
section
variable {l:List Mapping} (hd:DS l) (hD:∀c,DD l l.length c) {b:Bool}
def lenOf (l:List Mapping) (b:Bool) (out:List Int) (e:Int):Int:=match fi l e b with
 | some m=>nth out m
 | none=>((hdE e).length:Int)
def updL (l:List Mapping) (b:Bool) (out:List Int) (i:Nat):Int:=if (b ||((nth l i).Tag== []))=true then min (max (((nth l i).To.map (lenOf l b out)).sum) 1) 65 else 1
include hd hD
end
end Go.M
namespace Go.M
open Go.AV
end Go.M
namespace Go.M
open Go.AV
end Go.M
namespace Go.M
open Go.AV
end Go.M
namespace Go.M
open Go.AV
end Go.M
namespace Go.M
open Go.AV
end Go.M
namespace Go.M
open Go.AV
end Go.M
namespace Go.M
open Go.AV
end Go.M
namespace Go.M
open Go.AV
def ckO (o:Options):Int:=if o.Strength < 1∨4 < o.Strength then 1 else if o.Variable < 1∨3 < o.Variable then 8 else 0
def uW (o:Options):Options:=if ckO o=0 then o else {Strength:=3,Variable:=1,Backward:=false,Identical:=false}
theorem zSO (o:Options):xI o=some (ckO o):=by
 unfold xI ckO
 rw [zT]
 by_cases h1:o.Strength < 1∨4 < o.Strength
 have:(decide (o.Strength < 1) ||decide (4 < o.Strength))=true:=by simpa using h1
 rw [this,if_pos h1];rfl
 have:(decide (o.Strength < 1) ||decide (4 < o.Strength))=false:=by simpa using h1
 rw [this,if_neg h1,cond_false]
 by_cases v1:o.Variable=1
 simp [v1]
 by_cases v2:o.Variable=2
 simp [v2]
 by_cases v3:o.Variable=3
 simp [v3]
 rw [if_pos (by omega)]
 simp [v1,v2,v3]
theorem zUJ (o:Options):xS o=some (uW o):=by
 unfold xS uW
 rw [zSO,zA]
 by_cases h:ckO o=0 <;> simp [h]
theorem zZW (o:Options):ckO (uW o)=0:=by
 unfold uW
 split
 assumption
 rfl
theorem zZX {o:Options} (h:ckO o=0):uW o=o:=by unfold uW;rw [if_pos h]
theorem z8Q {o:Options} (h:ckO o=0):1≤o.Strength∧o.Strength≤4∧1≤o.Variable∧o.Variable≤3:=by
 unfold ckO at h
 split at h
 cases h
 split at h
 cases h
 omega
def nz (x:Int):List Int:=if x=0 then [] else [x]
def col:Nat→A4Int→Int
 | 0,w=>w.x0
 | 1,w=>w.x1
 | 2,w=>w.x2
 | _,w=>w.x3
def row (k:Nat) (L:List A4Int):List Int:=L.flatMap fun w=>nz (col k w)
def zOP (f:Bool) (e:Element):Bool:=if e.Variable=true∨e.Primary≠0 then e.Variable else f
def zRD (e:Element):Prop:=e.Primary=0∧e.Secondary=0∧e.Tertiary=0
instance (e:Element):Decidable (zRD e):=by unfold zRD;infer_instance
def tr1 (v:Int) (f:Bool) (e:Element):A4Int:=
 if v=1 then {x0:=e.Primary,x1:=e.Secondary,x2:=e.Tertiary,x3:=if zRD e then 0 else 65535}
 else if zOP f e=true then {x0:=0,x1:=0,x2:=0,x3:=if v=3∧e.Variable=true then e.Primary else 0}
 else {x0:=e.Primary,x1:=e.Secondary,x2:=e.Tertiary,x3:=if v=3∧¬zRD e then 65535 else 0}
def trL (v:Int):Bool→List Element→List A4Int
 | _,[]=>[]
 | f,e::l=>tr1 v f e::trL v (zOP f e) l
theorem zOQ (v:Int):∀(l:List Element) (f:Bool),(trL v f l).length=l.length
 | [],_=>rfl
 | e::l,f=>by simp [trL,zOQ v l]
theorem zZZ {v:Int} (hv:1≤v∧v≤3) (e:Element) (f:Bool):xZ e v f=some (tr1 v f e,if v=1 then f else zOP f e):=by
 obtain ⟨p,s,t,va⟩:=e
 unfold xZ tr1 zOP zRD
 rcases (by omega:v=1∨v=2∨v=3) with rfl | rfl | rfl <;> cases va <;> cases f <;> by_cases hp:p=0 <;> by_cases hs:s=0 <;> by_cases ht:t=0 <;> simp [hp,hs,ht]
theorem z8R (f g:Bool) (e:Element):tr1 1 f e=tr1 1 g e:=rfl
theorem z4E:∀(l:List Element) (f g:Bool),trL 1 f l=trL 1 g l
 | [],_,_=>rfl
 | e::l,f,g=>by
  show tr1 1 f e::trL 1 _ l=tr1 1 g e::trL 1 _ l
  rw [z8R f g,z4E l (zOP f e) (zOP g e)]
theorem zZ0 (x:Int):(nz x).length≤1:=by unfold nz;split <;> simp
theorem zOR {r:List Int} {x:Int} (h:r.length+1≤4294967296):(cond (!decide (x=0)) ((app r [x]).bind fun q=>some q) (some r))=some (r++nz x):=by
 unfold nz
 by_cases hx:x=0
 simp [hx]
 simp only [hx,decide_false,Bool.not_false,cond_true,if_false]
 rw [zA3 (by simpa using h)];rfl
theorem wl1 (t : A4Int × Bool) {r0 r1 r2 r3 : List Int} {n : Nat} (hn : n + 1 ≤ 4294967296) (h0 : r0.length ≤ n) (h1 : r1.length ≤ n) (h2 : r2.length ≤ n) (h3 : r3.length ≤ n) :
    zD (fun (x : Int × (List Int) × (List Int) × (List Int) × (List Int)) => kX t x.1 x.2.1 x.2.2.1 x.2.2.2.1 x.2.2.2.2) (0, r0, r1, r2, r3) = some (r0 ++ nz t.1.x0, r1 ++ nz t.1.x1, r2 ++ nz t.1.x2, r3 ++ nz t.1.x3) := by
  have i0 : kM [t.1.x0, t.1.x1, t.1.x2, t.1.x3] (0 : Int) = some t.1.x0 := rfl
  have i1 : kM [t.1.x0, t.1.x1, t.1.x2, t.1.x3] (1 : Int) = some t.1.x1 := rfl
  have i2 : kM [t.1.x0, t.1.x1, t.1.x2, t.1.x3] (2 : Int) = some t.1.x2 := rfl
  have i3 : kM [t.1.x0, t.1.x1, t.1.x2, t.1.x3] (3 : Int) = some t.1.x3 := rfl
  rw [zR (x' := (1, r0 ++ nz t.1.x0, r1, r2, r3)) (by
    simp only [kX, i0, zA, zOR (x := t.1.x0) (show r0.length + 1 ≤ 4294967296 by omega)]; rfl)]
  rw [zR (x' := (2, r0 ++ nz t.1.x0, r1 ++ nz t.1.x1, r2, r3)) (by
    simp only [kX, i1, zA, zOR (x := t.1.x1) (show r1.length + 1 ≤ 4294967296 by omega)]; rfl)]
  rw [zR (x' := (3, r0 ++ nz t.1.x0, r1 ++ nz t.1.x1, r2 ++ nz t.1.x2, r3)) (by
    simp only [kX, i2, zA, zOR (x := t.1.x2) (show r2.length + 1 ≤ 4294967296 by omega)]; rfl)]
  rw [zR (x' := (4, r0 ++ nz t.1.x0, r1 ++ nz t.1.x1, r2 ++ nz t.1.x2, r3 ++ nz t.1.x3)) (by
    simp only [kX, i3, zA, zOR (x := t.1.x3) (show r3.length + 1 ≤ 4294967296 by omega)]; rfl)]
  exact zK (by simp only [kX]; rfl)
theorem wl0 {l : List Element} {o : Options} (hv : 1 ≤ o.Variable ∧ o.Variable ≤ 3) (hl : l.length ≤ 4000000000) : ∀ (m k : Nat) (f : Bool) (r0 r1 r2 r3 : List Int), k + m = l.length → r0.length ≤ k → r1.length ≤ k → r2.length ≤ k → r3.length ≤ k →
    zD (fun (x : Int × Bool × (List Int) × (List Int) × (List Int) × (List Int)) => xH l o x.1 x.2.1 x.2.2.1 x.2.2.2.1 x.2.2.2.2.1 x.2.2.2.2.2) ((k : Int), f, r0, r1, r2, r3) =
      some (r0 ++ row 0 (trL o.Variable f (l.drop k)), r1 ++ row 1 (trL o.Variable f (l.drop k)), r2 ++ row 2 (trL o.Variable f (l.drop k)), r3 ++ row 3 (trL o.Variable f (l.drop k)))
  | 0, k, f, r0, r1, r2, r3, h, _, _, _, _ => by
    rw [List.drop_of_length_le (by omega)]
    refine zK ?_
    simp only [xH, jT (show l.length ≤ k by omega), cond_false, trL, row, List.flatMap_nil, List.append_nil]
  | m + 1, k, f, r0, r1, r2, r3, h, h0, h1, h2, h3 => by
    have hk : k < l.length := by omega
    have q : ∀ {r : List Int} (x : Int), r.length ≤ k → (r ++ nz x).length ≤ k + 1 := fun x hr => by rw [List.length_append]; have := zZ0 x; omega
    rw [zR (x' := (((k + 1 : Nat) : Int), (if o.Variable = 1 then f else zOP f l[k]), r0 ++ nz (tr1 o.Variable f l[k]).x0, r1 ++ nz (tr1 o.Variable f l[k]).x1, r2 ++ nz (tr1 o.Variable f l[k]).x2, r3 ++ nz (tr1 o.Variable f l[k]).x3)) (by
      simp only [xH, jI hk, cond_true, yA hk, zA, zZZ hv, wl1 _ (n := k) (by omega) h0 h1 h2 h3, zV (k := k) (by omega)])]
    rw [wl0 hv hl m (k + 1) _ _ _ _ _ (by omega) (q _ h0) (q _ h1) (q _ h2) (q _ h3), List.drop_eq_getElem_cons hk]
    have e : trL o.Variable (if o.Variable = 1 then f else zOP f l[k]) (l.drop (k + 1)) = trL o.Variable (zOP f l[k]) (l.drop (k + 1)) := by
      by_cases h1 : o.Variable = 1
      · rw [h1]; exact z4E _ _ _
      · rw [if_neg h1]
    rw [e]
    simp [trL, row, col]
theorem zZ1 : ∀ (n : Nat) (a m b : List Int), m.length = n → a.length = b.length → a.length + m.length + b.length ≤ 9000000000000000000 →
    zD (fun (x : Int × Int × (List Int)) => kW x.1 x.2.1 x.2.2) ((a.length : Int), ((a.length + m.length : Nat) : Int) - 1, a ++ m ++ b) = some (a ++ m.reverse ++ b) := by
  intro n
  induction n using Nat.strongRecOn with
  | ind n ih =>
    intro a m b hn hab hb
    by_cases h2 : m.length ≤ 1
    · have e : decide ((a.length : Int) < ((a.length + m.length : Nat) : Int) - 1) = false := by simp; omega
      refine zK ?_
      have hr : m.reverse = m := by
        match m, h2 with
        | [], _ => rfl
        | [x], _ => rfl
      simp only [kW, e, cond_false, hr]
    · obtain ⟨x, m1, rfl⟩ := List.exists_cons_of_ne_nil (l := m) (fun e => by rw [e] at h2; simp at h2)
      have hm1 : m1 ≠ [] := fun e => by rw [e] at h2; simp at h2
      obtain ⟨m2, y, rfl⟩ : ∃ m2 y, m1 = m2 ++ [y] := ⟨m1.dropLast, m1.getLast hm1, (List.dropLast_concat_getLast hm1).symm⟩
      simp only [List.length_cons, List.length_append, List.length_nil] at hn hb h2
      have e : decide ((a.length : Int) < ((a.length + (x :: (m2 ++ [y])).length : Nat) : Int) - 1) = true := by simp; omega
      have ej : ((a.length + (x :: (m2 ++ [y])).length : Nat) : Int) - 1 = ((a.length + 1 + m2.length : Nat) : Int) := by simp; omega
      have g1 : kM (a ++ (x :: (m2 ++ [y])) ++ b) (((a.length + 1 + m2.length : Nat) : Int)) = some y := by
        rw [yA (by simp; omega)]; congr 1
        rw [List.getElem_append_left (by simp; omega), List.getElem_append_right (by omega)]
        simp only [show a.length + 1 + m2.length - a.length = m2.length + 1 by omega, List.getElem_cons_succ]
        rw [List.getElem_append_right (by omega)]; simp
      have g2 : kM (a ++ (x :: (m2 ++ [y])) ++ b) ((a.length : Nat) : Int) = some x := by
        rw [yA (by simp)]; congr 1
        rw [List.getElem_append_left (by simp), List.getElem_append_right (by omega)]; simp
      have s1 : u3 (a ++ (x :: (m2 ++ [y])) ++ b) ((a.length : Nat) : Int) y = some (a ++ (y :: (m2 ++ [y])) ++ b) := by
        rw [zK8 (by simp)]; congr 1; simp
      have g3 : kM (a ++ (y :: (m2 ++ [y])) ++ b) (((a.length + 1 + m2.length : Nat) : Int)) = some y := by
        rw [yA (by simp; omega)]; congr 1
        rw [List.getElem_append_left (by simp; omega), List.getElem_append_right (by omega)]
        simp only [show a.length + 1 + m2.length - a.length = m2.length + 1 by omega, List.getElem_cons_succ]
        rw [List.getElem_append_right (by omega)]; simp
      have s2 : u3 (a ++ (y :: (m2 ++ [y])) ++ b) (((a.length + 1 + m2.length : Nat) : Int)) x = some ((a ++ [y]) ++ m2 ++ (x :: b)) := by
        rw [zK8 (by simp; omega)]; congr 1
        have e1 : a ++ (y :: (m2 ++ [y])) ++ b = (a ++ y :: m2) ++ y :: b := by simp
        rw [e1, show a.length + 1 + m2.length = (a ++ y :: m2).length by simp; omega, List.set_append_right _ _ (Nat.le_refl _)]
        simp
      rw [zR (x' := (((a ++ [y]).length : Int), (((a ++ [y]).length + m2.length : Nat) : Int) - 1, (a ++ [y]) ++ m2 ++ (x :: b))) (by
        simp only [kW, e, cond_true]
        rw [ej]
        simp only [g1, g2, s1, g3, s2, zA]
        rw [zV (k := a.length) (by omega), u2 (by omega) (by omega)]
        simp only [List.length_append, List.length_cons, List.length_nil])]
      rw [ih m2.length (by omega) (a ++ [y]) m2 (x :: b) rfl (by simp; omega) (by simp; omega)]
      simp
theorem z6M {l:List Int} (h:l.length≤4294967296):jJ l=some l.reverse:=by
 unfold jJ
 have:=zZ1 l.length [] l [] rfl rfl (by simp;omega)
 simp only [List.nil_append,List.append_nil,List.length_nil,Nat.zero_add] at this
 rw [u2 (by omega) (by omega)]
 rw [show ((0:Nat):Int)=0 from rfl] at this
 rw [this];rfl
def z21 (b:Bool) (l:List Int):List Int:=if b=true then l.reverse else l
def rows (b:Bool) (L:List A4Int):List (List Int):=[row 0 L,z21 b (row 1 L),row 2 L,row 3 L]
def wts (l:List Element) (o:Options):List (List Int):=(rows o.Backward (trL o.Variable false l)).take o.Strength.toNat
theorem zOS (k:Nat):∀(L:List A4Int),(row k L).length≤L.length
 | []=>by simp [row]
 | w::L=>by
  have:=zOS k L
  have h2:=zZ0 (col k w)
  simp only [row,List.flatMap_cons,List.length_append,List.length_cons] at this ⊢
  omega
theorem zLJ {l:List Element} (hl:l.length≤4000000000) (o:Options):vC l o=some (wts l (uW o)):=by
 have hb:=z8Q (zZW o)
 unfold vC wts
 have e0:({Strength:=o.Strength,Variable:=o.Variable,Backward:=o.Backward,Identical:=o.Identical}:Options)=o:=rfl
 rw [e0,zUJ,zA]
 generalize uW o=q at*
 have hw:=wl0 (l:=l) (o:=q) hb.2.2 hl l.length 0 false [] [] [] [] (by omega) (by simp) (by simp) (by simp) (by simp)
 simp only [List.drop_zero,List.nil_append] at hw
 rw [show ((0:Nat):Int)=0 from rfl] at hw
 unfold uZ
 rw [zA,hw,zA]
 have hr:(cond q.Backward ((jJ (row 1 (trL q.Variable false l))).bind fun t45=>some t45) (some (row 1 (trL q.Variable false l))))=some (z21 q.Backward (row 1 (trL q.Variable false l))):=by
  cases q.Backward with
  | false=>rfl
  | true=>
   have:=zOS 1 (trL q.Variable false l)
   rw [zOQ] at this
   rw [cond_true,z6M (by omega)];rfl
 simp only [hr,zA]
 have hs:q.Strength=((q.Strength.toNat:Nat):Int):=by omega
 have hsl:slc [row 0 (trL q.Variable false l),z21 q.Backward (row 1 (trL q.Variable false l)),row 2 (trL q.Variable false l),row 3 (trL q.Variable false l)] 0 q.Strength=some ((rows q.Backward (trL q.Variable false l)).take q.Strength.toNat):=by
  rw [hs,zEB (by simp;omega)];rfl
 rw [hsl,zA,zA3 (by simp [rows];omega)]
 rfl
end Go.M
namespace Go.M
open Go.AV
theorem zZ2 {l:List Element} {o:Options} {x:List Int} (h:x∈wts l o):x.length≤l.length:=by
 unfold wts at h
 have h:=List.mem_of_mem_take h
 have key:∀k,(row k (trL o.Variable false l)).length≤l.length:=fun k=>by have:=zOS k (trL o.Variable false l);rwa [zOQ] at this
 simp only [rows,List.mem_cons,List.not_mem_nil,or_false] at h
 rcases h with rfl | rfl | rfl | rfl
 exact key 0
 unfold z21;split
 rw [List.length_reverse];exact key 1
 exact key 1
 exact key 2
 exact key 3
end Go.M
namespace Go.M
open Go.AV
def jn:Nat→List Int→List (List Int)→List Int
 | _,acc,[]=>acc
 | k,acc,x::xs=>jn (k+1) ((if 0 < k then acc++ [0] else acc)++x) xs
theorem zSP {N:Nat}:∀(l:List (List Int)) (k:Nat) (acc:List Int),(∀x∈l,x.length≤N)→(jn k acc l).length≤acc.length+l.length*(N+1)
 | [],_,acc,_=>by simp [jn]
 | x::xs,k,acc,h=>by
  have h1:=h x (by simp)
  have h2:=zSP xs (k+1) ((if 0 < k then acc++ [0] else acc)++x) (fun y hy=>h y (by simp [hy]))
  have h3:((if 0 < k then acc++ [0] else acc)++x).length≤acc.length+1+N:=by
   split <;> simp <;> omega
  simp only [jn,List.length_cons,Nat.add_mul]
  omega
theorem zZ3:∀(l m:List (List Int)) (k:Nat) (acc:List Int),jn k acc (l++m)=jn (k+l.length) (jn k acc l) m
 | [],m,k,acc=>rfl
 | x::l,m,k,acc=>by
  simp only [List.cons_append,jn,List.length_cons]
  rw [zZ3 l m (k+1),show k+1+l.length=k+(l.length+1) by omega]
theorem zZ4:∀(l:List (List Int)) (k:Nat) (acc:List Int),∃t,jn k acc l=acc++t
 | [],_,acc=>⟨[],by simp [jn]⟩
 | x::xs,k,acc=>by
  obtain ⟨t,ht⟩:=zZ4 xs (k+1) ((if 0 < k then acc++ [0] else acc)++x)
  simp only [jn]
  rw [ht]
  split
  exact ⟨[0]++x++t,by simp⟩
  exact ⟨x++t,by simp⟩
theorem yAE {acc:List Int} {k:Nat} (h:acc.length+1≤4294967296):(cond (decide ((0:Int) < (k:Int))) ((app acc [0]).bind fun q=>some q) (some acc))=some (if 0 < k then acc++ [0] else acc):=by
 by_cases hk:0 < k
 have e:decide ((0:Int) < (k:Int))=true:=by simp;omega
 rw [e,cond_true,zA3 (by simpa using h),if_pos hk];rfl
 have e:decide ((0:Int) < (k:Int))=false:=by simp;omega
 rw [e,cond_false,if_neg hk]
section
variable {l:List (List Int)} {N:Nat} (hN:∀x∈l,x.length≤N) (hl:l.length≤1000000)
include hN hl
theorem z8S:∀(m k:Nat) (acc:List Int),k+m=l.length→acc.length+m*(N+1)≤4294967296→zD (fun (x:Int×(List Int))=>uF l x.1 x.2) ((k:Int),acc)=some (jn k acc (l.drop k))
 | 0,k,acc,h,_=>by
  rw [List.drop_of_length_le (by omega)]
  refine zK ?_
  simp only [uF,jT (show l.length≤k by omega),cond_false,jn]
 | m+1,k,acc,h,ha=>by
  have hk:k < l.length:=by omega
  have hx:=hN _ (List.getElem_mem hk)
  rw [Nat.add_mul] at ha
  have h3:(if 0 < k then acc++ [0] else acc).length≤acc.length+1:=by split <;> simp
  rw [zR (x':=(((k+1:Nat):Int),(if 0 < k then acc++ [0] else acc)++l[k])) (by
   simp only [uF,jI hk,cond_true,yA hk,zA,yAE (k:=k) (show acc.length+1≤4294967296 by omega),zA3 (show (if 0 < k then acc++ [0] else acc).length+l[k].length≤4294967296 by omega),zV (k:=k) (by omega)])]
  rw [z8S m (k+1) _ (by omega) (by rw [List.length_append];omega),List.drop_eq_getElem_cons hk]
  rfl
end
def idn (t:List Int):List Int:=t.flatMap fun c=>if 0≤c∧c≤1114111 then [c+1] else []
theorem z6O (c : Int) {acc : List Int} (h : acc.length + 1 ≤ 4294967296) : (cond (decide (0 ≤ c) && decide (c ≤ 1114111)) ((app acc [wi (c + 1)]).bind fun q => some q) (some acc)) = some (acc ++ if 0 ≤ c ∧ c ≤ 1114111 then [c + 1] else []) := by
  by_cases hc : 0 ≤ c ∧ c ≤ 1114111
  · have e : (decide (0 ≤ c) && decide (c ≤ 1114111)) = true := by simpa using hc
    rw [e, cond_true, zA3 (by simpa using h), if_pos hc, u2 (by omega) (by omega)]; rfl
  · have e : (decide (0 ≤ c) && decide (c ≤ 1114111)) = false := by
      cases h : (decide (0 ≤ c) && decide (c ≤ 1114111)) with
      | false => rfl
      | true => exact absurd (by simpa using h) hc
    rw [e, cond_false, if_neg hc, List.append_nil]
theorem zUK (c:Int):(if 0≤c∧c≤1114111 then [c+1] else ([]:List Int)).length≤1:=by split <;> simp
theorem z8T {t:List Int} (hl:t.length≤1000000):∀(m k:Nat) (acc:List Int),k+m=t.length→acc.length+m≤4294967296→zD (fun (x:Int×(List Int))=>uG t x.1 x.2) ((k:Int),acc)=some (acc++idn (t.drop k))
 | 0,k,acc,h,_=>by
  rw [List.drop_of_length_le (by omega)]
  refine zK ?_
  simp only [uG,jT (show t.length≤k by omega),cond_false,idn,List.flatMap_nil,List.append_nil]
 | m+1,k,acc,h,ha=>by
  have hk:k < t.length:=by omega
  have h1:=zUK t[k]
  rw [zR (x':=(((k+1:Nat):Int),acc++if 0≤t[k]∧t[k]≤1114111 then [t[k]+1] else [])) (by
   simp only [uG,jI hk,cond_true,yA hk,zA,zT,z6O t[k] (show acc.length+1≤4294967296 by omega),zV (k:=k) (by omega)])]
  rw [z8T hl m (k+1) _ (by omega) (by rw [List.length_append];omega),List.drop_eq_getElem_cons hk]
  simp only [idn,List.flatMap_cons,List.append_assoc]
def zHF (o:Options) (el:List Element) (t:List Int):List Int:=jn 0 [] (wts el o)++if o.Identical=true then [0]++idn t else []
theorem zUL (l:List Element) (o:Options):(wts l o).length≤4:=by unfold wts;simp [rows];omega
theorem z22 (o:Options):uW (uW o)=uW o:=zZX (zZW o)
section
variable {n:Norm} {c:Collation} (hn:NSm n) (hok:zBQ n) (hs:Sm c) (hg:∀g∈c.Groups,g.Name.length≤MX) {text:List Int} (ht:text.length≤2000) (hf:(zE7 n false text).length≤2000)
include hn hok hs hg ht hf
theorem zZ5 (o:Options):zAC n c o text=some (zHF (uW o) (wk c (wT n) (uV n false text)).1 (uV n false text)):=by
 unfold zAC zHF
 have hd:(uV n false text).length≤2000:=by rw [zLI];exact hf
 have hel:=zZV (n:=n) hs (text:=text) hd
 rw [show ({Strength:=o.Strength,Variable:=o.Variable,Backward:=o.Backward,Identical:=o.Identical}:Options)=o from rfl,zUJ,zA,zRC hn hok hs hg ht hf,zA,show ({Strength:=(uW o).Strength,Variable:=(uW o).Variable,Backward:=(uW o).Backward,Identical:=(uW o).Identical}:Options)=uW o from rfl,zLJ (by omega),z22,zA]
 generalize (wk c (wT n) (uV n false text)).1=el at*
 have h4:=zUL el (uW o)
 have hN:∀x∈wts el (uW o),x.length≤1000000000:=fun x hx=>Nat.le_trans (zZ2 hx) hel
 have hk0:=z8S hN (by omega) (wts el (uW o)).length 0 [] (by omega) (by simp;omega)
 rw [show ((0:Nat):Int)=0 from rfl,List.drop_zero] at hk0
 have hjl:=zSP (wts el (uW o)) 0 [] hN
 simp only [List.length_nil] at hjl
 rw [hk0,zA]
 cases hi:(uW o).Identical with
 | false=>simp
 | true=>
  have h5:(jn 0 [] (wts el (uW o))).length≤4000000004:=by omega
  rw [Bool.not_true,cond_false,zA3 (by simp;omega),zA,zRB hn hok ht hf,zA]
  have hk1:=z8T (t:=uV n false text) (by omega) (uV n false text).length 0 (jn 0 [] (wts el (uW o))++ [0]) (by omega) (by simp;omega)
  rw [show ((0:Nat):Int)=0 from rfl,List.drop_zero] at hk1
  rw [hk1,zA,if_pos rfl,List.append_assoc]
theorem zV7 (o:Options) (s:Int):jW n c o text s=some (zHF (uW {Strength:=s,Variable:=o.Variable,Backward:=o.Backward,Identical:=false}) (wk c (wT n) (uV n false text)).1 (uV n false text)):=by
 unfold jW
 rw [zZ5 hn hok hs hg ht hf,zA]
omit hn hok hg ht in
theorem zZ6 (o:Options):(zHF (uW o) (wk c (wT n) (uV n false text)).1 (uV n false text)).length≤4611686018427387904:=by
 have hd:(uV n false text).length≤2000:=by rw [zLI];exact hf
 have hel:=zZV (n:=n) hs (text:=text) hd
 unfold zHF
 generalize (wk c (wT n) (uV n false text)).1=el at*
 have h4:=zUL el (uW o)
 have hjl:=zSP (wts el (uW o)) 0 [] (N:=1000000000) (fun x hx=>Nat.le_trans (zZ2 hx) hel)
 have hid:∀t:List Int,(idn t).length≤t.length:=by
  intro t
  induction t with
  | nil=>simp [idn]
  | cons x t ih=>
   have:=zUK x
   simp only [idn,List.flatMap_cons,List.length_append,List.length_cons] at ih ⊢
   omega
 have:=hid (uV n false text)
 simp only [List.length_nil] at hjl
 rw [List.length_append]
 split <;> simp <;> omega
end
def nZ:Norm:={Classes:=[],Decomp:=[],Excluded:={Ranges:=[]}}
def cZ:Collation:={Entries:=[{Codes:=[97],Elements:=[{Primary:=16,Secondary:=32,Tertiary:=2,Variable:=false}]},{Codes:=[98],Elements:=[{Primary:=17,Secondary:=32,Tertiary:=2,Variable:=false}]}],Groups:=[],Base:=100,Second:=32,Third:=2}
theorem yAF:NSm nZ:=⟨by decide,by decide,fun m hm=>(by cases hm),fun m hm=>(by cases hm),by decide⟩
theorem z8U:zBQ nZ:=by unfold zBQ okSpan zX2 nZ;simp
theorem yAG:Sm cZ:=⟨by decide,by decide,by decide,by decide⟩
theorem zZ7:usN nZ=nZ:=by unfold usN;split <;> rfl
theorem z8V:wT nZ= []:=by rw [zZU,zZ7];rfl
theorem zUM:zE7 nZ false [97,98]= [97,98]:=by unfold zE7;rw [zZ7];decide
theorem z6P:uV nZ false [97,98]= [97,98]:=by unfold uV;rw [zUM,zZ7];decide
theorem z8W:(wk cZ [] [97,98]).1= [{Primary:=16,Secondary:=32,Tertiary:=2,Variable:=false},{Primary:=17,Secondary:=32,Tertiary:=2,Variable:=false}]:=by decide
end Go.M
namespace Go.M
open Go.AV
theorem z6Q:zAZ [258]=some [0,0,1,2]:=by
 unfold zAZ
 have h0:zD (fun (x:Int×(List Int))=>zAL [258] x.1 x.2) (0,[])=some [0,0,1,2]:=by
  rw [zR (x':=(1,[0,0,1,2])) (by rfl)]
  exact zK (by rfl)
 rw [h0];decide
theorem z23:zA8=some true:=by
 unfold zA8
 have hw:=zLJ (l:=[({Primary:=16,Secondary:=32,Tertiary:=2,Variable:=false}:Element),({Primary:=17,Secondary:=32,Tertiary:=2,Variable:=false}:Element)]) (by simp) ({Strength:=2,Variable:=1,Backward:=false,Identical:=false}:Options)
 rw [hw,zA]
 have hk:=zZ5 yAF z8U yAG (fun g hg=>by cases hg) (text:=[97,98]) (by simp) (by rw [zUM];simp) ({Strength:=2,Variable:=1,Backward:=false,Identical:=false}:Options)
 rw [z8V,z6P,z8W] at hk
 have hv:zHF (uW ({Strength:=2,Variable:=1,Backward:=false,Identical:=false}:Options)) [{Primary:=16,Secondary:=32,Tertiary:=2,Variable:=false},{Primary:=17,Secondary:=32,Tertiary:=2,Variable:=false}] [97,98]= [16,17,0,32,32]:=by decide
 rw [hv] at hk
 have s1:slc [({Primary:=16,Secondary:=32,Tertiary:=2,Variable:=false}:Element),({Primary:=17,Secondary:=32,Tertiary:=2,Variable:=false}:Element)] 0 1=some [{Primary:=16,Secondary:=32,Tertiary:=2,Variable:=false}]:=by decide
 have s2:slc [({Primary:=16,Secondary:=32,Tertiary:=2,Variable:=false}:Element),({Primary:=17,Secondary:=32,Tertiary:=2,Variable:=false}:Element)] 1 ([({Primary:=16,Secondary:=32,Tertiary:=2,Variable:=false}:Element),({Primary:=17,Secondary:=32,Tertiary:=2,Variable:=false}:Element)].length)=some [{Primary:=17,Secondary:=32,Tertiary:=2,Variable:=false}]:=by decide
 rw [s1,zA,s2,zA]
 have hk':zAC ({Classes:=[],Decomp:=[],Excluded:=(({Ranges:=[]}):Set)}:Norm) ({Entries:=[({Codes:=[97],Elements:=[{Primary:=16,Secondary:=32,Tertiary:=2,Variable:=false}]}:Entry),({Codes:=[98],Elements:=[{Primary:=17,Secondary:=32,Tertiary:=2,Variable:=false}]}:Entry)],Groups:=[],Base:=100,Second:=32,Third:=2}:Collation) ({Strength:=2,Variable:=1,Backward:=false,Identical:=false}:Options) [97,98]=some [16,17,0,32,32]:=hk
 have c1:xI ({Strength:=0,Variable:=0,Backward:=false,Identical:=false}:Options)=some 1:=by rw [zSO];decide
 have c2:xI ({Strength:=1,Variable:=0,Backward:=false,Identical:=false}:Options)=some 8:=by rw [zSO];decide
 have w2:(wts [({Primary:=16,Secondary:=32,Tertiary:=2,Variable:=false}:Element),({Primary:=17,Secondary:=32,Tertiary:=2,Variable:=false}:Element)] (uW ({Strength:=2,Variable:=1,Backward:=false,Identical:=false}:Options))).length=2:=by decide
 have e1:zAD [16,17,0,32,32] [16,17,0,32,32]=some true:=by rw [zQQ (by simp)];simp
 rw [hk',zA,zT,w2]
 simp only [e1,z6Q,c1,c2,zT,zBG,zA,Bool.and_self,decide_true,BEq.rfl,show decide (((2:Nat):Int)=2)=true from rfl]
theorem zZ8 {l:List Element} {o:Options} {low:Int} (h:ckO o=0) (h1:1≤low) (h2:low≤o.Strength):wts l {Strength:=low,Variable:=o.Variable,Backward:=o.Backward,Identical:=o.Identical}=(wts l o).take low.toNat:=by
 unfold wts
 rw [List.take_take,Nat.min_eq_left (by omega)]
end Go.M
namespace Go.M
open Go.AV
theorem s22 {n:Norm} (hl:n.Decomp.length≤40):∀(m k:Nat),k+m=n.Decomp.length→∃y,zD (fun (x:Int)=>xP n x) (k:Int)=some y∧(y= .inr false∨(y= .inl ()∧∀x∈n.Decomp.drop k,x.To.length≤70∧x.Tag.length≤40))
 | 0,k,h=>⟨.inl (),zK (by simp only [xP,jT (show n.Decomp.length≤k by omega),cond_false]),.inr ⟨rfl,by rw [List.drop_of_length_le (by omega)];intro x hx;cases hx⟩⟩
 | m+1,k,h=>by
  have hk:k < n.Decomp.length:=by omega
  by_cases h1:70 < n.Decomp[k].To.length
  have e:decide ((70:Int) < (n.Decomp[k].To.length:Int))=true:=by simp;omega
  exact ⟨.inr false,zK (by simp only [xP,jI hk,cond_true,yA hk,zA,zT,e,Bool.not_true,zEC,Bool.true_or]),.inl rfl⟩
  have e:decide ((70:Int) < (n.Decomp[k].To.length:Int))=false:=by simp;omega
  by_cases h2:40 < n.Decomp[k].Tag.length
  have e2:decide ((40:Int) < (n.Decomp[k].Tag.length:Int))=true:=by simp;omega
  exact ⟨.inr false,zK (by simp only [xP,jI hk,cond_true,yA hk,zA,zT,e,Bool.not_false,zBG,e2,Bool.or_true]),.inl rfl⟩
  have e2:decide ((40:Int) < (n.Decomp[k].Tag.length:Int))=false:=by simp;omega
  obtain ⟨y,h3,h4⟩:=s22 hl m (k+1) (by omega)
  refine ⟨y,?_,?_⟩
  rw [zR (x':=((k+1:Nat):Int)) (by simp only [xP,jI hk,cond_true,yA hk,zA,zT,e,Bool.not_false,zBG,e2,Bool.or_self,cond_false,zV (k:=k) (by omega)])]
  exact h3
  rcases h4 with h4 | ⟨h4,h5⟩
  exact .inl h4
  refine .inr ⟨h4,?_⟩
  rw [List.drop_eq_getElem_cons hk]
  intro x hx
  rcases List.mem_cons.1 hx with rfl | hx
  exact ⟨by omega,by omega⟩
  exact h5 x hx
theorem z24 (n:Norm):∃b,zB4 n=some b∧(b=true→NSm n):=by
 unfold zB4
 by_cases h:40 < n.Classes.length∨40 < n.Decomp.length∨12 < n.Excluded.Ranges.length
 have e:((decide ((40:Int) < (n.Classes.length:Int)) ||decide ((40:Int) < (n.Decomp.length:Int))) ||decide ((12:Int) < (n.Excluded.Ranges.length:Int)))=true:=by simp;omega
 simp only [zT,e,cond_true]
 exact ⟨false,rfl,fun h=>by cases h⟩
 have e:((decide ((40:Int) < (n.Classes.length:Int)) ||decide ((40:Int) < (n.Decomp.length:Int))) ||decide ((12:Int) < (n.Excluded.Ranges.length:Int)))=false:=by simp;omega
 obtain ⟨y,h3,h4⟩:=s22 (n:=n) (by omega) n.Decomp.length 0 (by omega)
 rw [show ((0:Nat):Int)=0 from rfl] at h3
 simp only [zT,e,cond_false,h3,zA]
 rcases h4 with rfl | ⟨rfl,h5⟩
 exact ⟨false,rfl,fun h=>by cases h⟩
 rw [List.drop_zero] at h5
 exact ⟨true,rfl,fun _=>⟨by omega,by omega,fun m hm=>(h5 m hm).1,fun m hm=>(h5 m hm).2,by omega⟩⟩
theorem f42 {c:Collation} (hl:c.Entries.length≤12):∀(m k:Nat),k+m=c.Entries.length→∃y,zD (fun (x:Int)=>vL c x) (k:Int)=some y∧(y= .inr false∨(y= .inl ()∧∀x∈c.Entries.drop k,x.Codes.length≤16∧x.Elements.length≤16))
 | 0,k,h=>⟨.inl (),zK (by simp only [vL,jT (show c.Entries.length≤k by omega),cond_false]),.inr ⟨rfl,by rw [List.drop_of_length_le (by omega)];intro x hx;cases hx⟩⟩
 | m+1,k,h=>by
  have hk:k < c.Entries.length:=by omega
  by_cases h1:16 < c.Entries[k].Codes.length
  have e:decide ((16:Int) < (c.Entries[k].Codes.length:Int))=true:=by simp;omega
  exact ⟨.inr false,zK (by simp only [vL,jI hk,cond_true,yA hk,zA,zT,e,Bool.not_true,zEC,Bool.true_or]),.inl rfl⟩
  have e:decide ((16:Int) < (c.Entries[k].Codes.length:Int))=false:=by simp;omega
  by_cases h2:c.Entries[k].Elements.length≤16
  have e2:decide ((c.Entries[k].Elements.length:Int)≤16)=true:=by simp;omega
  obtain ⟨y,h3,h4⟩:=f42 hl m (k+1) (by omega)
  refine ⟨y,?_,?_⟩
  rw [zR (x':=((k+1:Nat):Int)) (by simp only [vL,x9,jI hk,cond_true,yA hk,zA,zT,e,Bool.not_false,zBG,e2,Bool.not_true,Bool.or_self,cond_false,zV (k:=k) (by omega)])]
  exact h3
  rcases h4 with h4 | ⟨h4,h5⟩
  exact .inl h4
  refine .inr ⟨h4,?_⟩
  rw [List.drop_eq_getElem_cons hk]
  intro x hx
  rcases List.mem_cons.1 hx with rfl | hx
  exact ⟨by omega,h2⟩
  exact h5 x hx
  have e2:decide ((c.Entries[k].Elements.length:Int)≤16)=false:=by simp;omega
  exact ⟨.inr false,zK (by simp only [vL,x9,jI hk,cond_true,yA hk,zA,zT,e,Bool.not_false,zBG,e2,Bool.or_true]),.inl rfl⟩
theorem z8X {c:Collation} (hl:c.Groups.length≤8):∀(m k:Nat),k+m=c.Groups.length→∃y,zD (fun (x:Int)=>uN c x) (k:Int)=some y
 | 0,k,h=>⟨.inl (),zK (by simp only [uN,jT (show c.Groups.length≤k by omega),cond_false])⟩
 | m+1,k,h=>by
  have hk:k < c.Groups.length:=by omega
  by_cases h1:(40:Int) < (c.Groups[k].Name.length:Int)
  exact ⟨.inr false,zK (by simp only [uN,jI hk,cond_true,yA hk,zA,h1,decide_true])⟩
  obtain ⟨y,h3⟩:=z8X hl m (k+1) (by omega)
  refine ⟨y,?_⟩
  rw [zR (x':=((k+1:Nat):Int)) (by simp only [uN,jI hk,cond_true,yA hk,zA,h1,decide_false,cond_false,zV (k:=k) (by omega)])]
  exact h3
theorem z8Y (c:Collation):∃b,zD5 c=some b∧(b=true→Sm c):=by
 unfold zD5
 by_cases h:12 < c.Entries.length∨8 < c.Groups.length
 have e:(decide ((12:Int) < (c.Entries.length:Int)) ||decide ((8:Int) < (c.Groups.length:Int)))=true:=by simp;omega
 simp only [zT,e,cond_true]
 exact ⟨false,rfl,fun h=>by cases h⟩
 have e:(decide ((12:Int) < (c.Entries.length:Int)) ||decide ((8:Int) < (c.Groups.length:Int)))=false:=by simp;omega
 obtain ⟨y,h3,h4⟩:=f42 (c:=c) (by omega) c.Entries.length 0 (by omega)
 obtain ⟨z,h6⟩:=z8X (c:=c) (by omega) c.Groups.length 0 (by omega)
 rw [show ((0:Nat):Int)=0 from rfl] at h3 h6
 simp only [zT,e,cond_false,h3,zA]
 rcases h4 with rfl | ⟨rfl,h5⟩
 exact ⟨false,rfl,fun h=>by cases h⟩
 rw [List.drop_zero] at h5
 have hs:Sm c:=⟨by omega,by omega,fun x hx=>(h5 x hx).1,fun x hx=>by have:=(h5 x hx).2;omega⟩
 rw [Sum.elim_inl,h6,zA]
 cases z with
 | inl z=>exact ⟨true,rfl,fun _=>hs⟩
 | inr z=>exact ⟨z,rfl,fun _=>hs⟩
theorem z25 (d:Unicodetextlaw44_Data):∃b,zB5 d=some b∧(b=true→NSm d.Norm∧Sm d.Collation):=by
 obtain ⟨b,hb,pb⟩:=z24 d.Norm
 obtain ⟨c,hc,pc⟩:=z8Y d.Collation
 unfold zB5
 rw [hb,zA,zT,hc]
 cases b with
 | false=>exact ⟨false,rfl,fun h=>by cases h⟩
 | true=>exact ⟨c,by simp only [zBG,zA,Bool.true_and],fun h=>⟨pb rfl,pc h⟩⟩
theorem zGG {a b:List Int} (ha:a.length≤4611686018427387904):vM a b=some (decide (b <+: a)):=by
 unfold vM
 rw [zT]
 by_cases h:b.length≤a.length
 have e:decide ((b.length:Int)≤(a.length:Int))=true:=by simp;omega
 simp only [e,zBG,zEB h,zA,Bool.true_and,zQQ (show (a.take b.length).length≤4611686018427387904 by simp;omega)]
 congr 1
 rw [Bool.eq_iff_iff,decide_eq_true_eq,decide_eq_true_eq,List.prefix_iff_eq_take]
 exact eq_comm
 have e:decide ((b.length:Int)≤(a.length:Int))=false:=by simp;omega
 have h2:¬b <+: a:=fun hp=>h hp.length_le
 simp only [e,zEC,zA,Bool.false_and,h2,decide_false]
theorem zUN (x:Int) (a b:List Int) (k:Nat):zF0 (x::a) (x::b) k=zF0 a b (k+1):=by
 simp only [zF0,List.zip_cons_cons,chk,pC,if_true,List.length_cons]
 cases chk pC (a.zip b) (k+1) with
 | some y=>rfl
 | none=>
  simp only []
  by_cases h1:a.length < b.length
  simp [h1]
  by_cases h2:b.length < a.length <;> simp [h1,h2]
theorem zRE:∀(a b s t:List Int) (k:Nat),¬a <+: b→¬b <+: a→zF0 (a++s) (b++t) k=zF0 a b k
 | [],b,s,t,k,h,_=>absurd (List.nil_prefix) h
 | x::a,[],s,t,k,_,h=>absurd (List.nil_prefix) h
 | x::a,y::b,s,t,k,h1,h2=>by
  by_cases he:x=y
  subst he
  rw [List.cons_append,List.cons_append,zUN,zUN]
  exact zRE a b s t (k+1) (fun h=>h1 (List.cons_prefix_cons.2 ⟨rfl,h⟩)) (fun h=>h2 (List.cons_prefix_cons.2 ⟨rfl,h⟩))
  simp only [zF0,List.cons_append,List.zip_cons_cons,chk,pC,he,if_false]
section
variable {d:Unicodetextlaw44_Data} (hn:NSm d.Norm) (hc:Sm d.Collation) (ok:vY d) {t:List Int} (ht:t.length≤12)
include hn hc ok ht
omit hc in
theorem z4F:(zE7 d.Norm false t).length≤900:=by have:=zV6 hn ok.1 false t;omega
theorem zJ6 (o:Options) (s:Int):jW d.Norm d.Collation o t s=some (zHF (uW {Strength:=s,Variable:=o.Variable,Backward:=o.Backward,Identical:=false}) (wk d.Collation (wT d.Norm) (uV d.Norm false t)).1 (uV d.Norm false t)):=
 zV7 hn ok.1 hc (z2A ok.2.1) (by omega) (by have:=z4F hn ok ht;omega) o s
omit ht in
theorem z26 (ht:t.length≤12) (o:Options):(zHF (uW o) (wk d.Collation (wT d.Norm) (uV d.Norm false t)).1 (uV d.Norm false t)).length≤4611686018427387904:=
 zZ6 hc (by have:=z4F hn ok ht;omega) o
end
theorem zRF {o : Options} {low : Int} (hk : ckO { Strength := low, Variable := o.Variable, Backward := o.Backward, Identical := false } = 0) (hh : ckO { Strength := o.Strength, Variable := o.Variable, Backward := o.Backward, Identical := false } = 0) (hl : low ≤ o.Strength) (el : List Element) (t : List Int) :
    zHF (uW { Strength := low, Variable := o.Variable, Backward := o.Backward, Identical := false }) el t <+: zHF (uW { Strength := o.Strength, Variable := o.Variable, Backward := o.Backward, Identical := false }) el t := by
  have hb := z8Q hk
  simp only [] at hb
  rw [zZX hk, zZX hh]
  unfold zHF
  simp only [Bool.false_eq_true, if_false, List.append_nil]
  have e : wts el { Strength := low, Variable := o.Variable, Backward := o.Backward, Identical := false } = (wts el { Strength := o.Strength, Variable := o.Variable, Backward := o.Backward, Identical := false }).take low.toNat := zZ8 (o := { Strength := o.Strength, Variable := o.Variable, Backward := o.Backward, Identical := false }) hh hb.1 hl
  rw [e]
  generalize wts el { Strength := o.Strength, Variable := o.Variable, Backward := o.Backward, Identical := false } = L
  obtain ⟨s, hs⟩ := zZ4 (L.drop low.toNat) (0 + (L.take low.toNat).length) (jn 0 [] (L.take low.toNat))
  rw [← zZ3, List.take_append_drop] at hs
  exact ⟨s, hs.symm⟩
theorem law44_SortkeyRemains_true (d : Unicodetextlaw44_Data) (x : Unicodetextlaw44_Pair) (ok : vY d) {q : Prop} (_ : q) : vN d x = some true := by
  unfold vN
  obtain ⟨b, hb, hp⟩ := z25 d
  rw [hb, z23, zA]
  simp only [zT]
  by_cases hbad : b = false ∨ 10 < x.A.length ∨ 10 < x.B.length ∨ x.Low < 1 ∨ 4 < x.High ∨ x.High < x.Low ∨ d.Options.Variable < 1 ∨ 3 < d.Options.Variable
  · have e : (((((((!b || decide ((10 : Int) < (x.A.length : Int))) || decide ((10 : Int) < (x.B.length : Int))) || decide (x.Low < 1)) || decide (4 < x.High)) || decide (x.High < x.Low)) || decide (d.Options.Variable < 1)) || decide (3 < d.Options.Variable)) = true := by
      simp only [Bool.or_eq_true, decide_eq_true_eq, Bool.not_eq_true']
      rcases hbad with h | h
      · simp [h]
      · omega
    rw [e]; rfl
  · have e : (((((((!b || decide ((10 : Int) < (x.A.length : Int))) || decide ((10 : Int) < (x.B.length : Int))) || decide (x.Low < 1)) || decide (4 < x.High)) || decide (x.High < x.Low)) || decide (d.Options.Variable < 1)) || decide (3 < d.Options.Variable)) = false := by
      simp only [Bool.or_eq_false_iff, decide_eq_false_iff_not, Bool.not_eq_false']
      cases b
      · simp at hbad
      · simp only [true_and]; omega
    have hbt : b = true := by cases b; simp at hbad; rfl
    obtain ⟨hn, hc⟩ := hp hbt
    rw [e, cond_false]
    have hA : x.A.length ≤ 12 := by omega
    have hB : x.B.length ≤ 12 := by omega
    have k1 : ckO { Strength := x.Low, Variable := d.Options.Variable, Backward := d.Options.Backward, Identical := false } = 0 := by unfold ckO; simp only []; rw [if_neg (by omega), if_neg (by omega)]
    have k2 : ckO { Strength := x.High, Variable := d.Options.Variable, Backward := d.Options.Backward, Identical := false } = 0 := by unfold ckO; simp only []; rw [if_neg (by omega), if_neg (by omega)]
    have pA := zRF (o := { Strength := x.High, Variable := d.Options.Variable, Backward := d.Options.Backward, Identical := false }) k1 k2 (by simp only []; omega) (wk d.Collation (wT d.Norm) (uV d.Norm false x.A)).1 (uV d.Norm false x.A)
    have pB := zRF (o := { Strength := x.High, Variable := d.Options.Variable, Backward := d.Options.Backward, Identical := false }) k1 k2 (by simp only []; omega) (wk d.Collation (wT d.Norm) (uV d.Norm false x.B)).1 (uV d.Norm false x.B)
    have lA1 := z26 hn hc ok hA { Strength := x.Low, Variable := d.Options.Variable, Backward := d.Options.Backward, Identical := false }
    have lA2 := z26 hn hc ok hA { Strength := x.High, Variable := d.Options.Variable, Backward := d.Options.Backward, Identical := false }
    have lB1 := z26 hn hc ok hB { Strength := x.Low, Variable := d.Options.Variable, Backward := d.Options.Backward, Identical := false }
    have lB2 := z26 hn hc ok hB { Strength := x.High, Variable := d.Options.Variable, Backward := d.Options.Backward, Identical := false }
    rw [zJ6 hn hc ok hA, zA, zJ6 hn hc ok hB, zA, zJ6 hn hc ok hA, zA, zJ6 hn hc ok hB, zA]
    simp only [] at pA pB
    generalize zHF (uW { Strength := x.Low, Variable := d.Options.Variable, Backward := d.Options.Backward, Identical := false }) (wk d.Collation (wT d.Norm) (uV d.Norm false x.A)).1 (uV d.Norm false x.A) = a at *
    generalize zHF (uW { Strength := x.Low, Variable := d.Options.Variable, Backward := d.Options.Backward, Identical := false }) (wk d.Collation (wT d.Norm) (uV d.Norm false x.B)).1 (uV d.Norm false x.B) = c at *
    generalize zHF (uW { Strength := x.High, Variable := d.Options.Variable, Backward := d.Options.Backward, Identical := false }) (wk d.Collation (wT d.Norm) (uV d.Norm false x.A)).1 (uV d.Norm false x.A) = p at *
    generalize zHF (uW { Strength := x.High, Variable := d.Options.Variable, Backward := d.Options.Backward, Identical := false }) (wk d.Collation (wT d.Norm) (uV d.Norm false x.B)).1 (uV d.Norm false x.B) = r at *
    simp only [zGG lA2, zGG lB2, zGG lA1, zGG lB1, zDW lA1, zDW lA2, zA, pA, pB, decide_true, Bool.not_true, Bool.not_false, zBG, Bool.or_self, cond_false]
    by_cases h0 : zK9 a c = 0
    · simp only [h0, decide_true, Bool.not_true, zEC, zBG, zA, Bool.true_or, Bool.and_self]
    by_cases h1 : c <+: a
    · simp only [h0, h1, decide_true, decide_false, Bool.not_true, Bool.not_false, zEC, zBG, zA, Bool.true_or, Bool.or_true, Bool.and_self]
    by_cases h2 : a <+: c
    · simp only [h0, h1, h2, decide_true, decide_false, Bool.not_true, Bool.not_false, zEC, zBG, zA, Bool.true_or, Bool.or_true, Bool.or_false, Bool.and_self]
    have hcmp : zK9 p r = zK9 a c := by
      obtain ⟨s, rfl⟩ := pA
      obtain ⟨t, rfl⟩ := pB
      rw [zOF, zOF]
      exact zRE a c s t 0 h2 h1
    simp only [h0, h1, h2, hcmp, decide_true, decide_false, Bool.not_false, zBG, zA, Bool.or_self, Bool.or_true, Bool.and_self]
end Go.M


/- What the plain counterparts answer. Conditions: none. -/
import Derived.Test.YtjcbhabmkcdcnaaGreatDoorPu1
set_option linter.unusedSimpArgs false
set_option linter.unusedVariables false
set_option linter.unnecessarySimpa false
namespace Go.M
open Go.AV
open Classical in
noncomputable def zBY (n:Norm):List Span:=if VD0 n then n.Classes else []
theorem z58:CV []:=⟨fun k h=>(by cases h),fun k h=>(by cases h),fun k h=>(by cases h)⟩
theorem zPF (n:Norm):CV (zBY n):=by
 unfold zBY
 split
 rename_i h;exact h.cv
 exact z58
theorem zI9 {n:Norm} (hs:NSm n):(zBY n).length≤40:=by
 unfold zBY
 split
 exact hs.cl
 simp
def zQK (l:List Span) (t:Int):Int:=l.foldl (fun t s=>max t s.Value) t
def zIO (c:Collation) (l:List Span):Colltable_table:={zMF c with classes:=l,top:=zQK l 0}
theorem z59 {l:List Span} (hl:l.length≤2000):∀(d k:Nat) (t:Int),l.length - k=d→k≤l.length→zE (fun (x:Int×Int)=>k9 l x.1 x.2) ((k:Int),t)=some (zQK (l.drop k) t):=by
 intro d
 induction d with
 | zero=>
  intro k t h1 h2
  rw [List.drop_of_length_le (by omega)]
  refine zQ ?_
  simp only [k9,kQ (show l.length≤k by omega),cond_false]
  rfl
 | succ d ih=>
  intro k t h1 h2
  have hk:k < l.length:=by omega
  rw [List.drop_eq_getElem_cons hk]
  rw [z4 (x':=(((k+1:Nat):Int),max t l[k].Value)) (by simp only [k9,kB hk,cond_true,z2 hk,zA,zM (k:=k) (by omega)])]
  exact ih (k+1) _ (by omega) (by omega)
theorem zZS {c:Collation} {n:Norm} (hs:NSm n) (hok:zBL n):xE (zMF c) n=some (zIO c (zBY n)):=by
 obtain ⟨e,he,hp⟩:=z50 hs hok
 unfold xE
 rw [he,zA]
 have h1:(cond (decide (e=0)) (some n.Classes) (some (zMF c).classes):Option (List Span))=some (zBY n):=by
  unfold zBY
  by_cases h:e=0
  rw [if_pos (hp.1 h)];simp [h]
  rw [if_neg (fun hh=>h (hp.2 hh))];simp [h,zMF]
 rw [h1,zA]
 have h2:=z59 (l:=zBY n) (by have:=zI9 hs;omega) (zBY n).length 0 0 (by omega) (by omega)
 rw [List.drop_zero] at h2
 have h2':zE (fun (x:Int×Int)=>k9 (zBY n) x.1 x.2) (0,(zMF c).top)=some (zQK (zBY n) 0):=h2
 rw [h2']
 rfl
theorem zIP {c:Collation} (hs:Sm c) {l:List Span} {codes:List Int}:jC (zIO c l) codes=some (zCC (kH c).Entries codes):=z8Y hs (codes:=codes)
theorem zJA {c:Collation} {l:List Span} (h:CV l) (hl:l.length≤2000) (x:Int):xU (zIO c l) x=some (clE l x):=by
 obtain ⟨j,hj,hr,hlo,hhi⟩:=zS1 (n:=l.length) hl (body:=fun (q:Int×Int)=>zAC (fun x0=>xF x0 (zIO c l) x) q.1 q.2) (fun k=>decide (x≤(nth l k).Hi))
  (fun k _=>by simp only [zAC,kQ (Nat.le_refl _),cond_false])
  (fun lo hi h1 h2=>by
   have hm:(lo+hi) / 2 < l.length:=by omega
   have hi1:yK (zIO c l).classes (((lo+hi) / 2:Nat):Int)=some (nth l ((lo+hi) / 2)):=zX hm
   simp only [zAC,kB h1,cond_true,zJ9 (show lo+hi≤4611686018427387903 by omega),xF,hi1,zA,zM (k:=(lo+hi) / 2) (by omega)]
   by_cases hc:x≤(nth l ((lo+hi) / 2)).Hi <;> simp [hc])
  (fun i j hij hj hi=>by
   have:=h.hi hij hj
   simp only [decide_eq_true_eq] at hi ⊢
   omega)
 simp only [decide_eq_false_iff_not,decide_eq_true_eq] at hlo hhi
 unfold xU zGB
 have e0:(zIO c l).classes=l:=rfl
 rw [e0,hr,yAV h hj (fun k hk=>by have:=hlo k hk;omega) hhi]
 simp only [zA,zO]
 by_cases hn:j < l.length
 simp only [kB hn,xN,zX hn,zA,Bool.true_and,hn,true_and]
 by_cases hc2:(nth l j).Lo≤x <;> simp [hc2]
 simp only [kQ (show l.length≤j by omega),vY,zA,Bool.false_and,cond_false,hn,false_and,if_false]
theorem zYE:∀(l:List Span) (t:Int),t≤zQK l t∧∀s∈l,s.Value≤zQK l t
 | [],t=>⟨Int.le_refl _,fun s h=>by cases h⟩
 | x::l,t=>by
  have ih:=zYE l (max t x.Value)
  refine ⟨by show t≤zQK l (max t x.Value);omega,fun s hs=>?_⟩
  show s.Value≤zQK l (max t x.Value)
  rcases List.mem_cons.1 hs with rfl | hs
  omega
  exact ih.2 s hs
theorem yFA {l:List Span} (x:Int):clE l x≤zQK l 0:=by
 unfold clE
 cases hf:l.find? (zNI x) with
 | none=>exact (zYE l 0).1
 | some s=>exact (zYE l 0).2 s (List.mem_of_find?_eq_some hf)
theorem yA1 {l:List Span} (h:CV l) (x:Int):0≤clE l x:=by
 unfold clE
 cases hf:l.find? (zNI x) with
 | none=>exact Int.le_refl _
 | some s=>
  have:=List.mem_of_find?_eq_some hf
  obtain ⟨k,hk,rfl⟩:=List.getElem_of_mem this
  have:=h.sp k hk
  rw [zBF hk] at this
  unfold spOk at this
  show 0≤(l[k]).Value
  omega
def zJT (p:Nat→Bool):Nat→Nat
 | 0=>0
 | k+1=>if p (k+1) then k+1 else zJT p k
theorem zPG (p:Nat→Bool):∀k,zJT p k≤k
 | 0=>Nat.le_refl _
 | k+1=>by unfold zJT;split;omega;have:=zPG p k;omega
theorem zMK {p : Nat → Bool} {m : Nat} : ∀ {k : Nat}, m ≤ k → (∀ j, m < j → j ≤ k → p j = false) → zJT p k = zJT p m
  | 0, h, _ => by have : m = 0 := by omega
                  rw [this]
  | k + 1, h, hp => by
    by_cases e : m = k + 1
    · rw [e]
    · unfold zJT
      rw [hp (k + 1) (by omega) (Nat.le_refl _)]
      simp only [Bool.false_eq_true, if_false]
      rw [zMK (m := m) (by omega) fun j h1 h2 => hp j h1 (by omega)]
      cases m <;> rfl
def pfx (es:List Entry) (text:List Int) (k:Nat):Bool:=(zCC es (text.take k)).2
def zBG (es:List Entry) (text:List Int):Nat:=zJT (pfx es text) text.length
def zC8 (fd:List Int→Bool) (cl:Int→Int):List Int→List Int→List Int→Int→List Int×List Int
 | [],p,s,_=>(p,s)
 | x::r,p,s,h=>if cl x=0 then (p,s++x::r) else if fd (p++ [x])&&decide (h < cl x) then zC8 fd cl r (p++ [x]) s h else zC8 fd cl r p (s++ [x]) (max h (cl x))
theorem zRT {fd:List Int→Bool} {cl:Int→Int}:∀(r p s:List Int) (h:Int),(∀x,cl x≤h)→zC8 fd cl r p s h=(p,s++r)
 | [],p,s,h,_=>by simp [zC8]
 | x::r,p,s,h,hc=>by
  have hx:=hc x
  unfold zC8
  split
  rfl
  have e:decide (h < cl x)=false:=by simp;omega
  rw [e,Bool.and_false,if_neg (by simp),zRT r p (s++ [x]) (max h (cl x)) (fun y=>by have:=hc y;omega)]
  simp
theorem zPH {fd:List Int→Bool} {cl:Int→Int}:∀(r p s:List Int) (h:Int),p.length≤(zC8 fd cl r p s h).1.length∧(zC8 fd cl r p s h).1.length+(zC8 fd cl r p s h).2.length=p.length+s.length+r.length∧((zC8 fd cl r p s h).1.length=p.length→zC8 fd cl r p s h=(p,s++r))
 | [],p,s,h=>by simp [zC8]
 | x::r,p,s,h=>by
  unfold zC8
  split
  refine ⟨Nat.le_refl _,by simp;omega,fun _=>rfl⟩
  split
  have ih:=zPH (fd:=fd) (cl:=cl) r (p++ [x]) s h
  simp only [List.length_append,List.length_cons,List.length_nil] at ih ⊢
  exact ⟨by omega,by omega,fun e=>by omega⟩
  have ih:=zPH (fd:=fd) (cl:=cl) r p (s++ [x]) (max h (cl x))
  simp only [List.length_append,List.length_cons,List.length_nil] at ih ⊢
  refine ⟨ih.1,by omega,fun e=>?_⟩
  rw [ih.2.2 e];simp
section
variable {c:Collation} (hs:Sm c) {l:List Span} (hcv:CV l) (hl:l.length≤2000)
include hs
theorem mL0 {text:List Int} (ht:text.length≤2000):∀k,k≤text.length→zE (fun (x:Int)=>kO text (zIO c l) x) (k:Int)=some ((zJT (pfx (kH c).Entries text) k:Nat):Int)
 | 0,_=>by
  refine zQ ?_
  have:decide ((0:Int) < ((0:Nat):Int))=false:=rfl
  simp only [kO,this,cond_false]
  rfl
 | k+1,hk=>by
  have hd:decide ((0:Int) < ((k+1:Nat):Int))=true:=by simp <;> omega
  have ih:=mL0 ht k (by omega)
  unfold zJT
  cases hp:pfx (kH c).Entries text (k+1) with
  | true=>
   rw [if_pos rfl]
   refine zQ ?_
   unfold pfx at hp
   simp only [kO,hd,cond_true,zLH hk,zA,zIP hs,hp]
  | false=>
   rw [if_neg (by simp),←ih]
   refine z4 ?_
   unfold pfx at hp
   simp only [kO,hd,cond_true,zLH hk,zA,zIP hs,hp,cond_false,zCE (k:=k) (by omega)]
omit hs in
theorem z6A {text:List Int} {k:Nat} (hk:k≤text.length) (h:zLK (kH c).Entries 0 < (k:Int)):pfx (kH c).Entries text k=false:=by
 have h1:=zSY (kH c).Entries 0
 unfold pfx zCC
 have:(kH c).Entries.find? (fun x=>decide (x.Codes=text.take k))=none:=by
  rw [List.find?_eq_none]
  intro x hx
  simp only [decide_eq_true_eq]
  intro e
  have h2:=h1.2 x hx
  rw [e] at h2
  have:(text.take k).length=k:=by simp;omega
  omega
 rw [this]
theorem yCW {text:List Int} (ht:text.length≤2000):zE (fun (x:Int)=>kO text (zIO c l) x) (min (zIO c l).longest (text.length:Int))=some ((zBG (kH c).Entries text:Nat):Int):=by
 have h1:=zSY (kH c).Entries 0
 have e:(zIO c l).longest=zLK (kH c).Entries 0:=rfl
 rw [e]
 obtain ⟨m,hm⟩:∃m:Nat,min (zLK (kH c).Entries 0) (text.length:Int)=(m:Int):=⟨(min (zLK (kH c).Entries 0) (text.length:Int)).toNat,by omega⟩
 rw [hm,mL0 hs ht m (by omega)]
 unfold zBG
 rw [zMK (p:=pfx (kH c).Entries text) (m:=m) (k:=text.length) (by omega) fun j h2 h3=>z6A h3 (by omega)]
omit hs in
theorem yCX {p s r:List Int} {x:Int}:zBE (cpM (p++s++x::r) ((p.length+1:Nat):Int) ((p.length+s.length+1:Nat):Int) (p.length:Int) ((p.length+s.length:Nat):Int)) (p.length:Int) x=some ((p++ [x])++s++r):=by
 have e1:((p++s++x::r).drop p.length).take (p.length+s.length - p.length)=s:=by
  rw [List.append_assoc,List.drop_left]
  have:p.length+s.length - p.length=s.length:=by omega
  rw [this,List.take_left]
 have e2:min (p.length+s.length - p.length) (p.length+s.length+1 - (p.length+1))=s.length:=by omega
 unfold cpM
 simp only [Int.toNat_natCast]
 rw [e1,e2,List.take_of_length_le (Nat.le_refl _)]
 cases s with
 | nil=>
  have hx:(p++ []++x::r)=p++x::r:=by simp
  rw [hx]
  have e3:(p++x::r).take (p.length+1)=p++ [x]:=by
   rw [List.take_append,List.take_of_length_le (by omega)]
   simp
  have e4:(p++x::r).drop (p.length+1+([]:List Int).length)=r:=by
   rw [List.drop_append,List.drop_of_length_le (by simp)]
   simp
  rw [e3,e4]
  have:p++ [x]++ []++r=p++x::r:=by simp
  rw [this,uQ rfl]
 | cons y s=>
  have hx:(p++(y::s)++x::r)=p++y::(s++x::r):=by simp
  rw [hx]
  have e3:(p++y::(s++x::r)).take (p.length+1)=p++ [y]:=by
   rw [List.take_append,List.take_of_length_le (by omega)]
   simp
  have e4:(p++y::(s++x::r)).drop (p.length+1+(y::s).length)=r:=by
   have:p++y::(s++x::r)=(p++y::(s++ [x]))++r:=by simp
   rw [this,List.drop_left' (by simp;omega)]
  rw [e3,e4]
  have:p++ [y]++(y::s)++r=p++y::((y::s)++r):=by simp
  rw [this,uQ rfl]
  simp
include hcv hl
theorem mL1 : ∀ (r p s : List Int) (h : Int), p.length + s.length + r.length ≤ 2000 →
    zE (fun (x : Int × Int × Int × (List Int)) => yR (zIO c l) x.1 x.2.1 x.2.2.1 x.2.2.2) ((p.length : Int), h, ((p.length + s.length : Nat) : Int), p ++ s ++ r) =
      some ((((zC8 (fun q => (zCC (kH c).Entries q).2) (clE l) r p s h).1.length : Nat) : Int), (zC8 (fun q => (zCC (kH c).Entries q).2) (clE l) r p s h).1 ++ (zC8 (fun q => (zCC (kH c).Entries q).2) (clE l) r p s h).2)
  | [], p, s, h, _ => by
    refine zQ ?_
    have : decide (((p.length + s.length : Nat) : Int) < ((p ++ s ++ []).length : Int)) = false := by simp
    simp only [yR, zO, this, Bool.false_and, cond_false]
    simp [zC8]
  | x :: r, p, s, h, hn => by
    simp only [List.length_cons] at hn
    have hd : decide (((p.length + s.length : Nat) : Int) < ((p ++ s ++ x :: r).length : Int)) = true := by simp <;> omega
    have hi : yK (p ++ s ++ x :: r) ((p.length + s.length : Nat) : Int) = some x := w8 (by simp)
    have etop : (zIO c l).top = zQK l 0 := rfl
    by_cases htop : h < zQK l 0
    · have hd2 : decide (h < (zIO c l).top) = true := by rw [etop]; simpa using htop
      by_cases h0 : clE l x = 0
      · refine zQ ?_
        simp only [yR, zO, hd, hd2, Bool.and_self, cond_true, hi, zA, zJA hcv hl, h0, decide_true, Sum.elim_inl]
        unfold zC8
        rw [if_pos h0]
        simp
      · unfold zC8
        rw [if_neg h0]
        by_cases hk : clE l x ≤ h
        · have e : decide (h < clE l x) = false := by simp; omega
          rw [e, Bool.and_false, if_neg (by simp)]
          rw [z4 (x' := ((p.length : Int), h, ((p.length + (s ++ [x]).length : Nat) : Int), p ++ (s ++ [x]) ++ r)) (by
            have e2 : p ++ (s ++ [x]) ++ r = p ++ s ++ x :: r := by simp
            have e3 : p.length + (s ++ [x]).length = p.length + s.length + 1 := by simp; omega
            rw [e2, e3]
            simp only [yR, zO, hd, hd2, Bool.and_self, cond_true, hi, zA, zJA hcv hl, h0, hk, decide_true, decide_false, cond_false, Sum.elim_inr, zM (k := p.length + s.length) (by omega)])]
          have := mL1 r p (s ++ [x]) h (by simp; omega)
          rw [show max h (clE l x) = h by omega]
          exact this
        · have e : decide (h < clE l x) = true := by simp; omega
          rw [e, Bool.and_true]
          have s1 : slc (p ++ s ++ x :: r) 0 (p.length : Int) = some p := by
            rw [zLH (by simp)]
            simp
          have a1 : app p [x] = some (p ++ [x]) := zBR (by simp; omega)
          cases hf : (zCC (kH c).Entries (p ++ [x])).2 with
          | false =>
            rw [if_neg (by simp)]
            rw [z4 (x' := ((p.length : Int), clE l x, ((p.length + (s ++ [x]).length : Nat) : Int), p ++ (s ++ [x]) ++ r)) (by
              have e2 : p ++ (s ++ [x]) ++ r = p ++ s ++ x :: r := by simp
              have e3 : p.length + (s ++ [x]).length = p.length + s.length + 1 := by simp; omega
              rw [e2, e3]
              simp only [yR, zO, hd, hd2, Bool.and_self, cond_true, hi, zA, zJA hcv hl, h0, hk, decide_false, cond_false, s1, a1, zIP hs, hf, Bool.not_false, Sum.elim_inr, zM (k := p.length + s.length) (by omega)])]
            have := mL1 r p (s ++ [x]) (clE l x) (by simp; omega)
            rw [show max h (clE l x) = clE l x by omega]
            exact this
          | true =>
            rw [if_pos rfl]
            have sc1 : ∃ q, slc (p ++ s ++ x :: r) ((p.length + 1 : Nat) : Int) ((p.length + s.length + 1 : Nat) : Int) = some q := ⟨_, zSU (by omega) (by simp; omega)⟩
            have sc2 : ∃ q, slc (p ++ s ++ x :: r) (p.length : Int) ((p.length + s.length : Nat) : Int) = some q := ⟨_, zSU (by omega) (by simp)⟩
            obtain ⟨q1, hq1⟩ := sc1
            obtain ⟨q2, hq2⟩ := sc2
            have hcp := yCX (p := p) (s := s) (r := r) (x := x)
            obtain ⟨_, _, hlt⟩ := zIX hcp
            have hix : ∃ q, yK (cpM (p ++ s ++ x :: r) ((p.length + 1 : Nat) : Int) ((p.length + s.length + 1 : Nat) : Int) (p.length : Int) ((p.length + s.length : Nat) : Int)) (p.length : Int) = some q := ⟨_, z2 (by simpa using hlt)⟩
            obtain ⟨q3, hq3⟩ := hix
            rw [z4 (x' := (((p ++ [x]).length : Int), h, (((p ++ [x]).length + s.length : Nat) : Int), (p ++ [x]) ++ s ++ r)) (by
              have e3 : (p ++ [x]).length + s.length = p.length + s.length + 1 := by simp; omega
              have e4 : (p ++ [x]).length = p.length + 1 := by simp
              rw [e3, e4]
              simp only [yR, zO, hd, hd2, Bool.and_self, cond_true, hi, zA, zJA hcv hl, h0, hk, decide_false, cond_false, s1, a1, zIP hs, hf, Bool.not_true, zM (k := p.length + s.length) (by omega), zM (k := p.length) (by omega), hq1, hq2, hq3, hcp, Sum.elim_inr])]
            exact mL1 r (p ++ [x]) s h (by simp; omega)
    · have hd2 : decide (h < (zIO c l).top) = false := by rw [etop]; simpa using htop
      have hm := zRT (fd := fun q => (zCC (kH c).Entries q).2) (cl := clE l) (x :: r) p s h (fun y => by have := yFA (l := l) y; omega)
      rw [hm]
      refine zQ ?_
      simp only [yR, zO, hd, hd2, Bool.and_false, cond_false, List.append_assoc]
noncomputable def stE (c:Collation) (l:List Span) (text:List Int):Int×List Int×List Element:=if zBG (kH c).Entries text=0 then (1,text.drop 1,zVV (kH c) (nth text 0)) else
 ((((zC8 (fun q=>(zCC (kH c).Entries q).2) (clE l) (text.drop (zBG (kH c).Entries text)) (text.take (zBG (kH c).Entries text)) [] 0).1.length:Nat):Int),(zC8 (fun q=>(zCC (kH c).Entries q).2) (clE l) (text.drop (zBG (kH c).Entries text)) (text.take (zBG (kH c).Entries text)) [] 0).2,(zCC (kH c).Entries (zC8 (fun q=>(zCC (kH c).Entries q).2) (clE l) (text.drop (zBG (kH c).Entries text)) (text.take (zBG (kH c).Entries text)) [] 0).1).1)
theorem zWD {text:List Int} (ht:text.length≤2000) (h0:text≠[]):∃seq,j7 (zIO c l) text=some ((stE c l text).1,(stE c l text).2.2,decide (zBG (kH c).Entries text≠0),seq)∧slc seq (stE c l text).1 (seq.length:Int)=some (stE c l text).2.1:=by
 unfold j7
 rw [yCW hs ht,zA]
 have hpos:0 < text.length:=List.length_pos_iff.2 h0
 by_cases hz:zBG (kH c).Entries text=0
 have e1:decide (((zBG (kH c).Entries text:Nat):Int)=0)=true:=by simp [hz]
 have i0:yK text (0:Int)=some (nth text 0):=zX (k:=0) hpos
 have hst:stE c l text=(1,text.drop 1,zVV (kH c) (nth text 0)):=by unfold stE;rw [if_pos hz]
 have him:jK (zIO c l) (nth text 0)=some (zVV (kH c) (nth text 0)):=zVW c (nth text 0)
 rw [e1,cond_true,i0,zA,him,zA,hst]
 refine ⟨text,?_,?_⟩
 simp [hz]
 exact zVN (l:=text) (a:=1) (by omega)
 have e1:decide (((zBG (kH c).Entries text:Nat):Int)=0)=false:=by simp;omega
 rw [e1,cond_false]
 have hle:zBG (kH c).Entries text≤text.length:=zPG _ _
 have h1:=mL1 hs hcv hl (text.drop (zBG (kH c).Entries text)) (text.take (zBG (kH c).Entries text)) [] 0 (by simp;omega)
 have e2:(text.take (zBG (kH c).Entries text)).length=zBG (kH c).Entries text:=by simp;omega
 have e3:text.take (zBG (kH c).Entries text)++ []++text.drop (zBG (kH c).Entries text)=text:=by simp
 rw [e3,e2] at h1
 simp only [List.length_nil,Nat.add_zero] at h1
 rw [h1,zA]
 have hst:stE c l text=((((zC8 (fun q=>(zCC (kH c).Entries q).2) (clE l) (text.drop (zBG (kH c).Entries text)) (text.take (zBG (kH c).Entries text)) [] 0).1.length:Nat):Int),(zC8 (fun q=>(zCC (kH c).Entries q).2) (clE l) (text.drop (zBG (kH c).Entries text)) (text.take (zBG (kH c).Entries text)) [] 0).2,(zCC (kH c).Entries (zC8 (fun q=>(zCC (kH c).Entries q).2) (clE l) (text.drop (zBG (kH c).Entries text)) (text.take (zBG (kH c).Entries text)) [] 0).1).1):=by unfold stE;rw [if_neg hz]
 rw [hst]
 generalize zC8 (fun q=>(zCC (kH c).Entries q).2) (clE l) (text.drop (zBG (kH c).Entries text)) (text.take (zBG (kH c).Entries text)) [] 0=q
 have s1:slc (q.1++q.2) 0 ((q.1.length:Nat):Int)=some q.1:=by rw [zLH (by simp)];simp
 simp only [s1,zA,zIP hs]
 refine ⟨q.1++q.2,?_,?_⟩
 simp [hz]
 rw [zVN (by simp)];simp
end
theorem z9H {n:Norm} {c:Collation} (hn:NSm n) (hok:zBL n) (hs:Sm c) (hg:∀g∈c.Groups,g.Name.length≤MX) {text:List Int} (ht:text.length≤2000) (h0:text≠[]):zAD n c text=some (stE c (zBY n) text):=by
 have hpos:0 < text.length:=List.length_pos_iff.2 h0
 have hl:(zBY n).length≤2000:=by have:=zI9 hn;omega
 obtain ⟨seq,h1,h2⟩:=zWD hs (zPF n) hl ht h0
 unfold zAD xC k6
 have e0:decide ((text.length:Int)=0)=false:=by simp;omega
 rw [e0,cond_false,yCH ht,zA,zZA hs hg,zA,zZS hn hok,zA,h1,zA]
 simp only [h2,zA]
 have hlen:(stE c (zBY n) text).2.2.length≤2000:=by
  unfold stE
  split
  exact zZD _ _
  exact zZC (zX8 hs) _
 rw [yCH hlen]
 rfl
end Go.M
namespace Go.M
open Go.AV
def n0:Norm:={Classes:=[{Lo:=769,Hi:=769,Value:=230},{Lo:=803,Hi:=803,Value:=220}],Decomp:=[],Excluded:={Ranges:=[]}}
def c0:Collation:={Entries:=[{Codes:=[97],Elements:=[{Primary:=7,Secondary:=1,Tertiary:=1,Variable:=false}]},{Codes:=[97,769],Elements:=[{Primary:=8,Secondary:=1,Tertiary:=1,Variable:=false}]}],Groups:=[],Base:=100,Second:=1,Third:=1}
theorem z6B:VD0 n0:=by
 refine ⟨⟨fun k hk=>?_,fun k hk=>?_,fun k hk=>?_⟩,⟨fun m hm=>(by cases hm),fun m hm=>(by cases hm),fun m hm=>(by cases hm),fun k hk=>(by cases hk)⟩,trivial,fun k hk=>(by cases hk),fun m hm=>(by cases hm),fun m hm=>(by cases hm),fun m hm=>(by cases hm),?_⟩
 have hk':k < 2:=hk
 match k,hk' with
 | 0,_=>unfold spOk nth n0;decide
 | 1,_=>unfold spOk nth n0;decide
 have hk':k+1 < 2:=hk
 match k,hk' with
 | 0,_=>unfold adOk nth n0;decide
 have hk':k < 2:=hk
 match k,hk' with
 | 0,_=>unfold hgOk nth n0;decide
 | 1,_=>unfold hgOk nth n0;decide
 unfold decompose_measure
 rw [zQ (y:=(false,false)) (by rfl)]
 rfl
theorem z6C:NSm n0:=⟨by decide,by decide,fun m hm=>(by cases hm),fun m hm=>(by cases hm),by decide⟩
theorem yFB:zBL n0:=by unfold zBL okSpan z4M n0;simp
theorem zWE:Sm c0:=⟨by decide,by decide,by decide,by decide⟩
theorem yFC:stE c0 n0.Classes [97,803,769]=(2,[803],[{Primary:=8,Secondary:=1,Tertiary:=1,Variable:=false}]):=by decide
theorem yFD:ckE c0=0:=by decide
theorem zWF : zAU = some true := by
  have hcl : zBY n0 = n0.Classes := by unfold zBY; rw [if_pos z6B]
  have h1 := z9H (n := n0) (c := c0) z6C yFB zWE (fun g hg => by cases hg) (text := [97, 803, 769]) (by decide) (by simp)
  rw [hcl, yFC] at h1
  have h2 : xA c0 = some 0 := by rw [zVR zWE (fun g hg => by cases hg), yFD]
  have e : zAU = (zAD n0 c0 [97, 803, 769]).bind fun t28 =>
      (xA c0).bind fun t33 =>
      (pv (decide (t33 = 0))).bind fun b35 =>
      (pv (b35 && (decide (t28.1 = 2)))).bind fun b39 =>
      (gM b39 (zCM t28.2.1 [803])).bind fun t42 =>
      (pv (b39 && t42)).bind fun b44 =>
      (gM b44 (zAW t28.2.2 [({ Primary := 8, Secondary := 1, Tertiary := 1, Variable := false } : Element)])).bind fun t47 =>
      some (b44 && t47) := rfl
  rw [e, h1, zA, h2, zA]
  simp only [zO, decide_true, Bool.and_self, xN, z5N (a := [803]) (b := [803]) (by decide), zA, z80 (a := [({ Primary := 8, Secondary := 1, Tertiary := 1, Variable := false } : Element)]) (by decide)]
theorem yCY (x:Unicodetextlaw43_Case):∃b,zGS x=some b∧(b=true→NSm x.N∧Sm x.C∧x.Text.length≤12):=by
 obtain ⟨b,hb,hp⟩:=z9D x.N
 unfold zGS
 rw [hb]
 simp only [zA,zO]
 cases b with
 | false=>exact ⟨false,rfl,fun h=>by cases h⟩
 | true=>
  simp only [xN,z5J,zA,Bool.true_and]
  refine ⟨_,rfl,fun h=>?_⟩
  simp only [Bool.and_eq_true,decide_eq_true_eq] at h
  exact ⟨hp rfl,yCG h.1,by omega⟩
end Go.M
namespace Go.M
open Go.AV
theorem z6D {n:Norm} (h:DS n.Decomp) (hl:n.Decomp.length≤2000) (c:Int) (b:Bool):wM n c b=some (if syl c=true then (hdE c,true) else ((fnB n.Decomp b c).getD [],(fnB n.Decomp b c).isSome)):=by
 unfold wM
 rw [zI4,zA]
 by_cases hs:syl c=true
 have e:decide (4≤hkE c)=true:=by simpa using (zE3 c).1 hs
 simp only [e,cond_true,zZF hs,zA,hs,if_true]
 have e:decide (4≤hkE c)=false:=by simp only [decide_eq_false_iff_not];exact fun hh=>hs ((zE3 c).2 hh)
 simp only [Bool.not_eq_true] at hs
 simp only [e,cond_false,hs,Bool.false_eq_true,if_false]
 obtain ⟨i,hb,hp⟩:=zZH h hl c
 rw [hb]
 simp only [zA,zO]
 unfold fnB
 cases hf:n.Decomp.find? (isF c) with
 | none=>simp [vY]
 | some m=>
  obtain ⟨h1,h2⟩:=hp m hf
  simp only [Option.isSome_some,Bool.not_true,Bool.not_false,xN,zX h1,h2,zA,Bool.false_or]
  cases b <;> cases hm:(m.Tag== []) <;> simp [hm]
section
variable {n:Norm} {b:Bool} (hd:DS n.Decomp) (hl:n.Decomp.length≤2000) (hD:∀c,DD n.Decomp n.Decomp.length c) (hw:∀c,(fu n.Decomp b c).length≤64)
def XOk (l:List Mapping) (b:Bool) (m:List (Int×List Int)):Prop:= ∀k v,mget m k=some v→v=fu l b k
def zZT (l:List Mapping) (f:Nat) (c:Int):Prop:=(∃k,DD l k c∧k+2≤f)∨(l.find? (isF c)=none∧syl c=false∧1≤f)
include hw in
theorem yCZ {f : Nat} (ih : ∀ c m, XOk n.Decomp b m → zZT n.Decomp f c → ∃ m', yI f c m n b = some (fu n.Decomp b c, m') ∧ XOk n.Decomp b m') (L : List Int) (hL : L.length ≤ 2000) (hn : ∀ e ∈ L, zZT n.Decomp f e) :
    ∀ (d i : Nat) (acc : List Int) (m : List (Int × List Int)), L.length - i = d → i ≤ L.length → acc.length ≤ 64 * i → XOk n.Decomp b m →
      ∃ m', zE (fun (x : Int × (List Int) × (List (Int × (List Int)))) => kU (L, true) (yI f) n b x.1 x.2.1 x.2.2) ((i : Int), acc, m) = some (acc ++ (L.drop i).flatMap (fu n.Decomp b), m') ∧ XOk n.Decomp b m' := by
  intro d
  induction d with
  | zero =>
    intro i acc m h1 h2 h3 h4
    refine ⟨m, ?_, h4⟩
    refine zQ ?_
    rw [List.drop_of_length_le (show L.length ≤ i by omega)]
    simp only [kU, kQ (show L.length ≤ i by omega), cond_false, List.flatMap_nil, List.append_nil]
  | succ d ihd =>
    intro i acc m h1 h2 h3 h4
    have hi : i < L.length := by omega
    obtain ⟨m1, hr, r1⟩ := ih L[i] m h4 (hn _ (List.getElem_mem hi))
    have hw1 := hw L[i]
    have ha : app acc (fu n.Decomp b L[i]) = some (acc ++ fu n.Decomp b L[i]) := zBR (by omega)
    rw [z4 (x' := (((i + 1 : Nat) : Int), acc ++ fu n.Decomp b L[i], m1)) (by
      simp only [kU, kB hi, cond_true, z2 hi, zA, hr, ha, zM (k := i) (by omega)])]
    obtain ⟨m2, hq, q1⟩ := ihd (i + 1) (acc ++ fu n.Decomp b L[i]) m1 (by omega) (by omega) (by rw [List.length_append]; omega) r1
    refine ⟨m2, ?_, q1⟩
    rw [hq, List.drop_eq_getElem_cons hi, List.flatMap_cons, List.append_assoc]
include hd hl hD hw in
theorem yFE:∀(f:Nat) (c:Int) (m:List (Int×List Int)),XOk n.Decomp b m→zZT n.Decomp f c→∃m',yI f c m n b=some (fu n.Decomp b c,m')∧XOk n.Decomp b m':=by
 intro f
 induction f with
 | zero=>intro c m _ hn;exfalso;rcases hn with ⟨k,_,h⟩ | ⟨_,_,h⟩ <;> omega
 | succ f ih=>
  intro c m hm hn
  show ∃m',xI (yI f) c m n b=some _∧_
  unfold xI
  cases hh:zA1 m c with
  | true=>
   obtain ⟨v,hv⟩:=Option.isSome_iff_exists.1 hh
   have hg:vZ m c []=v:=by unfold vZ;rw [hv];rfl
   rw [cond_true,hg,hm c v hv]
   exact ⟨m,rfl,hm⟩
  | false=>
   rw [cond_false,z6D hd hl,zA]
   have fin:∀(L:List Int),L.length≤2000→(∀e∈L,zZT n.Decomp f e)→L.flatMap (fu n.Decomp b)=fu n.Decomp b c→∃m',(cond (!((L,true):List Int×Bool).2) (some ([c],m)) ((zE (fun (x:Int×(List Int)×(List (Int×(List Int))))=>kU (L,true) (yI f) n b x.1 x.2.1 x.2.2) (0,[],m)).bind fun (y1:(List Int)×(List (Int×(List Int))))=>some (y1.1,uC y1.2 c y1.1)))=some (fu n.Decomp b c,m')∧XOk n.Decomp b m':=by
    intro L hL hne hfl
    obtain ⟨m1,hq,q1⟩:=yCZ hw ih L hL hne L.length 0 [] m (by omega) (by omega) (by simp) hm
    rw [List.drop_zero,List.nil_append,hfl] at hq
    have hq':zE (fun (x:Int×(List Int)×(List (Int×(List Int))))=>kU (L,true) (yI f) n b x.1 x.2.1 x.2.2) (0,[],m)=some (fu n.Decomp b c,m1):=hq
    simp only [Bool.not_true,cond_false]
    rw [hq']
    refine ⟨uC m1 c (fu n.Decomp b c),rfl,fun k v hk=>?_⟩
    rw [xG] at hk
    split at hk
    rename_i hx;cases hk;rw [hx]
    exact q1 k v hk
   cases hs:syl c with
   | true=>
    simp only [if_true]
    have hnone:=zV8 hd hs
    have hpt:∀e∈hdE c,n.Decomp.find? (isF e)=none∧syl e=false:=by
     intro e he
     obtain ⟨p1,p2⟩:=zO8 hs he
     refine ⟨?_,p1⟩
     cases hf2:n.Decomp.find? (isF e) with
     | none=>rfl
     | some m=>obtain ⟨q1,rfl⟩:=zDV hf2;exact absurd (hd.hk m q1) p2
    refine fin (hdE c) (by have:=zJ8 c;omega) (fun e he=>?_) ?_
    obtain ⟨p1,p2⟩:=hpt e he
    refine .inr ⟨p1,p2,?_⟩
    rcases hn with ⟨k,_,h⟩ | ⟨_,h,_⟩
    omega
    rw [hs] at h;cases h
    have h1:fu n.Decomp b c=hdE c:=by rw [zZN hD,zFY hnone]
    rw [h1]
    have:∀L:List Int,(∀e∈L,n.Decomp.find? (isF e)=none∧syl e=false)→L.flatMap (fu n.Decomp b)=L:=by
     intro L
     induction L with
     | nil=>intro _;rfl
     | cons x L ihL=>
      intro h
      obtain ⟨p1,p2⟩:=h x (by simp)
      have hx:fu n.Decomp b x= [x]:=by rw [zZN hD,zFY p1];show hdE x= [x];unfold hdE;rw [if_neg (by simp [p2])]
      rw [List.flatMap_cons,hx,ihL fun e he=>h e (by simp [he])]
      rfl
    exact this _ hpt
   | false=>
    simp only [Bool.false_eq_true,if_false]
    cases hf:fnB n.Decomp b c with
    | none=>
     simp only [Option.getD_none,Option.isSome_none,Bool.not_false,cond_true]
     refine ⟨m,?_,hm⟩
     rw [zZN hD,hf]
     have:hdE c= [c]:=by unfold hdE;rw [if_neg (by simp [hs])]
     simp only [this]
    | some to=>
     simp only [Option.getD_some,Option.isSome_some]
     obtain ⟨mm,h1,rfl,_⟩:=zG3 hf
     obtain ⟨h2,_⟩:=zDV h1
     refine fin mm.To (hd.len mm h2) (fun e he=>?_) (by rw [zZN hD c,hf])
     rcases hn with ⟨k,hk,h⟩ | ⟨h,_,_⟩
     cases k with
     | zero=>have:n.Decomp.find? (isF c)=none:=hk;rw [this] at h1;cases h1
     | succ k=>exact .inl ⟨k,hk mm h1 e he,by omega⟩
     rw [h] at h1;cases h1
end
noncomputable def usN (n:Norm):Norm:=open Classical in if VD0 n then n else {Classes:=[],Decomp:=[],Excluded:={Ranges:=[]}}
structure GN (n:Norm):Prop where
 ds:DS n.Decomp
 cv:CV n.Classes
 H:∀m∈n.Decomp,WW n.Decomp m.From
 w:∀m∈n.Decomp,wt n.Decomp true m.From≤64
 cl:n.Classes.length≤40
 de:n.Decomp.length≤40
 ok:∀x∈n.Classes,okSpan x
theorem zPI {n:Norm} (hs:NSm n) (hok:zBL n):GN (usN n):=by
 unfold usN
 split
 rename_i h
 obtain ⟨h1,h2⟩:=(z55 h.ds (by have:=hs.de;omega)).1 h.ms
 exact ⟨h.ds,h.cv,h1,h2,hs.cl,hs.de,hok.1.2⟩
 exact ⟨⟨fun k hk=>(by cases hk),fun m hm=>(by cases hm),fun m hm=>(by cases hm)⟩,z58,fun m hm=>(by cases hm),fun m hm=>(by cases hm),by simp,by simp,fun x hx=>by cases hx⟩
theorem GN.dd {n:Norm} (h:GN n):∀c,DD n.Decomp n.Decomp.length c:=zPB h.ds h.H
theorem GN.len {n:Norm} (h:GN n) (b:Bool) (c:Int):(fu n.Decomp b c).length≤64:=yCS h.ds (yCT h.ds h.H h.w) b c
theorem GN.ex {n:Norm} (h:GN n) {b:Bool} (c:Int) (m:List (Int×List Int)) (hm:XOk n.Decomp b m):∃m',yI 100 c m n b=some (fu n.Decomp b c,m')∧XOk n.Decomp b m':=
 yFE h.ds (by have:=h.de;omega) h.dd (h.len b) 100 c m hm (.inl ⟨_,h.dd c,by have:=h.de;omega⟩)
theorem zZU {n:Norm} (hs:NSm n) (hok:zBL n):wC n=some (usN n):=by
 obtain ⟨e,he,hv⟩:=z50 hs hok
 unfold wC usN
 rw [he,zA]
 by_cases hz:e=0
 rw [if_pos (hv.1 hz)];simp [hz]
 rw [if_neg (fun h=>hz (hv.2 h))];simp [hz]
theorem z9I {n:Norm} (hs:NSm n) (hok:zBL n) (c:Int) (b:Bool):zBO n c b=some (fu (usN n).Decomp b c):=by
 unfold zBO wD
 obtain ⟨m',h1,_⟩:=(zPI hs hok).ex (b:=b) c [] (fun k v h=>by cases h)
 rw [zZU hs hok,zA,zA,h1]
 rfl
theorem zWG {f:Int→List Int} {k:Nat} (h:∀e,(f e).length≤k):∀L:List Int,(L.flatMap f).length≤k*L.length
 | []=>by simp
 | x::L=>by have:=zWG h L;have:=h x;rw [List.flatMap_cons,List.length_append,List.length_cons,Nat.mul_succ];omega
theorem z2J {n : Norm} (h : GN n) {b : Bool} {text : List Int} (ht : text.length ≤ 2000) : ∀ (d i : Nat) (acc : List Int) (m : List (Int × List Int)), text.length - i = d → i ≤ text.length → acc.length ≤ 64 * i → XOk n.Decomp b m →
    zE (fun (x : Int × (List Int) × (List (Int × (List Int)))) => xK text n b x.1 x.2.1 x.2.2) ((i : Int), acc, m) = some (acc ++ (text.drop i).flatMap (fu n.Decomp b)) := by
  intro d
  induction d with
  | zero =>
    intro i acc m h1 h2 h3 h4
    refine zQ ?_
    rw [List.drop_of_length_le (show text.length ≤ i by omega)]
    simp only [xK, kQ (show text.length ≤ i by omega), cond_false, List.flatMap_nil, List.append_nil]
  | succ d ih =>
    intro i acc m h1 h2 h3 h4
    have hi : i < text.length := by omega
    obtain ⟨m1, hr, r1⟩ := h.ex (b := b) text[i] m h4
    have hw1 := h.len b text[i]
    have ha : app acc (fu n.Decomp b text[i]) = some (acc ++ fu n.Decomp b text[i]) := zBR (by omega)
    rw [z4 (x' := (((i + 1 : Nat) : Int), acc ++ fu n.Decomp b text[i], m1)) (by
      simp only [xK, kB hi, cond_true, z2 hi, zA, hr, ha, zM (k := i) (by omega)])]
    rw [ih (i + 1) (acc ++ fu n.Decomp b text[i]) m1 (by omega) (by omega) (by rw [List.length_append]; omega) r1, List.drop_eq_getElem_cons hi, List.flatMap_cons, List.append_assoc]
noncomputable def zFZ (n:Norm) (b:Bool) (text:List Int):List Int:=text.flatMap (fu (usN n).Decomp b)
theorem z9J {n:Norm} (hs:NSm n) (hok:zBL n) {text:List Int} (ht:text.length≤2000) (b:Bool):zAR n text b=uX (usN n).Classes (zFZ n b text):=by
 have h:=zPI hs hok
 unfold zAR wD
 have hu:wC {Classes:=n.Classes,Decomp:=n.Decomp,Excluded:={Ranges:=n.Excluded.Ranges}}=some (usN n):=zZU hs hok
 have hlp:=z2J h (b:=b) ht text.length 0 [] [] (by omega) (by omega) (by simp) (fun k v h=>by cases h)
 rw [List.drop_zero,List.nil_append] at hlp
 have hlp':zE (fun (x:Int×(List Int)×(List (Int×(List Int))))=>xK text (usN n) b x.1 x.2.1 x.2.2) (0,[],[])=some (zFZ n b text):=hlp
 rw [hu,zA,zA,hlp',zA]
 cases uX (usN n).Classes (zFZ n b text) <;> rfl
end Go.M
namespace Go.M
open Go.AV
section
variable (key:Int→Int)
def ltK (a b:Int):Bool:=decide (key a < key b)
def ltC (a b:Int):Bool:=decide (0 < key a)&&decide (key a < key b)
def srt (l:List Int):List Int:=uB (ltK key) l []
def csE (l:List Int):List Int:=uB (ltC key) l []
def rsE:List Int→List Int→List Int
 | [],run=>srt key run
 | x::t,run=>if key x=0 then srt key run++x::rsE t [] else rsE t (run++ [x])
end
section
variable {key:Int→Int}
theorem z6E (l:List Int) (x:Int):srt key (l++ [x])=uZ (ltK key) (srt key l).reverse x []:=by
 unfold srt uB
 rw [List.foldl_append]
 rfl
theorem zZV (l:List Int):Flt key l (srt key l):=by
 have:=zI8 (key:=key) l []
 exact this
theorem zZW (l:List Int):(srt key l).length=l.length:=(zZV l).len.symm
theorem zZX {x:Int} (hx:0 < key x):∀(r q s:List Int),(∀y,q.head? =some y→key y=0)→uZ (ltC key) (r++q) x s=q.reverse++uZ (ltK key) r x s
 | [],q,s,hq=>by
  cases q with
  | nil=>rfl
  | cons y q=>
   have:ltC key x y=false:=by unfold ltC;rw [hq y rfl];simp;omega
   show uZ (ltC key) (y::q) x s=_
   simp only [uZ,this,Bool.false_eq_true,if_false]
 | y::r,q,s,hq=>by
  have e:ltC key x y=ltK key x y:=by unfold ltC ltK;simp [hx]
  show uZ (ltC key) (y::(r++q)) x s=q.reverse++uZ (ltK key) (y::r) x s
  simp only [uZ,e]
  cases ltK key x y with
  | true=>simp only [if_true];exact zZX hx r q (y::s) hq
  | false=>simp
theorem z6F (hnn : ∀ x, 0 ≤ key x) : ∀ (t run p : List Int), (∀ y, p.reverse.head? = some y → key y = 0) → uB (ltC key) t (p ++ srt key run) = p ++ rsE key t run
  | [], run, p, _ => rfl
  | x :: t, run, p, hp => by
    show uB (ltC key) t (uZ (ltC key) (p ++ srt key run).reverse x []) = p ++ rsE key (x :: t) run
    by_cases h0 : key x = 0
    · have e : ∀ r : List Int, uZ (ltC key) r x [] = r.reverse ++ [x] := by
        intro r
        cases r with
        | nil => rfl
        | cons y r =>
          have : ltC key x y = false := by unfold ltC; rw [h0]; simp
          simp [uZ, this]
      have ih := z6F hnn t [] (p ++ srt key run ++ [x]) (fun y hy => by simp at hy; rw [← hy]; exact h0)
      have e2 : srt key [] = [] := rfl
      rw [e2, List.append_nil] at ih
      rw [e, List.reverse_reverse, ih]
      simp [rsE, h0]
    · have hx : 0 < key x := by have := hnn x; omega
      rw [List.reverse_append, zZX hx _ _ _ hp, List.reverse_reverse, ← z6E, z6F hnn t (run ++ [x]) p hp]
      simp [rsE, h0]
theorem zS7 (hnn:∀x,0≤key x) (t:List Int):csE key t=rsE key t []:=by
 have:=z6F hnn t [] [] (fun y hy=>by cases hy)
 exact this
theorem z6G (t:List Int):(csE key t).Perm t:=by
 have:=zHK (ltC key) t []
 rw [List.nil_append] at this
 exact this
theorem z9K (t:List Int):(csE key t).length=t.length:=(z6G t).length_eq
theorem zWH {f:List Int→Option (List Int)} {P run T r:List Int} (hpos:0 < run.length) (hf:f run=some r):zHO f (P++run++T) (P.length:Int) ((P.length+run.length:Nat):Int)=some (P++r++T):=by
 unfold zHO
 have a1:((P.length:Int)).toNat=P.length:=by simp
 have a2:(((P.length+run.length:Nat):Int)).toNat=P.length+run.length:=by omega
 rw [a1,a2,if_pos ⟨by omega,by omega,by rw [List.length_append,List.length_append];omega⟩]
 have e1:((P++run++T).drop P.length).take (P.length+run.length - P.length)=run:=by
  rw [List.append_assoc,List.drop_left,show P.length+run.length - P.length=run.length by omega,List.take_left]
 have d1:(P++run++T).take P.length=P:=by rw [List.append_assoc,List.take_left]
 have d2:(P++run++T).drop (P.length+run.length)=T:=by rw [←List.length_append,List.drop_left]
 rw [e1,d1,d2,hf]
 rfl
theorem zZY {f : List Int → Option (List Int)} {st : Int → Bool} (hst : ∀ x, st x = decide (key x = 0)) (hf : ∀ l, l.length ≤ 2000 → f l = some (srt key l)) : ∀ (t run P : List Int) (s : Int), P.length + run.length + t.length ≤ 2000 → (run = [] ∧ s = -1 ∨ run ≠ [] ∧ s = (P.length : Int)) →
    vS f Range.Lo Range.Hi (P ++ run ++ t) (jO st t ((P.length + run.length : Nat) : Int) s) = some (P ++ rsE key t run)
  | [], run, P, s, hl, hs => by
    rcases hs with ⟨rfl, rfl⟩ | ⟨hne, rfl⟩
    · simp only [jO, show ¬ (0 : Int) ≤ -1 by decide, if_false]
      show some (P ++ [] ++ []) = some (P ++ [])
      simp
    · have h0 : (0 : Int) ≤ (P.length : Int) := by omega
      simp only [jO, h0, if_true]
      have hpos : 0 < run.length := List.length_pos_iff.2 hne
      show (some (P ++ run ++ [])).bind (fun l => zHO f l (P.length : Int) ((P.length + run.length : Nat) : Int)) = _
      rw [zA, zWH hpos (hf run (by simp at hl; omega))]
      simp [rsE]
  | x :: t, run, P, s, hl, hs => by
    have hl' : P.length + run.length + t.length + 1 ≤ 2000 := by simp only [List.length_cons] at hl; omega
    by_cases h0 : key x = 0
    · have hsx : st x = true := by rw [hst]; simp [h0]
      rcases hs with ⟨rfl, rfl⟩ | ⟨hne, rfl⟩
      · have e : jO st (x :: t) ((P.length + ([] : List Int).length : Nat) : Int) (-1) = jO st t (((P ++ [x]).length + ([] : List Int).length : Nat) : Int) (-1) := by
          simp only [jO, hsx]
          simp
        have ih := zZY hst hf t [] (P ++ [x]) (-1) (by simp only [List.length_append, List.length_singleton, List.length_nil]; simp at hl'; omega) (.inl ⟨rfl, rfl⟩)
        rw [e, show P ++ [] ++ x :: t = P ++ [x] ++ [] ++ t by simp, ih]
        have e2 : srt key [] = [] := rfl
        simp [rsE, h0, e2]
      · have h00 : (0 : Int) ≤ (P.length : Int) := by omega
        have hpos : 0 < run.length := List.length_pos_iff.2 hne
        have e : jO st (x :: t) ((P.length + run.length : Nat) : Int) (P.length : Int) = { Lo := (P.length : Int), Hi := ((P.length + run.length : Nat) : Int) } :: jO st t (((P ++ srt key run ++ [x]).length + ([] : List Int).length : Nat) : Int) (-1) := by
          have e3 : (((P ++ srt key run ++ [x]).length + ([] : List Int).length : Nat) : Int) = ((P.length + run.length : Nat) : Int) + 1 := by simp [zZW]; omega
          rw [e3]
          simp only [jO, hsx, Bool.not_true, Bool.false_and, Bool.false_eq_true, if_false, Bool.true_and, h00, decide_true, if_true]
        have ih := zZY hst hf t [] (P ++ srt key run ++ [x]) (-1) (by simp [zZW]; omega) (.inl ⟨rfl, rfl⟩)
        have e4 : zHO f (P ++ run ++ x :: t) (P.length : Int) ((P.length + run.length : Nat) : Int) = some (P ++ srt key run ++ [x] ++ [] ++ t) := by
          rw [zWH hpos (hf run (by omega))]
          simp
        have e5 : vS f Range.Lo Range.Hi (P ++ run ++ x :: t) ({ Lo := (P.length : Int), Hi := ((P.length + run.length : Nat) : Int) } :: jO st t (((P ++ srt key run ++ [x]).length + ([] : List Int).length : Nat) : Int) (-1)) = vS f Range.Lo Range.Hi (P ++ srt key run ++ [x] ++ [] ++ t) (jO st t (((P ++ srt key run ++ [x]).length + ([] : List Int).length : Nat) : Int) (-1)) := by
          unfold vS
          rw [List.foldl_cons, zA, e4]
        rw [e, e5, ih]
        simp [rsE, h0]
    · have hsx : st x = false := by rw [hst]; simp [h0]
      have e : jO st (x :: t) ((P.length + run.length : Nat) : Int) s = jO st t ((P.length + (run ++ [x]).length : Nat) : Int) (P.length : Int) := by
        have e3 : ((P.length + (run ++ [x]).length : Nat) : Int) = ((P.length + run.length : Nat) : Int) + 1 := by simp; omega
        rw [e3]
        rcases hs with ⟨rfl, rfl⟩ | ⟨hne, rfl⟩
        · simp [jO, hsx]
        · have : ¬ ((P.length : Int) < 0) := by omega
          simp only [jO, hsx, Bool.not_false, Bool.true_and, this, decide_false, Bool.false_eq_true, if_false, Bool.false_and]
      have ih := zZY hst hf t (run ++ [x]) P (P.length : Int) (by simp; omega) (.inr ⟨by simp, rfl⟩)
      rw [e, show P ++ run ++ x :: t = P ++ (run ++ [x]) ++ t by simp, ih]
      simp [rsE, h0]
end
theorem z6H {l:List Span} (h:CV l) (hl:l.length≤2000) (x y:Int):xP x y l=some (sg (clE l x) (clE l y)):=by
 unfold xP
 simp only [zFX h hl,zA,z2C]
 unfold sg
 rfl
theorem yC1 {l:List Span} (h:CV l) (hl:l.length≤2000) (hok:∀x∈l,okSpan x) {text:List Int} (ht:text.length≤2000):uX l text=some (csE (clE l) text):=by
 have hnn:∀x,0≤clE l x:=yA1 h
 unfold uX xC
 have hst:∀x,(kG l x==some 0)=decide (clE l x=0):=fun x=>by rw [zFX h hl];by_cases hx:clE l x=0 <;> simp [hx]
 rw [zRQ hl hok h,zA,yCH ht,zA,zV5 h hl ht hst rfl,zA]
 have:=zZY (key:=clE l) (f:=fun p=>yZ p (fun x0 x1=>xP x0 x1 l)) (st:=fun c=>kG l c==some 0) hst (fun p hp=>by
  obtain ⟨r,r1,r2,r3⟩:=z2I (key:=clE l) (f:=fun x0 x1=>xP x0 x1 l) (fun x y=>z6H h hl x y) p hp
  rw [r1]
  have:=zWB (key:=clE l) r2 (zMJ (key:=clE l) p) (r3.symm.trans (zZV p))
  rw [this]
  rfl) text [] [] (-1) (by simpa using ht) (.inl ⟨rfl,rfl⟩)
 rw [zS7 hnn]
 exact this
noncomputable def zPJ (n:Norm) (b:Bool) (text:List Int):List Int:=csE (clE (usN n).Classes) (zFZ n b text)
theorem zLN (n:Norm) (b:Bool) (text:List Int):(zPJ n b text).length=(zFZ n b text).length:=z9K _
theorem zML {n:Norm} (hs:NSm n) (hok:zBL n) (b:Bool) (text:List Int):(zFZ n b text).length≤64*text.length:=zWG ((zPI hs hok).len b) text
theorem z6I {n:Norm} (hs:NSm n) (hok:zBL n) {text:List Int} {b:Bool} (ht:text.length≤2000) (hf:(zFZ n b text).length≤2000):zAR n text b=some (zPJ n b text):=by
 have h:=zPI hs hok
 rw [z9J hs hok ht,yC1 h.cv (by have:=h.cl;omega) h.ok hf]
 rfl
end Go.M
namespace Go.M
open Go.AV
theorem z6J {a:List Element} (ha:a.length≤1000000000):zAW a a=some true:=by
 unfold zAW
 have hl:zE (fun (v:Int)=>wG a a v) 0=some (toS (vQ (fun _ (_:Element)=>(none:Option Bool)) a 0)):=by
  refine jD a _ (fun k h=>?_) (fun k h=>?_)
  simp only [wG,kB h,cond_true,z2 h,zA,decide_true,Bool.not_true,cond_false,zM (k:=k) (by omega),stp]
  simp only [wG,kQ h,cond_false]
 have hn:∀(l:List Element) (k:Nat),vQ (fun _ (_:Element)=>(none:Option Bool)) l k=none:=by
  intro l
  induction l with
  | nil=>intro k;rfl
  | cons x l ih=>intro k;exact ih (k+1)
 simp only [decide_true,Bool.not_true,cond_false,hl,zA,hn,toS]
 rfl
noncomputable def wkE (c:Collation) (l:List Span):Nat→List Int→List Element×Bool
 | 0,_=>([],true)
 | k+1,text=>if text= [] then ([],true) else ((stE c l text).2.2++(wkE c l k (stE c l text).2.1).1,decide (zBG (kH c).Entries text≠0)&&(wkE c l k (stE c l text).2.1).2)
theorem yC2 {c:Collation} {l:List Span} {text:List Int} (h0:text≠[]):1≤(stE c l text).1∧(stE c l text).1+((stE c l text).2.1.length:Int)=(text.length:Int):=by
 have hpos:0 < text.length:=List.length_pos_iff.2 h0
 unfold stE
 split
 refine ⟨by simp,?_⟩
 show (1:Int)+((text.drop 1).length:Int)=_
 rw [List.length_drop];omega
 rename_i hz
 have hle:zBG (kH c).Entries text≤text.length:=zPG _ _
 have hinv:=zPH (fd:=fun q=>(zCC (kH c).Entries q).2) (cl:=clE l) (text.drop (zBG (kH c).Entries text)) (text.take (zBG (kH c).Entries text)) [] 0
 generalize zC8 (fun q=>(zCC (kH c).Entries q).2) (clE l) (text.drop (zBG (kH c).Entries text)) (text.take (zBG (kH c).Entries text)) [] 0=q at*
 obtain ⟨i1,i2,_⟩:=hinv
 rw [List.length_take,Nat.min_eq_left hle] at i1 i2
 rw [List.length_drop] at i2
 simp only [List.length_nil] at i2
 constructor
 show (1:Int)≤(q.1.length:Int);omega
 show (q.1.length:Int)+(q.2.length:Int)=_;omega
theorem zZZ {c:Collation} {l:List Span} {text:List Int} (h0:text≠[]):(stE c l text).2.1.length < text.length:=by
 have:=yC2 (c:=c) (l:=l) h0
 omega
theorem yA3 {c:Collation} (hs:Sm c) {l:List Span} (text:List Int):(stE c l text).2.2.length≤2000:=by
 unfold stE
 split
 exact zZD _ _
 exact zZC (zX8 hs) _
theorem zZ0 {c:Collation} {l:List Span}:∀(k j:Nat) (text:List Int),text.length≤k→text.length≤j→wkE c l k text=wkE c l j text
 | 0,j,text,h,_=>by
  have:text= []:=List.eq_nil_of_length_eq_zero (by omega)
  subst this
  cases j with
  | zero=>rfl
  | succ j=>simp [wkE]
 | k+1,j,text,h,hj=>by
  by_cases h0:text= []
  subst h0
  cases j <;> simp [wkE]
  have hpos:0 < text.length:=List.length_pos_iff.2 h0
  cases j with
  | zero=>omega
  | succ j=>
   have hlt:=zZZ (c:=c) (l:=l) h0
   simp only [wkE,h0,if_false]
   rw [zZ0 k j _ (by omega) (by omega)]
noncomputable def wk (c:Collation) (l:List Span) (text:List Int):List Element×Bool:=wkE c l text.length text
theorem zS8 (c:Collation) (l:List Span):wk c l []=([],true):=rfl
theorem zS9 {c:Collation} {l:List Span} {text:List Int} (h0:text≠[]):wk c l text=((stE c l text).2.2++(wk c l (stE c l text).2.1).1,decide (zBG (kH c).Entries text≠0)&&(wk c l (stE c l text).2.1).2):=by
 have hlt:=zZZ (c:=c) (l:=l) h0
 unfold wk
 obtain ⟨k,hk⟩:∃k,text.length=k+1:=⟨text.length - 1,by have:=List.length_pos_iff.2 h0;omega⟩
 rw [hk]
 simp only [wkE,h0,if_false]
 rw [zZ0 k (stE c l text).2.1.length _ (by omega) (by omega)]
theorem yC3 {c:Collation} (hs:Sm c) {l:List Span}:∀(k:Nat) (text:List Int),text.length≤k→(wk c l text).1.length≤2000*text.length:=by
 intro k
 induction k with
 | zero=>
  intro text h
  have:text= []:=List.eq_nil_of_length_eq_zero (by omega)
  subst this;rw [zS8];simp
 | succ k ih=>
  intro text h
  by_cases h0:text= []
  subst h0;rw [zS8];simp
  have hlt:=zZZ (c:=c) (l:=l) h0
  have h1:=ih _ (show (stE c l text).2.1.length≤k by omega)
  have h2:=yA3 hs (l:=l) text
  rw [zS9 h0]
  show ((stE c l text).2.2++(wk c l (stE c l text).2.1).1).length≤_
  rw [List.length_append]
  omega
section
variable {c:Collation} (hs:Sm c) {l:List Span} (hcv:CV l) (hl:l.length≤2000)
include hs hcv hl
theorem z9M:∀(k:Nat) (text:List Int) (acc:List Element),text.length≤k→text.length≤2000→acc.length+2000*text.length≤100000000→zE (fun (x:(List Element)×(List Int))=>jM (zIO c l) x.1 x.2) (acc,text)=some (acc++(wk c l text).1):=by
 intro k
 induction k with
 | zero=>
  intro text acc h _ _
  have:text= []:=List.eq_nil_of_length_eq_zero (by omega)
  subst this
  refine zQ ?_
  simp [jM,zS8]
 | succ k ih=>
  intro text acc h ht ha
  by_cases h0:text= []
  subst h0
  refine zQ ?_
  simp [jM,zS8]
  have hpos:0 < text.length:=List.length_pos_iff.2 h0
  have hlt:=zZZ (c:=c) (l:=l) h0
  have h2:=yA3 hs (l:=l) text
  obtain ⟨seq,m1,m2⟩:=zWD hs hcv hl ht h0
  have e0:decide ((0:Int) < (text.length:Int))=true:=by simp;omega
  have ea:app acc (stE c l text).2.2=some (acc++(stE c l text).2.2):=zBR (by omega)
  rw [z4 (x':=(acc++(stE c l text).2.2,(stE c l text).2.1)) (by simp only [jM,e0,cond_true,m1,zA,ea,m2])]
  rw [ih _ _ (by omega) (by omega) (by rw [List.length_append];omega),zS9 h0,List.append_assoc]
end
theorem zWI (n:Norm):zBY n=(usN n).Classes:=by
 unfold zBY usN
 split <;> rfl
section
variable {n:Norm} {c:Collation} (hn:NSm n) (hok:zBL n) (hs:Sm c) (hg:∀g∈c.Groups,g.Name.length≤MX) {text:List Int} (ht:text.length≤2000) (hf:(zFZ n false text).length≤2000)
include hn hok hs hg ht hf
theorem zIQ:xB n c text=some (wk c (zBY n) (zPJ n false text)).1:=by
 unfold xB
 have hl:(zBY n).length≤2000:=by have:=zI9 hn;omega
 have hd:(zPJ n false text).length≤2000:=by rw [zLN];exact hf
 rw [zZA hs hg,zA,zZS hn hok,zA,z6I hn hok ht hf,zA,z9M hs (zPF n) hl _ _ [] (Nat.le_refl _) hd (by simp;omega)]
 rfl
end
theorem zYG {n:Norm} {c:Collation} (hs:Sm c) {text:List Int} (hd:(zPJ n false text).length≤2000):(wk c (zBY n) (zPJ n false text)).1.length≤1000000000:=by
 have:=yC3 hs (l:=zBY n) _ (zPJ n false text) (Nat.le_refl _)
 omega
end Go.M
namespace Go.M
open Go.AV
end Go.M
namespace Go.M
open Go.AV
end Go.M
namespace Go.M
open Go.AV
theorem yFF (a0 : List Span) (v6 : Nat) (hv : v6 < a0.length) (H : List Range) (hH : H = [{ Lo := 4352, Hi := 4370 }, { Lo := 4449, Hi := 4469 }, { Lo := 4520, Hi := 4546 }, { Lo := 44032, Hi := 55203 }]) :
    (zE (fun (x : Int) => wN H a0 (v6 : Int) x) 0 = some (.inl ()) ∧ hgOk (nth a0 v6)) ∨ (zE (fun (x : Int) => wN H a0 (v6 : Int) x) 0 = some (.inr 11) ∧ ¬ hgOk (nth a0 v6)) := by
  have h := kV (body := fun (x : Int) => wN H a0 (v6 : Int) x) H.length (fun k => ¬ ((nth a0 v6).Lo ≤ (nth H k).Hi ∧ (nth H k).Lo ≤ (nth a0 v6).Hi)) (fun y => y = 11) (fun k hk => by
    have hl : H.length = 4 := by rw [hH]; rfl
    simp only [wN, kB hk, cond_true, zX hv, zX hk, zA, zO, zM (k := k) (by omega)]
    by_cases h1 : (nth a0 v6).Lo ≤ (nth H k).Hi
    · simp only [h1, decide_true, xN, zA, Bool.true_and, true_and]
      exact vV (by simp) rfl
    · simp only [h1, decide_false, vY, zA, Bool.false_and, cond_false, false_and]
      exact .inl ⟨by simp, trivial⟩) (fun k hk => by simp only [wN, kQ hk, cond_false])
  have e : (∀ j, j < H.length → ¬ ((nth a0 v6).Lo ≤ (nth H j).Hi ∧ (nth H j).Lo ≤ (nth a0 v6).Hi)) ↔ hgOk (nth a0 v6) := by
    subst hH
    unfold hgOk
    constructor
    · intro h; exact ⟨h 0 (by decide), h 1 (by decide), h 2 (by decide), h 3 (by decide)⟩
    · rintro ⟨h0, h1, h2, h3⟩ j hj
      have hj' : j < 4 := hj
      match j, hj' with
      | 0, _ => exact h0
      | 1, _ => exact h1
      | 2, _ => exact h2
      | 3, _ => exact h3
  rw [e] at h
  rcases h with h | ⟨y, rfl, h⟩
  · exact .inl h
  · exact .inr h
theorem z6K {l:List Span} (hl:l.length≤2000):Ver (zCN l) (CV l):=by
 have h0:=kV (body:=fun (x:Int)=>zAG l x) l.length (fun k=>spOk (nth l k)) (fun y=>y≠0) (fun k hk=>by
  simp only [zAG,kB hk,cond_true,zX hk,zA,zO,zEG,zM (k:=k) (by omega),spOk,vld]
  generalize nth l k=q
  by_cases h1:0≤q.Lo <;> by_cases h2:q.Lo≤1114111 <;> by_cases h3:0≤q.Hi <;> by_cases h4:q.Hi≤1114111 <;> by_cases h5:q.Hi < q.Lo <;> by_cases h6:q.Value < 1 <;> by_cases h7:254 < q.Value <;> simp [h1,h2,h3,h4,h5,h6,h7,xN,vY,zA] <;> omega) (fun k hk=>by simp only [zAG,kQ hk,cond_false])
 unfold zCN Ver
 rcases h0 with ⟨h0,p0⟩ | ⟨y,hy,h0,p0⟩
 rw [h0]
 simp only [zA,Sum.elim_inl]
 have h1:=zI3 (body:=fun (x:Int)=>zAH l x) l.length (fun k=>adOk (nth l k) (nth l (k+1))) (fun y=>y≠0) (fun k hk=>by
  have hk':k < l.length:=by omega
  have w:=(p0 k hk').2.1
  have w0:=(p0 k hk').1
  have w1:=(p0 k hk').2.2.1
  simp only [zAH,kB hk,cond_true,zX hk,zA,zO,zM (k:=k+1) (by omega),zCE (k:=k) (by omega),zX hk']
  by_cases a1:(nth l (k+1)).Lo≤(nth l k).Hi
  simp only [a1,decide_true,Bool.not_true,vY,zA,Bool.false_and,Bool.true_or,cond_true]
  exact .inr ⟨by unfold adOk;omega,4,by decide,rfl⟩
  simp only [a1,decide_false,Bool.not_false,xN,zA,Bool.true_and,Bool.false_or]
  rw [wR (n:=(nth l k).Hi+1) (by omega) (by omega)]
  by_cases a2:(nth l (k+1)).Lo=(nth l k).Hi+1
  simp only [a2,decide_true,xN,zA,Bool.true_and]
  exact vV (by unfold adOk;simp only [decide_eq_true_eq];omega) (by decide)
  simp only [a2,decide_false,vY,zA,Bool.false_and,cond_false]
  exact .inl ⟨by unfold adOk;omega,trivial⟩) (fun k hk=>by simp only [zAH,kQ hk,cond_false])
 rcases h1 with ⟨h1,p1⟩ | ⟨y,hy,h1,p1⟩
 rw [h1]
 simp only [zA,Sum.elim_inl,zEZ]
 have h2:=kV (body:=fun (x:Int)=>zAI l [{Lo:=4352,Hi:=4370},{Lo:=4449,Hi:=4469},{Lo:=4520,Hi:=4546},{Lo:=44032,Hi:=55203}] x) l.length (fun k=>hgOk (nth l k)) (fun y=>y≠0) (fun k hk=>by
  simp only [zAI,kB hk,cond_true,zM (k:=k) (by omega)]
  rcases yFF l k hk _ rfl with ⟨h,p⟩ | ⟨h,p⟩
  rw [h];exact .inl ⟨p,rfl⟩
  rw [h];exact .inr ⟨p,11,by decide,rfl⟩) (fun k hk=>by simp only [zAI,kQ hk,cond_false])
 rcases h2 with ⟨h2,p2⟩ | ⟨y,hy,h2,p2⟩
 rw [h2];exact ⟨0,rfl,by simp only [true_iff];exact ⟨p0,p1,p2⟩⟩
 rw [h2];exact ⟨y,rfl,by simp only [hy,false_iff];exact fun h=>p2 h.hg⟩
 rw [h1];exact ⟨y,rfl,by simp only [hy,false_iff];exact fun h=>p1 h.ad⟩
 rw [h0];exact ⟨y,rfl,by simp only [hy,false_iff];exact fun h=>p0 h.sp⟩
theorem zWJ {l:List Span} (hl:l.length≤2000) (h:CV l) (c:Int):zCO l c=some (clE l c):=by
 obtain ⟨e,he,hp⟩:=z6K hl
 unfold zCO
 rw [he,zA,hp.2 h]
 simp only [decide_true,Bool.not_true,cond_false]
 have hb:∀k,k < l.length→xJ l c (k:Int)=if zNI c (nth l k) then some (.done (.inr (nth l k).Value)) else some (.next ((k+1:Nat):Int)):=fun k hk=>by
  simp only [xJ,kB hk,cond_true,zX hk,zA,zO,zM (k:=k) (by omega),zNI]
  by_cases h1:(nth l k).Lo≤c
  · by_cases h2:c≤(nth l k).Hi <;> simp [h1,h2,xN]
  · simp [h1,vY]
 have key:∀(d k:Nat),l.length - k=d→k≤l.length→(∀j,j < k→zNI c (nth l j)=false)→(zE (fun (x:Int)=>xJ l c x) (k:Int)).bind (fun y=>y.elim (fun _=>some 0) fun y=>some y)=some (clE l c):=by
  intro d
  induction d with
  | zero=>
   intro k h1 h2 h3
   have:k=l.length:=by omega
   subst this
   rw [zQ (y:= .inl ()) (by simp only [xJ,kQ (Nat.le_refl _),cond_false])]
   unfold clE
   rw [zS2 h3]
   rfl
  | succ d ih=>
   intro k h1 h2 h3
   have hk:k < l.length:=by omega
   cases hi:zNI c (nth l k) with
   | true=>
    rw [zQ (y:= .inr (nth l k).Value) (by show xJ l c (k:Int)=_;rw [hb k hk,hi];rfl)]
    unfold clE
    rw [zLL hk h3 hi]
    rfl
   | false=>
    rw [z4 (x':=((k+1:Nat):Int)) (by show xJ l c (k:Int)=_;rw [hb k hk,hi];rfl)]
    refine ih (k+1) (by omega) (by omega) fun j hj=>?_
    by_cases e:j=k
    · subst e;exact hi
    · exact h3 j (by omega)
 exact key l.length 0 (by omega) (by omega) (fun j hj=>by omega)
theorem zYH {l:List Span} (hl:l.length≤2000) (h:CV l) (c:Int):zCB l c=some (decide (clE l c=0)):=by
 unfold zCB
 rw [zWJ hl h]
 rfl
end Go.M
namespace Go.M
open Go.AV
theorem yC4 {a b c:Mapping} (h1:mlt a b) (h2:mlt b c):mlt a c:=by
 unfold mlt at*
 rcases h1 with h1 | ⟨h1,t1⟩
 rcases h2 with h2 | ⟨h2,t2⟩
 exact .inl (by omega)
 exact .inl (by omega)
 rcases h2 with h2 | ⟨h2,t2⟩
 exact .inl (by omega)
 exact .inr ⟨by omega,List.lt_trans t1 t2⟩
theorem z9N {a b:Mapping} (h:mlt a b):¬(a.From=b.From∧a.Tag=b.Tag):=by
 rintro ⟨h1,h2⟩
 unfold mlt at h
 rcases h with h | ⟨_,h⟩
 omega
 rw [h2] at h;exact List.lt_irrefl _ h
theorem zZ1 {l:List Mapping} (h:∀k,k+1 < l.length→mlt (nth l k) (nth l (k+1))):∀(d i:Nat),i+d+1 < l.length→mlt (nth l i) (nth l (i+d+1))
 | 0,i,hi=>h i hi
 | d+1,i,hi=>by
  have h1:=zZ1 h d i (by omega)
  have h3:=h (i+d+1) (by omega)
  have:i+(d+1)+1=i+d+1+1:=by omega
  rw [this]
  exact yC4 h1 h3
theorem yFG (x y:Str):(x==y)=decide (x=y):=by
 rw [Bool.eq_iff_iff];simp
section
variable {l:List Mapping} (hl:l.length≤2000) (hto:∀m∈l,m.To.length≤2000) (htg:∀m∈l,m.Tag.length≤MX)
include hl hto htg
omit hl hto htg in
theorem z6L {m:Mapping} (hm:m.To.length≤2000):∃b,zD8 m=some b∧(b=true↔codesOk m):=by
 unfold zD8
 have h:=kV (body:=fun (x:Int)=>zAJ m x) m.To.length (fun j=>vld (nth m.To j)=true) (fun y=>y=false) (fun j hj=>by
  simp only [zAJ,kB hj,cond_true,zX hj,zA,zEG,zM (k:=j) (by omega)]
  exact vV (by simp) rfl) (fun j hj=>by simp only [zAJ,kQ hj,cond_false])
 rw [zAZ (p:=fun c=>vld c=true)] at h
 rcases h with ⟨h,p⟩ | ⟨y,rfl,h,p⟩
 rw [h]
 simp only [zA,Sum.elim_inl,zEG]
 exact ⟨_,rfl,⟨fun a=>⟨a,p⟩,fun a=>a.1⟩⟩
 rw [h];exact ⟨false,rfl,by simp only [Bool.false_eq_true,false_iff];exact fun a=>p a.2⟩
omit hto htg in
theorem z6M:∃b,zD9 l=some b∧(b=true→¬∀k,k+1 < l.length→mlt (nth l k) (nth l (k+1)))∧(b=false→True):=by
 unfold zD9
 have inner:∀i,i < l.length→(zE (fun (x:Int)=>wO (i:Int) l x) 0=some (.inl ())∧∀j,j < i→¬((nth l i).From=(nth l j).From∧(nth l i).Tag=(nth l j).Tag))∨(∃y,y=true∧zE (fun (x:Int)=>wO (i:Int) l x) 0=some (.inr y)∧¬∀j,j < i→¬((nth l i).From=(nth l j).From∧(nth l i).Tag=(nth l j).Tag)):=by
  intro i hi
  refine kV (body:=fun (x:Int)=>wO (i:Int) l x) i _ (fun y=>y=true) (fun j hj=>?_) (fun j hj=>by simp only [wO,kQ hj,cond_false])
  have hj':j < l.length:=by omega
  simp only [wO,kB hj,cond_true,zX hi,zX hj',zA,zO,zM (k:=j) (by omega),yFG]
  by_cases a:(nth l i).From=(nth l j).From
  simp only [a,decide_true,xN,zA,Bool.true_and,true_and]
  exact vV (by simp) rfl
  simp only [a,decide_false,vY,zA,Bool.false_and,cond_false,false_and]
  exact .inl ⟨by simp,trivial⟩
 have h:=kV (body:=fun (x:Int)=>zAK l x) l.length (fun i=> ∀j,j < i→¬((nth l i).From=(nth l j).From∧(nth l i).Tag=(nth l j).Tag)) (fun y=>y=true) (fun k hk=>by
  simp only [zAK,kB hk,cond_true,zM (k:=k) (by omega)]
  rcases inner k hk with ⟨h,p⟩ | ⟨y,hy,h,p⟩
  rw [h];exact .inl ⟨p,rfl⟩
  rw [h];exact .inr ⟨p,y,hy,rfl⟩) (fun j hj=>by simp only [zAK,kQ hj,cond_false])
 rcases h with ⟨h,p⟩ | ⟨y,rfl,h,p⟩
 rw [h];exact ⟨false,rfl,fun h=>(by cases h),fun _=>trivial⟩
 rw [h]
 refine ⟨true,rfl,fun _ hh=>p fun i hi j hj=>?_,fun _=>trivial⟩
 have:=zZ1 hh (i - j - 1) j (by omega)
 rw [show j+(i - j - 1)+1=i by omega] at this
 have:=z9N this
 exact fun ⟨a,b⟩=>this ⟨a.symm,b.symm⟩
theorem yC5:∃e,zBP l=some e∧(e=0→(∀m∈l,codesOk m)∧(∀m∈l,m.To.length≤64)∧∀m∈l,tagOk m)∧(e≠0→¬MV l):=by
 unfold zBP
 have h0:=kV (body:=fun (x:Int)=>wY l x) l.length (fun k=>codesOk (nth l k)) (fun y=>y≠0) (fun k hk=>by
  obtain ⟨b,hb,hp⟩:=z6L (hto _ (vX hk))
  simp only [wY,kB hk,cond_true,zX hk,zA,hb,zM (k:=k) (by omega)]
  exact vV (by rw [←hp];simp) (by decide)) (fun k hk=>by simp only [wY,kQ hk,cond_false])
 rw [zAZ (p:=codesOk)] at h0
 rcases h0 with ⟨h0,p0⟩ | ⟨y,hy,h0,p0⟩
 case inr=>rw [h0];exact ⟨y,rfl,fun h=>absurd h hy,fun _ h=>p0 h.co⟩
 rw [h0]
 simp only [zA,Sum.elim_inl]
 have h1:=kV (body:=fun (x:Int)=>wZ l x) l.length (fun k=>(nth l k).To.length≤64) (fun y=>y≠0) (fun k hk=>by
  simp only [wZ,kB hk,cond_true,zX hk,zA,zM (k:=k) (by omega)]
  exact vV (by simp only [decide_eq_true_eq];omega) (by decide)) (fun k hk=>by simp only [wZ,kQ hk,cond_false])
 rw [zAZ (p:=fun (m:Mapping)=>m.To.length≤64)] at h1
 rcases h1 with ⟨h1,p1⟩ | ⟨y,hy,h1,p1⟩
 case inr=>rw [h1];exact ⟨y,rfl,fun h=>absurd h hy,fun _ h=>p1 h.sz⟩
 rw [h1]
 simp only [zA,Sum.elim_inl]
 have h2:=kV (body:=fun (x:Int)=>w6 l x) l.length (fun k=>tagOk (nth l k)) (fun y=>y≠0) (fun k hk=>by
  simp only [w6,kB hk,cond_true,zX hk,zA,zO,zM (k:=k) (by omega),tagOk,yFG]
  by_cases ht:(nth l k).Tag= []
  ·
   simp only [ht,decide_true,Bool.not_true,vY,zA,Bool.false_and,cond_false]
   exact .inl ⟨.inl trivial,trivial⟩
  ·
   simp only [ht,decide_false,Bool.not_false,xN,zA,zY8 (htg _ (vX hk)),Bool.true_and,false_or]
   exact vV (by simp) (by decide)) (fun k hk=>by simp only [w6,kQ hk,cond_false])
 rw [zAZ (p:=tagOk)] at h2
 rcases h2 with ⟨h2,p2⟩ | ⟨y,hy,h2,p2⟩
 case inr=>rw [h2];exact ⟨y,rfl,fun h=>absurd h hy,fun _ h=>p2 h.tg⟩
 rw [h2]
 simp only [zA,Sum.elim_inl]
 obtain ⟨b,hb,hp,_⟩:=z6M hl
 rw [hb,zA]
 cases b with
 | true=>exact ⟨5,rfl,fun h=>absurd h (by decide),fun _ h=>hp rfl h.lt⟩
 | false=>exact ⟨0,rfl,fun _=>⟨p0,p1,p2⟩,fun h=>absurd rfl h⟩
theorem yC6:Ver (zEA l) (MV l):=by
 obtain ⟨e,he,h0,h1⟩:=yC5 hl hto htg
 unfold zEA
 rw [he,zA]
 by_cases hz:e=0
 case neg=>
  have:(!decide (e=0))=true:=by simp [hz]
  rw [this,cond_true]
  exact ⟨e,rfl,by simp only [hz,false_iff];exact h1 hz⟩
 obtain ⟨p0,p1,p2⟩:=h0 hz
 rw [hz]
 simp only [decide_true,Bool.not_true,cond_false]
 have h3:=zI3 (body:=fun (x:Int)=>zAL l x) l.length (fun k=>mlt (nth l k) (nth l (k+1))) (fun y=>y≠0) (fun k hk=>by
  have hk':k < l.length:=by omega
  simp only [zAL,kB hk,cond_true,zX hk,zA,zM (k:=k+1) (by omega),zCE (k:=k) (by omega),zX hk',zE0,zO,z5P]
  exact vV (by unfold mlt;simp only [Bool.not_eq_true',Bool.or_eq_false_iff,Bool.and_eq_false_iff,decide_eq_false_iff_not,not_or,Classical.not_and_iff_not_or_not]) (by decide)) (fun k hk=>by simp only [zAL,kQ hk,cond_false])
 rcases h3 with ⟨h3,p3⟩ | ⟨y,hy,h3,p3⟩
 · rw [h3];exact ⟨0,rfl,by simp only [true_iff];exact ⟨p0,p1,p2,p3⟩⟩
 · rw [h3];exact ⟨y,rfl,by simp only [hy,false_iff];exact fun h=>p3 h.lt⟩
end
end Go.M
namespace Go.M
open Go.AV
section
variable {β:Type} [Inhabited β] (upd:List β→Nat→β)
def zMM:Nat→Nat→List β→List β
 | 0,_,out=>out
 | d+1,i,out=>zMM d (i+1) (out.set i (upd out i))
def zF2 (n:Nat):Nat→List β→List β
 | 0,out=>out
 | k+1,out=>zF2 n k (zMM upd n 0 out)
end
section
variable {β:Type} [Inhabited β] {upd:List β→Nat→β} {n:Nat} {Inv:List β→Prop}
theorem zTA {out:List β} {i j:Nat} {x: β} (hi:i < out.length):nth (out.set i x) j=if j=i then x else nth out j:=by
 unfold nth
 rw [List.getD_eq_getElem?_getD,List.getD_eq_getElem?_getD,List.getElem?_set]
 by_cases h:i=j
 subst h;simp [hi]
 rw [if_neg h,if_neg (fun e=>h e.symm)]
omit [Inhabited β] in
theorem zNS:∀(d i:Nat) (out:List β),(zMM upd d i out).length=out.length
 | 0,_,_=>rfl
 | d+1,i,out=>by rw [zMM,zNS d];simp
omit [Inhabited β] in
theorem zNT (hi:∀i out,i < n→out.length=n→Inv out→Inv (out.set i (upd out i))):∀(d i:Nat) (out:List β),i+d=n→out.length=n→Inv out→Inv (zMM upd d i out)
 | 0,_,_,_,_,h=>h
 | d+1,i,out,hd,hl,h=>by
  rw [zMM]
  exact zNT hi d (i+1) _ (by omega) (by simp [hl]) (hi i out (by omega) hl h)
omit [Inhabited β] in
theorem zTB (hi:∀i out,i < n→out.length=n→Inv out→Inv (out.set i (upd out i))):∀(k:Nat) (out:List β),out.length=n→Inv out→Inv (zF2 upd n k out)∧(zF2 upd n k out).length=n
 | 0,_,hl,h=>⟨h,hl⟩
 | k+1,out,hl,h=>by
  rw [zF2]
  exact zTB hi k _ (by rw [zNS,hl]) (zNT hi n 0 out (by omega) hl h)
theorem z6N {R R' : Nat → Prop} {t : Nat → β} (hm : ∀ j, R j → R' j) (hi : ∀ i out, i < n → out.length = n → Inv out → Inv (out.set i (upd out i)))
    (hs : ∀ out i, i < n → out.length = n → Inv out → (∀ j, j < n → R j → nth out j = t j) → R' i → upd out i = t i) :
    ∀ (d i : Nat) (out : List β), i + d = n → out.length = n → Inv out → (∀ j, j < n → R j → nth out j = t j) → (∀ j, j < i → R' j → nth out j = t j) → ∀ j, j < n → R' j → nth (zMM upd d i out) j = t j
  | 0, i, out, hd, hl, h, h1, h2, j, hj, hr => h2 j (by omega) hr
  | d + 1, i, out, hd, hl, h, h1, h2, j, hj, hr => by
    have hin : i < n := by omega
    have hu : R' i → upd out i = t i := hs out i hin hl h h1
    rw [zMM]
    refine z6N hm hi hs d (i + 1) _ (by omega) (by simp [hl]) (hi i out hin hl h) (fun j hj hr => ?_) (fun j hj hr => ?_) j hj hr
    · rw [zTA (by omega)]
      split
      · rename_i e; subst e; exact hu (hm _ hr)
      · exact h1 j hj hr
    · rw [zTA (by omega)]
      split
      · rename_i e; subst e; exact hu hr
      · exact h2 j (by omega) hr
theorem zYI {R : Nat → Nat → Prop} {t : Nat → β} (hm : ∀ r j, R r j → R (r + 1) j) (hi : ∀ i out, i < n → out.length = n → Inv out → Inv (out.set i (upd out i)))
    (hs : ∀ r out i, i < n → out.length = n → Inv out → (∀ j, j < n → R r j → nth out j = t j) → R (r + 1) i → upd out i = t i) :
    ∀ (k r : Nat) (out : List β), out.length = n → Inv out → (∀ j, j < n → R r j → nth out j = t j) → ∀ j, j < n → R (r + k) j → nth (zF2 upd n k out) j = t j
  | 0, _, _, _, _, h, j, hj, hr => h j hj hr
  | k + 1, r, out, hl, h, h1, j, hj, hr => by
    rw [zF2]
    have := z6N (R := R r) (R' := R (r + 1)) (hm r) hi (hs r) n 0 out (by omega) hl h h1 (fun j hj => by omega)
    refine zYI hm hi hs k (r + 1) _ (by rw [zNS, hl]) (zNT hi n 0 out (by omega) hl h) this j hj ?_
    rw [show r + 1 + k = r + (k + 1) by omega]; exact hr
omit [Inhabited β] in
theorem zPK {X Y : Type} (mk : Nat → List β → X) {body : X → Option (Stp X Y)} (fin : List β → Y)
    (hb : ∀ i out, i < n → out.length = n → Inv out → body (mk i out) = some (.next (mk (i + 1) (out.set i (upd out i)))))
    (hi : ∀ i out, i < n → out.length = n → Inv out → Inv (out.set i (upd out i)))
    (he : ∀ out, body (mk n out) = some (.done (fin out))) : ∀ (d i : Nat) (out : List β), i + d = n → out.length = n → Inv out → zE body (mk i out) = some (fin (zMM upd d i out))
  | 0, i, out, hd, hl, h => by
    have : i = n := by omega
    subst this
    exact zQ (he out)
  | d + 1, i, out, hd, hl, h => by
    rw [z4 (hb i out (by omega) hl h), zMM]
    exact zPK mk fin hb hi he d (i + 1) _ (by omega) (by simp [hl]) (hi i out (by omega) hl h)
omit [Inhabited β] in
theorem zPL {X Y : Type} (mk : Nat → List β → X) {body : X → Option (Stp X Y)} (fin : List β → Y) {N : Nat}
    (hb : ∀ r out, r < N → out.length = n → Inv out → body (mk r out) = some (.next (mk (r + 1) (zMM upd n 0 out))))
    (hi : ∀ i out, i < n → out.length = n → Inv out → Inv (out.set i (upd out i)))
    (he : ∀ out, body (mk N out) = some (.done (fin out))) : ∀ (k r : Nat) (out : List β), r + k = N → out.length = n → Inv out → zE body (mk r out) = some (fin (zF2 upd n k out))
  | 0, r, out, hd, hl, h => by
    have : r = N := by omega
    subst this
    exact zQ (he out)
  | k + 1, r, out, hd, hl, h => by
    rw [z4 (hb r out (by omega) hl h), zF2]
    exact zPL mk fin hb hi he k (r + 1) _ (by omega) (by rw [zNS, hl]) (zNT hi n 0 out (by omega) hl h)
end
theorem zWK {A Y:Type} {p:Nat→A→Option Y}:∀{l:List A} {k:Nat} {y:Y},vQ p l k=some y→∃j,∃h:j < l.length,p (k+j) l[j]=some y
 | [],_,_,h=>by cases h
 | x::l,k,y,h=>by
  unfold vQ at h
  cases hp:p k x with
  | some z=>
   rw [hp] at h
   exact ⟨0,by simp,by simpa [hp] using h⟩
  | none=>
   rw [hp] at h
   obtain ⟨j,hj,e⟩:=zWK h
   exact ⟨j+1,by simpa using hj,by rw [show k+(j+1)=k+1+j by omega];simpa using e⟩
theorem zRU {A Y:Type} {p:Nat→A→Option Y}:∀{l:List A} {k j:Nat} (h:j < l.length),p (k+j) l[j]≠none→∃i,∃hi:i < l.length,i≤j∧vQ p l k=p (k+i) l[i]
 | [],_,_,h,_=>by cases h
 | x::l,k,j,h,hp=>by
  unfold vQ
  cases hx:p k x with
  | some z=>exact ⟨0,by simp,Nat.zero_le _,by simp [hx]⟩
  | none=>
   cases j with
   | zero=>exact absurd (by simpa using hx) hp
   | succ j=>
    obtain ⟨i,hi,hij,e⟩:=zRU (p:=p) (l:=l) (k:=k+1) (j:=j) (by simpa using h) (by rw [show k+1+j=k+(j+1) by omega];simpa using hp)
    exact ⟨i+1,by simpa using hi,by omega,by rw [show k+(i+1)=k+1+i by omega];simpa using e⟩
def pM (c:Int) (b:Bool) (k:Nat) (m:Mapping):Option Nat:=if m.From=c∧(b ||(m.Tag== []))=true then some k else none
def fi (l:List Mapping) (c:Int) (b:Bool):Option Nat:=vQ (pM c b) l 0
theorem zLO {l:List Mapping} {c:Int} {b:Bool} {i:Nat} (h:fi l c b=some i):i < l.length∧(nth l i).From=c∧(b ||((nth l i).Tag== []))=true:=by
 obtain ⟨j,hj,e⟩:=zWK h
 unfold pM at e
 split at e
 rename_i hp
 injection e with e
 have:i=j:=by omega
 subst this
 rw [zBF hj]
 exact ⟨hj,hp⟩
 cases e
theorem zZ2 {l:List Mapping} {c:Int} {b:Bool} (h:fi l c b=none):∀m∈l,¬(m.From=c∧(b ||(m.Tag== []))=true):=by
 intro m hm hp
 obtain ⟨j,hj,rfl⟩:=List.getElem_of_mem hm
 have:=zIN h j hj
 unfold pM at this
 rw [if_pos hp] at this
 cases this
theorem z6O {l:List Mapping} (hd:DS l) (c:Int) (b:Bool):(∃i,fi l c b=some i∧i < l.length∧(nth l i).From=c∧fnB l b c=some (nth l i).To)∨(fi l c b=none∧fnB l b c=none):=by
 cases hf:fi l c b with
 | some i=>
  obtain ⟨h1,h2,h3⟩:=zLO hf
  refine .inl ⟨i,rfl,h1,h2,?_⟩
  have:=zE9 hd (vX h1)
  rw [h2] at this
  unfold fnB
  rw [this]
  simp only [h3,if_true]
 | none=>
  refine .inr ⟨rfl,?_⟩
  cases hn:fnB l b c with
  | none=>rfl
  | some to=>
   obtain ⟨m,h1,_,h3⟩:=zG3 hn
   obtain ⟨h4,h5⟩:=zDV h1
   exact absurd ⟨h5,h3⟩ (zZ2 hf m h4)
def fiI (l:List Mapping) (c:Int) (b:Bool):Int:=match fi l c b with
 | some i=>(i:Int)
 | none=> -1
end Go.M
namespace Go.M
open Go.AV
section
variable {l:List Mapping} (hd:DS l)
def zKA (l:List Mapping) (out:List Bool) (i:Nat):Bool:=(nth l i).To.all fun e=>match fi l e true with
 | some m=>nth out m
 | none=>true
def z2K (l:List Mapping) (out:List Bool):Prop:= ∀j,j < l.length→nth out j=true→WW l (nth l j).From
include hd
theorem z9O {out:List Bool} (h:z2K l out) {i:Nat} (hi:i < l.length) (hu:zKA l out i=true):WW l (nth l i).From:=by
 refine zV7 fun e he=>?_
 rw [zV6 hd (vX hi)] at he
 have:=List.all_eq_true.1 hu e he
 rcases z6O hd e true with ⟨m,h1,h2,h3,_⟩ | ⟨h1,h2⟩
 rw [h1] at this
 have:=h m h2 this
 rw [h3] at this;exact this
 cases hs:syl e with
 | true=>exact yCN hd hs
 | false=>
  refine zS4 ?_
  unfold dep
  rw [if_neg (by simp [hs])]
  rw [zPC] at h2
  cases hf:l.find? (isF e) with
  | none=>rfl
  | some m=>rw [hf] at h2;cases h2
theorem zRV (i:Nat) (out:List Bool) (hi:i < l.length) (hl:out.length=l.length) (h:z2K l out):z2K l (out.set i (zKA l out i)):=by
 intro j hj hn
 rw [zTA (by omega)] at hn
 split at hn
 rename_i e;subst e;exact z9O hd h hi hn
 exact h j hj hn
theorem z9P (r:Nat) (out:List Bool) (i:Nat) (hi:i < l.length) (_hl:out.length=l.length) (h1:∀j,j < l.length→DD l r (nth l j).From→nth out j=true) (hr:DD l (r+1) (nth l i).From):zKA l out i=true:=by
 refine List.all_eq_true.2 fun e he=>?_
 have:=hr (nth l i) (zE9 hd (vX hi)) e he
 rcases z6O hd e true with ⟨m,e1,e2,e3,_⟩ | ⟨e1,_⟩
 rw [e1]
 exact h1 m e2 (by rw [e3];exact this)
 rw [e1]
theorem z6P:(∀j,j < l.length→nth (zF2 (zKA l) l.length l.length (List.replicate l.length false)) j=true)↔∀m∈l,WW l m.From:=by
 have h0:z2K l (List.replicate l.length false):=by
  intro j hj hn
  rw [zBF (by simpa using hj)] at hn
  simp at hn
 constructor
 intro h
 have hv:=(zTB (upd:=zKA l) (n:=l.length) (Inv:=z2K l) (zRV hd) l.length _ (by simp) h0).1
 rw [←zAZ (p:=fun m:Mapping=>WW l m.From)]
 exact fun k hk=>hv k hk (h k hk)
 intro H j hj
 have hp:=z51 hd H
 refine zYI (upd:=zKA l) (n:=l.length) (Inv:=z2K l) (R:=fun r j=>j < l.length∧DD l r (nth l j).From) (t:=fun _=>true) (fun r j h=>⟨h.1,zI6 h.2⟩) (zRV hd) (fun r out i hi hl _ h1 hr=>z9P hd r out i hi hl (fun j hj hr=>h1 j hj ⟨hj,hr⟩) hr.2) l.length 0 _ (by simp) h0 (fun j hj hr=>?_) j hj ⟨hj,by rw [Nat.zero_add];exact hp _ (vX hj)⟩
 have:l.find? (isF (nth l j).From)=none:=hr.2
 rw [zE9 hd (vX hj)] at this
 cases this
end
section
variable {l:List Mapping} (hd:DS l) (hD:∀c,DD l l.length c) {b:Bool}
def lenOf (l:List Mapping) (b:Bool) (out:List Int) (e:Int):Int:=match fi l e b with
 | some m=>nth out m
 | none=>((hdE e).length:Int)
def updL (l:List Mapping) (b:Bool) (out:List Int) (i:Nat):Int:=if (b ||((nth l i).Tag== []))=true then min (max (((nth l i).To.map (lenOf l b out)).sum) 1) 65 else 1
def zTC (out:List Int):Prop:= ∀x∈out,0≤x∧x≤65
theorem z9Q (out:List Int) (i:Nat):0≤updL l b out i∧updL l b out i≤65:=by
 unfold updL;split <;> omega
theorem zMN (i:Nat) (out:List Int) (_hi:i < l.length) (_hl:out.length=l.length) (h:zTC out):zTC (out.set i (updL l b out i)):=by
 intro x hx
 rcases List.mem_or_eq_of_mem_set hx with hx | rfl
 exact h x hx
 exact z9Q out i
include hd hD
theorem z9R {i:Nat} (hi:i < l.length):wt l b (nth l i).From=if (b ||((nth l i).Tag== []))=true then min (max (((nth l i).To.map (wt l b)).sum) 1) 65 else 1:=by
 rw [zRS hD]
 unfold fnB
 rw [zE9 hd (vX hi)]
 by_cases ht:(b ||((nth l i).Tag== []))=true
 simp only [ht,if_true]
 have hs:=zPA hd (vX hi)
 have e1:hdE (nth l i).From= [(nth l i).From]:=by unfold hdE;rw [if_neg (by simp [hs])]
 rw [if_neg ht]
 simp only [e1]
 rw [if_neg ht]
 rfl
omit hD in
theorem z6Q {out:List Int} {e:Int} (hD':fnB l b e=none→wt l b e=((hdE e).length:Int)) (h:∀m,m < l.length→(nth l m).From=e→nth out m=wt l b e):lenOf l b out e=wt l b e:=by
 unfold lenOf
 rcases z6O hd e b with ⟨m,e1,e2,e3,_⟩ | ⟨e1,e2⟩
 rw [e1];exact h m e2 e3
 rw [e1,hD' e2]
theorem z9S (r : Nat) (out : List Int) (i : Nat) (hi : i < l.length) (h1 : ∀ j, j < l.length → DD l r (nth l j).From → nth out j = wt l b (nth l j).From) (hr : DD l (r + 1) (nth l i).From) : updL l b out i = wt l b (nth l i).From := by
  rw [z9R hd hD hi]
  unfold updL
  split
  · have : (nth l i).To.map (lenOf l b out) = (nth l i).To.map (wt l b) := List.map_congr_left fun e he => by
      have hde := hr (nth l i) (zE9 hd (vX hi)) e he
      exact z6Q hd (fun hn => by rw [zRS hD, hn]) fun m hm hf => by rw [← hf]; exact h1 m hm (by rw [hf]; exact hde)
    rw [this]
  · rfl
theorem zZ3 (j:Nat) (hj:j < l.length):nth (zF2 (updL l b) l.length l.length (List.replicate l.length 0)) j=wt l b (nth l j).From:=by
 have h0:zTC (List.replicate l.length 0):=fun x hx=>by rw [(List.mem_replicate.1 hx).2];omega
 refine zYI (upd:=updL l b) (n:=l.length) (Inv:=zTC) (R:=fun r j=>j < l.length∧DD l r (nth l j).From) (t:=fun j=>wt l b (nth l j).From) (fun r j h=>⟨h.1,zI6 h.2⟩) zMN (fun r out i hi hl _ h1 hr=>z9S hd hD r out i hi (fun j hj hr=>h1 j hj ⟨hj,hr⟩) hr.2) l.length 0 _ (by simp) h0 (fun j hj hr=>?_) j hj ⟨hj,by rw [Nat.zero_add];exact hD _⟩
 have:l.find? (isF (nth l j).From)=none:=hr.2
 rw [zE9 hd (vX hj)] at this
 cases this
end
end Go.M
namespace Go.M
open Go.AV
def plF (n:Int):Bool→List Int→Bool×List Int
 | true,l=>(true,l)
 | false,[]=>(false,[])
 | false,x::l=>if n≤x then (true,if n < x then n::x::l else x::l) else ((plF n false l).1,x::(plF n false l).2)
def plE (n:Int):List Int→List Int
 | []=>[n]
 | x::l=>if n≤x then (if n < x then n::x::l else x::l) else x::plE n l
theorem yA5 (n:Int):∀l:List Int,(if (plF n false l).1=true then (plF n false l).2 else (plF n false l).2++ [n])=plE n l
 | []=>rfl
 | x::l=>by
  have:=yA5 n l
  unfold plF plE
  by_cases h:n≤x
  simp [h]
  simp only [h,if_false]
  rw [←this]
  split <;> simp
theorem zYJ {l : List Int} {n : Int} (hl : l.length ≤ 2000) : ∀ (d k : Nat) (b : Bool) (out : List Int), l.length - k = d → k ≤ l.length → out.length ≤ 2 * k →
    zE (fun (x : Bool × Int × (List Int)) => jA l n x.1 x.2.1 x.2.2) (b, (k : Int), out) = some ((plF n b (l.drop k)).1, out ++ (plF n b (l.drop k)).2) := by
  intro d
  induction d with
  | zero =>
    intro k b out h1 h2 h3
    rw [List.drop_of_length_le (show l.length ≤ k by omega)]
    refine zQ ?_
    simp only [jA, kQ (show l.length ≤ k by omega), cond_false]
    cases b <;> simp [plF]
  | succ d ih =>
    intro k b out h1 h2 h3
    have hk : k < l.length := by omega
    have ha : ∀ {o : List Int} (x : Int), o.length ≤ 2 * k + 1 → app o [x] = some (o ++ [x]) := fun {o} x ho => zBR (by simp; omega)
    rw [List.drop_eq_getElem_cons hk]
    have nx : ∀ (b' : Bool) (o' : List Int), o'.length ≤ 2 * (k + 1) → jA l n b (k : Int) out = some (.next (b', ((k + 1 : Nat) : Int), o')) → (plF n b' (l.drop (k + 1))).1 = (plF n b (l[k] :: l.drop (k + 1))).1 → o' ++ (plF n b' (l.drop (k + 1))).2 = out ++ (plF n b (l[k] :: l.drop (k + 1))).2 →
        zE (fun (x : Bool × Int × (List Int)) => jA l n x.1 x.2.1 x.2.2) (b, (k : Int), out) = some ((plF n b (l[k] :: l.drop (k + 1))).1, out ++ (plF n b (l[k] :: l.drop (k + 1))).2) := by
      intro b' o' ho hb e1 e2
      rw [z4 (body := fun (x : Bool × Int × (List Int)) => jA l n x.1 x.2.1 x.2.2) (x := (b, (k : Int), out)) hb, ih (k + 1) b' o' (by omega) (by omega) ho, e1, e2]
    cases b with
    | true =>
      refine nx true (out ++ [l[k]]) (by simp; omega) ?_ ?_ ?_
      · simp only [jA, kB hk, cond_true, zO, Bool.not_true, vY, zA, Bool.false_and, cond_false, z2 hk, ha _ (show out.length ≤ 2 * k + 1 by omega), zM (k := k) (by omega)]
      · simp [plF]
      · simp [plF]
    | false =>
      by_cases h4 : n ≤ l[k]
      · by_cases h5 : n < l[k]
        · refine nx true (out ++ [n] ++ [l[k]]) (by simp; omega) ?_ ?_ ?_
          · simp only [jA, kB hk, cond_true, zO, Bool.not_false, xN, zA, Bool.true_and, z2 hk, h4, h5, decide_true, ha _ (show out.length ≤ 2 * k + 1 by omega), ha _ (show (out ++ [n]).length ≤ 2 * k + 1 by simp; omega), zM (k := k) (by omega)]
          · simp [plF, h4]
          · simp [plF, h4, h5]
        · refine nx true (out ++ [l[k]]) (by simp; omega) ?_ ?_ ?_
          · simp only [jA, kB hk, cond_true, zO, Bool.not_false, xN, zA, Bool.true_and, z2 hk, h4, h5, decide_true, decide_false, cond_false, ha _ (show out.length ≤ 2 * k + 1 by omega), zM (k := k) (by omega)]
          · simp [plF, h4]
          · simp [plF, h4, h5]
      · refine nx false (out ++ [l[k]]) (by simp; omega) ?_ ?_ ?_
        · simp only [jA, kB hk, cond_true, zO, Bool.not_false, xN, zA, Bool.true_and, z2 hk, h4, decide_false, cond_false, ha _ (show out.length ≤ 2 * k + 1 by omega), zM (k := k) (by omega)]
        · simp [plF, h4]
        · simp [plF, h4]
theorem zZ4 (n:Int):∀l:List Int,(plF n false l).2.length≤l.length+1
 | []=>by simp [plF]
 | x::l=>by
  have:=zZ4 n l
  unfold plF
  by_cases h:n≤x
  by_cases h5:n < x <;> simp [h,h5]
  simp only [h,if_false,List.length_cons];omega
theorem zLP {l:List Int} (hl:l.length≤2000) (n:Int):zBQ l n=some (plE n l):=by
 unfold zBQ
 have h:=zYJ (n:=n) hl l.length 0 false [] (by omega) (by omega) (by simp)
 have hlen:=zZ4 n l
 rw [List.drop_zero,List.nil_append] at h
 have h':zE (fun (x:Bool×Int×(List Int))=>jA l n x.1 x.2.1 x.2.2) (false,0,[])=some ((plF n false l).1,(plF n false l).2):=h
 rw [h',zA,←yA5]
 cases (plF n false l).1 with
 | true=>rfl
 | false=>simp only [Bool.not_false,cond_true,zBR (show (plF n false l).2.length+ [n].length≤4294967296 by simp;omega),zA];rfl
def Gd (l:List Int):Prop:=l.Pairwise (· < ·)∧∀x∈l,0≤x∧x≤1114111
theorem zTD (n:Int):∀{l:List Int} {x:Int},x∈plE n l→x=n∨x∈l
 | [],x,h=>by simp [plE] at h;exact .inl h
 | y::l,x,h=>by
  unfold plE at h
  split at h
  split at h
  rcases List.mem_cons.1 h with h | h
  exact .inl h
  exact .inr h
  exact .inr h
  rcases List.mem_cons.1 h with h | h
  exact .inr (by simp [h])
  rcases zTD n h with h | h
  exact .inl h
  exact .inr (by simp [h])
theorem zZ5 (n:Int):∀{l:List Int},l.Pairwise (· < ·)→(plE n l).Pairwise (· < ·)
 | [],_=>by simp [plE]
 | y::l,h=>by
  obtain ⟨h1,h2⟩:=List.pairwise_cons.1 h
  unfold plE
  split
  split
  rename_i hn
  refine List.pairwise_cons.2 ⟨fun z hz=>?_,h⟩
  rcases List.mem_cons.1 hz with rfl | hz
  exact hn
  have:=h1 z hz;omega
  exact h
  rename_i hn
  refine List.pairwise_cons.2 ⟨fun z hz=>?_,zZ5 n h2⟩
  rcases zTD n hz with rfl | hz
  omega
  exact h1 z hz
theorem zMO {n:Int} (hn:0≤n∧n≤1114111) {l:List Int} (h:Gd l):Gd (plE n l):=by
 refine ⟨zZ5 n h.1,fun x hx=>?_⟩
 rcases zTD n hx with rfl | hx
 exact hn
 exact h.2 x hx
theorem zJB (n:Int):∀l:List Int,(plE n l).length≤l.length+1
 | []=>by simp [plE]
 | x::l=>by
  have:=zJB n l
  unfold plE
  split
  split <;> simp
  simp only [List.length_cons];omega
theorem zTE {n:Int}:∀{l:List Int},(∀x∈l,x < n)→plE n l=l++ [n]
 | [],_=>rfl
 | y::l,h=>by
  have hy:=h y (by simp)
  unfold plE
  rw [if_neg (by omega),zTE fun x hx=>h x (by simp [hx])]
  rfl
def cuS (c:List Int) (r:Range):List Int:=if 0≤r.Hi∧r.Hi < 1114111 then plE (r.Hi+1) (if vld r.Lo=true then plE r.Lo c else c) else (if vld r.Lo=true then plE r.Lo c else c)
theorem zZ6 (c:List Int) (r:Range):(cuS c r).length≤c.length+2:=by
 have h1:=zJB r.Lo c
 unfold cuS
 split
 ·
  have h2:=zJB (r.Hi+1) (if vld r.Lo=true then plE r.Lo c else c)
  split at h2 <;> split <;> simp_all <;> omega
 · split <;> omega
theorem yC7 {c:List Int} {r:Range} (h:Gd c):Gd (cuS c r):=by
 have h1:Gd (if vld r.Lo=true then plE r.Lo c else c):=by
  split
  rename_i hv
  unfold vld at hv
  simp only [Bool.and_eq_true,decide_eq_true_eq] at hv
  exact zMO hv h
  exact h
 unfold cuS
 split
 exact zMO (by omega) h1
 exact h1
def cuE (l:List Range) (c:List Int):List Int:=l.foldl cuS c
theorem zTF:∀(l:List Range) {c:List Int},Gd c→Gd (cuE l c)
 | [],_,h=>h
 | r::l,_,h=>zTF l (yC7 h)
theorem zTG:∀(l:List Range) (c:List Int),(cuE l c).length≤c.length+2*l.length
 | [],c=>by simp [cuE]
 | r::l,c=>by
  have h1:=zTG l (cuS c r)
  have h2:=zZ6 c r
  show (cuE l (cuS c r)).length≤_
  simp only [List.length_cons];omega
theorem z2M {s : Set} (hl : s.Ranges.length ≤ 12) : ∀ (d k : Nat) (c : List Int), s.Ranges.length - k = d → k ≤ s.Ranges.length → c.length ≤ 100 + 2 * k →
    zE (fun (x : (List Int) × Int) => wH s x.1 x.2) (c, (k : Int)) = some (cuE (s.Ranges.drop k) c) := by
  intro d
  induction d with
  | zero =>
    intro k c h1 h2 h3
    rw [List.drop_of_length_le (show s.Ranges.length ≤ k by omega)]
    refine zQ ?_
    simp only [wH, kQ (show s.Ranges.length ≤ k by omega), cond_false]
    rfl
  | succ d ih =>
    intro k c h1 h2 h3
    have hk : k < s.Ranges.length := by omega
    have hs := zZ6 c s.Ranges[k]
    have hb : wH s c (k : Int) = some (.next (cuS c s.Ranges[k], ((k + 1 : Nat) : Int))) := by
      have hp := zJB s.Ranges[k].Lo c
      simp only [wH, kB hk, cond_true, z2 hk, zA, zEG, zO, zM (k := k) (by omega), zLP (show c.length ≤ 2000 by omega)]
      unfold cuS
      by_cases hv : vld s.Ranges[k].Lo = true
      · simp only [hv, cond_true, zA, if_true]
        by_cases ha : 0 ≤ s.Ranges[k].Hi
        · by_cases hc : s.Ranges[k].Hi < 1114111
          · simp only [ha, hc, decide_true, Bool.and_self, cond_true, and_self, if_true]
            rw [wR (n := s.Ranges[k].Hi + 1) (by omega) (by omega), zLP (by omega)]
            rfl
          · simp [ha, hc]
        · simp [ha]
      · simp only [hv, Bool.false_eq_true, if_false, cond_false, zA]
        by_cases ha : 0 ≤ s.Ranges[k].Hi
        · by_cases hc : s.Ranges[k].Hi < 1114111
          · simp only [ha, hc, decide_true, Bool.and_self, cond_true, and_self, if_true]
            rw [wR (n := s.Ranges[k].Hi + 1) (by omega) (by omega), zLP (by omega)]
            rfl
          · simp [ha, hc]
        · simp [ha]
    rw [z4 (body := fun (x : (List Int) × Int) => wH s x.1 x.2) (x := (c, (k : Int))) hb, ih (k + 1) _ (by omega) (by omega) (by omega), List.drop_eq_getElem_cons hk]
    rfl
theorem zZ7 {s:Set} (hl:s.Ranges.length≤12) {c:List Int} (hc:c.length≤100):zDG c s=some (plE 0 (cuE s.Ranges c)):=by
 unfold zDG
 have h:=z2M hl s.Ranges.length 0 c (by omega) (by omega) (by omega)
 rw [List.drop_zero] at h
 have h':zE (fun (x:(List Int)×Int)=>wH s x.1 x.2) (c,0)=some (cuE s.Ranges c):=h
 have:=zTG s.Ranges c
 rw [h',zA,zLP (by omega)]
 rfl
def zDO (l:List Range) (c:Int):Bool:=l.any fun r=>vld c&&decide (r.Lo≤c)&&decide (c≤r.Hi)
theorem z6R {s:Set} (hl:s.Ranges.length≤2000) (c:Int):zDH s c=some (zDO s.Ranges c):=by
 unfold zDH
 have h:=kV (body:=fun (x:Int)=>zBV s c x) s.Ranges.length (fun k=> ¬(vld c&&decide ((nth s.Ranges k).Lo≤c)&&decide (c≤(nth s.Ranges k).Hi))=true) (fun y=>y=true) (fun k hk=>by
  simp only [zBV,kB hk,cond_true,zEG,zA,zO,zX hk,zM (k:=k) (by omega)]
  cases hv:vld c with
  | false=>simp only [vY,zA,Bool.false_and,cond_false];exact .inl ⟨by simp,trivial⟩
  | true=>
   simp only [xN,zA,Bool.true_and]
   by_cases h1:(nth s.Ranges k).Lo≤c
   simp only [h1,decide_true,xN,zA,Bool.true_and]
   exact vV (by simp) rfl
   simp only [h1,decide_false,vY,zA,Bool.false_and,cond_false]
   exact .inl ⟨by simp,trivial⟩) (fun k hk=>by simp only [zBV,kQ hk,cond_false])
 rw [zAZ (p:=fun r:Range=> ¬(vld c&&decide (r.Lo≤c)&&decide (c≤r.Hi))=true)] at h
 rcases h with ⟨h,p⟩ | ⟨y,rfl,h,p⟩
 rw [h]
 have:zDO s.Ranges c=false:=by unfold zDO;rw [List.any_eq_false];exact p
 rw [this];rfl
 rw [h]
 have:zDO s.Ranges c=true:=by
  cases he:zDO s.Ranges c with
  | true=>rfl
  | false=>exfalso;apply p;unfold zDO at he;rw [List.any_eq_false] at he;exact he
 rw [this];rfl
def nxt:List Int→Int
 | []=>1114111
 | d::_=>d - 1
def coF (has : Int → Bool) : List Int → Bool → List Range → List Range
  | [], _, o => o
  | c :: cs, op, o => if has c = true then (if op = true then coF has cs true (match o with
      | q :: o' => { q with Hi := nxt cs } :: o'
      | [] => []) else coF has cs true ({ Lo := c, Hi := nxt cs } :: o)) else coF has cs false o
theorem z9T {C : List Int} {s : Set} (hl : s.Ranges.length ≤ 12) (hC : C.length ≤ 200) (hg : Gd C) : ∀ (d k : Nat) (op : Bool) (o : List Range), C.length - k = d → k ≤ C.length → o.length ≤ k → (op = true → o ≠ []) →
    zE (fun (x : Bool × Int × (List Range)) => kY C s { Ranges := [] } 1 x.1 x.2.1 x.2.2) (op, (k : Int), o.reverse) = some (coF (zDO s.Ranges) (C.drop k) op o).reverse := by
  intro d
  induction d with
  | zero =>
    intro k op o h1 h2 h3 h4
    rw [List.drop_of_length_le (show C.length ≤ k by omega)]
    refine zQ ?_
    simp only [kY, kQ (show C.length ≤ k by omega), cond_false]
    rfl
  | succ d ih =>
    intro k op o h1 h2 h3 h4
    have hk : k < C.length := by omega
    have he : zDH { Ranges := [] } C[k] = some false := by rw [z6R (by simp)]; rfl
    have hnx : (cond (decide (((k + 1 : Nat) : Int) < (C.length : Int))) ((yK C ((k + 1 : Nat) : Int)).bind fun t31 => some (wi (t31 - 1))) (some 1114111) : Option Int) = some (nxt (C.drop (k + 1))) := by
      by_cases hk1 : k + 1 < C.length
      · have := hg.2 _ (List.getElem_mem hk1)
        rw [kB hk1, cond_true, z2 hk1, zA, wR (by omega) (by omega), List.drop_eq_getElem_cons hk1]
        rfl
      · rw [kQ (by omega), cond_false, List.drop_of_length_le (by omega)]
        rfl
    rw [List.drop_eq_getElem_cons hk]
    have nx : ∀ (op' : Bool) (o' : List Range), o'.length ≤ k + 1 → (op' = true → o' ≠ []) → kY C s { Ranges := [] } 1 op (k : Int) o.reverse = some (.next (op', ((k + 1 : Nat) : Int), o'.reverse)) → coF (zDO s.Ranges) (C.drop (k + 1)) op' o' = coF (zDO s.Ranges) (C[k] :: C.drop (k + 1)) op o →
        zE (fun (x : Bool × Int × (List Range)) => kY C s { Ranges := [] } 1 x.1 x.2.1 x.2.2) (op, (k : Int), o.reverse) = some (coF (zDO s.Ranges) (C[k] :: C.drop (k + 1)) op o).reverse := by
      intro op' o' ho hne hb e
      rw [z4 (body := fun (x : Bool × Int × (List Range)) => kY C s { Ranges := [] } 1 x.1 x.2.1 x.2.2) (x := (op, (k : Int), o.reverse)) hb, ih (k + 1) op' o' (by omega) (by omega) ho hne, e]
    have hb0 : kY C s { Ranges := [] } 1 op (k : Int) o.reverse = ((cond (zDO s.Ranges C[k] && op) ((yK o.reverse (wi ((o.reverse.length : Int) - 1))).bind fun t59 => (zBE o.reverse (wi ((o.reverse.length : Int) - 1)) ({ t59 with Hi := nxt (C.drop (k + 1)) })).bind fun r4160_4 => some r4160_4) (some o.reverse)).bind fun (y3 : List Range) =>
        (cond (zDO s.Ranges C[k] && !op) ((app y3 [({ Lo := C[k], Hi := nxt (C.drop (k + 1)) } : Range)]).bind fun r => some r) (some y3)).bind fun (y5 : List Range) => some (Stp.next (zDO s.Ranges C[k], ((k + 1 : Nat) : Int), y5))) := by
      unfold kY
      simp only [zM (k := k) (show k + 1 ≤ 9223372036854775807 by omega), kB hk, cond_true, hnx, zA, z2 hk, z6R (show s.Ranges.length ≤ 2000 by omega), he, zGC, decide_true, zO, Bool.or_false]
    cases hh : zDO s.Ranges C[k] with
    | false =>
      refine nx false o (by omega) (fun h => by cases h) ?_ ?_
      · rw [hb0, hh]; rfl
      · simp [coF, hh]
    | true =>
      cases op with
      | false =>
        refine nx true ({ Lo := C[k], Hi := nxt (C.drop (k + 1)) } :: o) (by simp; omega) (fun _ => by simp) ?_ ?_
        · rw [hb0, hh]
          simp only [Bool.and_false, cond_false, zA, Bool.not_false, Bool.and_self, cond_true, zBR (show o.reverse.length + [({ Lo := C[k], Hi := nxt (C.drop (k + 1)) } : Range)].length ≤ 4294967296 by simp; omega)]
          simp
        · simp [coF, hh]
      | true =>
        cases o with
        | nil => exact absurd rfl (h4 rfl)
        | cons q o =>
          refine nx true ({ q with Hi := nxt (C.drop (k + 1)) } :: o) (by simp only [List.length_cons] at h3 ⊢; omega) (fun _ => by simp) ?_ ?_
          · rw [hb0, hh]
            have e1 : wi (((q :: o).reverse.length : Int) - 1) = ((o.length : Nat) : Int) := by
              simp only [List.length_cons] at h3
              have hL : ((q :: o).reverse.length : Int) = (o.length : Int) + 1 := by simp
              rw [hL, wR (by omega) (by omega)]; omega
            have e2 : (q :: o).reverse = o.reverse ++ q :: [] := by simp
            rw [e1, e2, w8 (by simp), zA, uQ (by simp)]
            simp
          · simp [coF, hh]
theorem z6S {l:List Range} (hl:l.length≤12):zFL l=some {Ranges:=(coF (zDO l) (plE 0 (plE 0 (cuE l []))) false []).reverse}:=by
 unfold zFL zDS
 have h1:=zTG l []
 have h2:=zJB 0 (cuE l [])
 have h3:=zJB 0 (plE 0 (cuE l []))
 simp only [List.length_nil] at h1
 have e0:cuE ([]:List Range) (plE 0 (cuE l []))=plE 0 (cuE l []):=rfl
 have hg:Gd (plE 0 (plE 0 (cuE l []))):=zMO (by omega) (zMO (by omega) (zTF l ⟨.nil,fun x hx=>by cases hx⟩))
 rw [zZ7 (s:={Ranges:=l}) hl (by simp),zA,zZ7 (s:={Ranges:=[]}) (by simp) (show (plE 0 (cuE l [])).length≤100 by omega)]
 rw [zA]
 have h:=z9T (s:={Ranges:=l}) hl (by omega) hg _ 0 false [] rfl (by omega) (by simp) (fun h=>by cases h)
 rw [List.drop_zero] at h
 have h':zE (fun (x:Bool×Int×(List Range))=>kY (plE 0 (plE 0 (cuE l []))) {Ranges:=l} {Ranges:=[]} 1 x.1 x.2.1 x.2.2) (false,0,[])=some (coF (zDO l) (plE 0 (plE 0 (cuE l []))) false []).reverse:=h
 change ((zE (fun (x:Bool×Int×(List Range))=>kY (plE 0 (plE 0 (cuE l []))) {Ranges:=l} {Ranges:=[]} 1 x.1 x.2.1 x.2.2) (false,0,[])).bind fun y1=>some ({Ranges:=y1}:Set)).bind (fun t6=>some t6)=_
 rw [h']
 rfl
end Go.M
namespace Go.M
open Go.AV
theorem zNV {has:Int→Bool}:∀(C:List Int) (op:Bool) (o:List Range),Gd C→CanR o→(op=true→∀c,C.head? =some c→∃q o',o=q::o'∧q.Hi=c - 1∧q.Lo≤c)→(op=false→∀c q,C.head? =some c→o.head? =some q→q.Hi+1 < c)→(op=true→o≠[])→CanR (coF has C op o)
 | [],_,_,_,h,_,_,_=>h
 | c::cs,op,o,hg,ho,h1,h2,h3=>by
  obtain ⟨ha,hb⟩:=List.pairwise_cons.1 hg.1
  have hgs:Gd cs:=⟨hb,fun x hx=>hg.2 x (by simp [hx])⟩
  have hc:=hg.2 c (by simp)
  have hnx:c≤nxt cs∧nxt cs≤1114111∧∀d,cs.head? =some d→nxt cs=d - 1∧c < d:=by
   cases cs with
   | nil=>exact ⟨hc.2,Int.le_refl _,fun d hd=>by cases hd⟩
   | cons d cs=>
    have h5:=ha d (by simp)
    have h6:=hg.2 d (by simp)
    refine ⟨show c≤d - 1 by omega,show d - 1≤1114111 by omega,fun e he=>?_⟩
    simp only [List.head?_cons,Option.some.injEq] at he
    subst he
    exact ⟨rfl,h5⟩
  unfold coF
  split
  split
  rename_i hop
  obtain ⟨q,o',rfl,e1,e2⟩:=h1 hop c rfl
  refine zNV cs true _ hgs ?_ (fun _ d hd=>⟨_,_,rfl,(hnx.2.2 d hd).1,?_⟩) (fun h=>by cases h) (fun _=>by simp)
  have hq:=ho.head
  unfold zA0 at hq
  cases o' with
  | nil=>show zA0 _;unfold zA0;simp only;omega
  | cons z o'=>exact ⟨by unfold zA0;simp only;omega,ho.2.1,ho.2.2⟩
  have:=(hnx.2.2 d hd).2
  show q.Lo≤d
  omega
  rename_i hop
  simp only [Bool.not_eq_true] at hop
  refine zNV cs true _ hgs ?_ (fun _ d hd=>⟨_,_,rfl,(hnx.2.2 d hd).1,?_⟩) (fun h=>by cases h) (fun _=>by simp)
  cases o with
  | nil=>show zA0 _;unfold zA0;simp only;omega
  | cons z o'=>exact ⟨by unfold zA0;simp only;omega,h2 hop c z rfl rfl,ho⟩
  have:=(hnx.2.2 d hd).2
  show c≤d
  omega
  refine zNV cs false o hgs ho (fun h=>by cases h) (fun _ d q hd hq=>?_) (fun h=>by cases h)
  have h7:=(hnx.2.2 d hd).2
  cases op with
  | true=>
   obtain ⟨q',o',rfl,e1,_⟩:=h1 rfl c rfl
   simp only [List.head?_cons,Option.some.injEq] at hq
   subst hq
   omega
  | false=>
   have:=h2 rfl c q rfl hq
   omega
def zHY (l:List Range):List Int:=l.flatMap fun r=>r.Lo::if r.Hi < 1114111 then [r.Hi+1] else []
theorem z6T:∀(l:List Range) (c:List Int),Can l→(∀x∈c,∀r,l.head? =some r→x < r.Lo)→cuE l c=c++zHY l
 | [],c,_,_=>by simp [cuE,zHY]
 | r::l,c,h,hc=>by
  have hr:=h.head
  unfold zA0 at hr
  have hv:vld r.Lo=true:=by unfold vld;simp;omega
  have e1:plE r.Lo c=c++ [r.Lo]:=zTE fun x hx=>hc x hx r rfl
  have e2:cuS c r=c++(r.Lo::if r.Hi < 1114111 then [r.Hi+1] else []):=by
   unfold cuS
   rw [if_pos hv,e1]
   by_cases hm:r.Hi < 1114111
   rw [if_pos ⟨by omega,hm⟩,if_pos hm,zTE]
   simp
   intro x hx
   rcases List.mem_append.1 hx with hx | hx
   have:=hc x hx r rfl;omega
   simp only [List.mem_singleton] at hx;omega
   rw [if_neg (fun h=>hm h.2),if_neg hm]
  show cuE l (cuS c r)=_
  rw [z6T l (cuS c r) h.tail,e2]
  simp [zHY]
  intro x hx q hq
  have hg:r.Hi+1 < q.Lo:=h.gap q (by cases l with | nil=>cases hq | cons a l=>simp only [List.head?_cons,Option.some.injEq] at hq;simp [hq])
  rw [e2] at hx
  rcases List.mem_append.1 hx with hx | hx
  have:=hc x hx r rfl;omega
  rcases List.mem_cons.1 hx with rfl | hx
  omega
  split at hx
  simp only [List.mem_singleton] at hx;omega
  cases hx
theorem yC8 {l:List Range} (h:Can l) {r:Range} (hr:r∈l):zDO l r.Lo=true:=by
 have:=h.ok r hr
 unfold zA0 at this
 unfold zDO
 refine List.any_eq_true.2 ⟨r,hr,?_⟩
 unfold vld
 simp;omega
theorem z6U:∀{l:List Range},Can l→∀{r:Range},r∈l→zDO l (r.Hi+1)=false
 | [],_,r,hr=>by cases hr
 | a::l,h,r,hr=>by
  unfold zDO
  rw [List.any_eq_false]
  intro q hq
  have no:∀(c:Int) (q:Range),(c < q.Lo∨q.Hi < c)→¬(vld c&&decide (q.Lo≤c)&&decide (c≤q.Hi))=true:=by
   intro c q hc
   simp only [Bool.and_eq_true,decide_eq_true_eq]
   omega
  rcases List.mem_cons.1 hr with rfl | hr'
  refine no _ _ ?_
  rcases List.mem_cons.1 hq with rfl | hq
  omega
  have:=h.gap q hq;omega
  rcases List.mem_cons.1 hq with rfl | hq
  refine no _ _ ?_
  have h1:=h.gap r hr'
  have h2:=h.tail.ok r hr'
  unfold zA0 at h2
  omega
  have:=z6U h.tail hr'
  unfold zDO at this
  rw [List.any_eq_false] at this
  exact this q hq
theorem zZ8 {has : Int → Bool} : ∀ (l : List Range) (o : List Range), Can l → (∀ r ∈ l, has r.Lo = true ∧ (r.Hi < 1114111 → has (r.Hi + 1) = false)) → coF has (zHY l) false o = l.reverse ++ o
  | [], o, _, _ => by simp [zHY, coF]
  | r :: l, o, h, hh => by
    obtain ⟨h1, h2⟩ := hh r (by simp)
    have ih := zZ8 (has := has) l (r :: o) h.tail fun q hq => hh q (by simp [hq])
    have hr := h.head
    unfold zA0 at hr
    by_cases hm : r.Hi < 1114111
    · have e : zHY (r :: l) = r.Lo :: (r.Hi + 1) :: zHY l := by simp [zHY, hm]
      have en : nxt ((r.Hi + 1) :: zHY l) = r.Hi := by show r.Hi + 1 - 1 = r.Hi; omega
      rw [e]
      unfold coF
      rw [if_pos h1, if_neg (by simp), en]
      unfold coF
      rw [if_neg (by rw [h2 hm]; simp), ih]
      simp
    · have hl : l = [] := by
        cases l with
        | nil => rfl
        | cons q l =>
          have := h.2.1
          have h3 := h.tail.head
          unfold zA0 at h3
          omega
      subst hl
      have e : zHY [r] = [r.Lo] := by simp [zHY, hm]
      rw [e]
      unfold coF
      rw [if_pos h1, if_neg (by simp)]
      unfold coF
      have : nxt [] = r.Hi := by show (1114111 : Int) = r.Hi; omega
      rw [this]
      rfl
theorem z6V {l:List Int} (h:Gd l):plE 0 (plE 0 l)=plE 0 l:=by
 cases l with
 | nil=>rfl
 | cons x l=>
  have:=h.2 x (by simp)
  by_cases hx:0 < x
  have e:plE 0 (x::l)=0::x::l:=by unfold plE;rw [if_pos (by omega),if_pos hx]
  rw [e]
  unfold plE
  rw [if_pos (by omega),if_neg (by omega)]
  have e:plE 0 (x::l)=x::l:=by unfold plE;rw [if_pos (by omega),if_neg hx]
  rw [e,e]
theorem z6W {l:List Range} (h:Can l):(coF (zDO l) (plE 0 (plE 0 (cuE l []))) false []).reverse=l:=by
 rw [z6V (zTF l ⟨.nil,fun x hx=>by cases hx⟩),z6T l [] h (fun x hx=>by cases hx),List.nil_append]
 have hw:=zZ8 (has:=zDO l) l [] h fun r hr=>⟨yC8 h hr,fun _=>z6U h hr⟩
 rw [List.append_nil] at hw
 have h0:plE 0 (zHY l)=zHY l∨(plE 0 (zHY l)=0::zHY l∧zDO l 0=false):=by
  cases l with
  | nil=>exact .inr ⟨rfl,rfl⟩
  | cons r l=>
   have hr:=h.head
   unfold zA0 at hr
   have e:zHY (r::l)=r.Lo::((if r.Hi < 1114111 then [r.Hi+1] else [])++zHY l):=by simp [zHY]
   rw [e]
   by_cases hx:0 < r.Lo
   refine .inr ⟨by unfold plE;rw [if_pos (by omega),if_pos hx],?_⟩
   unfold zDO
   rw [List.any_eq_false]
   intro q hq
   simp only [Bool.and_eq_true,decide_eq_true_eq]
   rcases List.mem_cons.1 hq with rfl | hq
   omega
   have:=h.gap q hq;omega
   exact .inl (by unfold plE;rw [if_pos (by omega),if_neg hx])
 rcases h0 with h0 | ⟨h0,h1⟩
 rw [h0,hw,List.reverse_reverse]
 rw [h0]
 unfold coF
 rw [if_neg (by rw [h1];simp),hw,List.reverse_reverse]
theorem z2O (l:List Range):Can (coF (zDO l) (plE 0 (plE 0 (cuE l []))) false []).reverse:=by
 have hg:Gd (plE 0 (plE 0 (cuE l []))):=zMO (by omega) (zMO (by omega) (zTF l ⟨.nil,fun x hx=>by cases hx⟩))
 have:=zNV (has:=zDO l) _ false [] hg trivial (fun h=>by cases h) (fun _ c q _ hq=>by cases hq) (fun h=>by cases h)
 have h2:=zS0 _ [] this trivial (fun _ _ _ h=>by cases h)
 simpa using h2
theorem z9U {a b:Set} (ha:a.Ranges.length≤2000):zFM a b=some (decide (a.Ranges=b.Ranges)):=by
 unfold zFM
 by_cases hl:a.Ranges.length=b.Ranges.length
 have e:(!decide ((a.Ranges.length:Int)=(b.Ranges.length:Int)))=false:=by simp [hl]
 rw [e,cond_false]
 have h:=kV (body:=fun (x:Int)=>zBA a b x) a.Ranges.length (fun k=>nth a.Ranges k=nth b.Ranges k) (fun y=>y=false) (fun k hk=>by
  simp only [zBA,kB hk,cond_true,zX hk,zX (show k < b.Ranges.length by omega),zA,zM (k:=k) (by omega)]
  exact vV (by simp) rfl) (fun k hk=>by simp only [zBA,kQ hk,cond_false])
 have he:(∀j,j < a.Ranges.length→nth a.Ranges j=nth b.Ranges j)↔a.Ranges=b.Ranges:=by
  constructor
  intro h
  refine List.ext_getElem hl fun i h1 h2=>?_
  have:=h i h1
  rwa [zBF h1,zBF h2] at this
  intro h j _;rw [h]
 rw [he] at h
 rcases h with ⟨h,p⟩ | ⟨y,rfl,h,p⟩
 rw [h];simp [p]
 rw [h];simp [p]
 have e:(!decide ((a.Ranges.length:Int)=(b.Ranges.length:Int)))=true:=by simp;omega
 rw [e,cond_true]
 have:a.Ranges≠b.Ranges:=fun h=>hl (by rw [h])
 simp [this]
theorem yC9 {s:Set} (hl:s.Ranges.length≤12):∃b,zEB s=some b∧(b=true↔Can s.Ranges):=by
 unfold zEB
 rw [z6S hl,zA,z9U (by omega),zA]
 refine ⟨_,rfl,?_⟩
 simp only [decide_eq_true_eq]
 constructor
 intro h;rw [h];exact z2O _
 intro h;rw [z6W h]
end Go.M
namespace Go.M
open Go.AV
theorem zYK {l:List Mapping} (hl:l.length≤2000) (c:Int) (b:Bool):zCI l c b=some (fiI l c b):=by
 unfold zCI
 have h:zE (fun (x:Int)=>zBB l c b x) 0=some (toS (vQ (fun k m=>(pM c b k m).map fun (i:Nat)=>(i:Int)) l 0)):=by
  refine jD l _ (fun k hk=>?_) (fun k hk=>?_)
  simp only [zBB,kB hk,cond_true,z2 hk,zA,zO,zM (k:=k) (by omega),pM]
  by_cases h1:l[k].From=c
  cases b with
  | true=>simp [h1,vY,stp]
  | false=>
   cases ht:(l[k].Tag== []) with
   | true=>simp only [h1,decide_true,Bool.not_false,Bool.and_self,xN,zA,Bool.false_or,ht,Bool.true_and,cond_true,and_self,if_true,Option.map_some,stp]
   | false=>simp only [h1,decide_true,Bool.not_false,Bool.and_self,xN,zA,Bool.false_or,ht,Bool.true_and,cond_false,Bool.false_eq_true,and_false,if_false,Option.map_none,stp]
  simp [h1,vY,stp]
  simp only [zBB,kQ hk,cond_false]
 rw [h,zA,jG]
 have e:∀(L:List Mapping) (k:Nat),vQ (fun k m=>(pM c b k m).map fun (i:Nat)=>(i:Int)) L k=(vQ (pM c b) L k).map fun (i:Nat)=>(i:Int):=by
  intro L
  induction L with
  | nil=>intro k;rfl
  | cons x L ih=>
   intro k
   unfold vQ
   cases pM c b k x with
   | none=>exact ih (k+1)
   | some y=>rfl
 rw [e]
 unfold fiI fi
 cases vQ (pM c b) l 0 <;> rfl
theorem z6X (c:Int):zDI c=some (hkE c):=by
 unfold zDI hkE
 simp only [zO]
 by_cases h1:4352≤c∧c < 4371
 rw [if_pos h1]
 have:(decide (4352≤c)&&decide (c≤4370))=true:=by simp;omega
 rw [this];rfl
 rw [if_neg h1]
 have e1:(decide (4352≤c)&&decide (c≤4370))=false:=by simp only [Bool.and_eq_false_iff,decide_eq_false_iff_not];omega
 rw [e1,cond_false]
 by_cases h2:4449≤c∧c < 4470
 rw [if_pos h2]
 have:(decide (4449≤c)&&decide (c≤4469))=true:=by simp;omega
 rw [this];rfl
 rw [if_neg h2]
 have e2:(decide (4449≤c)&&decide (c≤4469))=false:=by simp only [Bool.and_eq_false_iff,decide_eq_false_iff_not];omega
 rw [e2,cond_false]
 by_cases h3:4520≤c∧c < 4547
 rw [if_pos h3]
 have:(decide (4520≤c)&&decide (c≤4546))=true:=by simp;omega
 rw [this];rfl
 rw [if_neg h3]
 have e3:(decide (4520≤c)&&decide (c≤4546))=false:=by simp only [Bool.and_eq_false_iff,decide_eq_false_iff_not];omega
 rw [e3,cond_false]
 by_cases h4:c < 44032∨55204≤c
 rw [if_pos h4]
 have:(decide (44032≤c)&&decide (c≤55203))=false:=by simp only [Bool.and_eq_false_iff,decide_eq_false_iff_not];omega
 rw [this];rfl
 rw [if_neg h4]
 have e4:(decide (44032≤c)&&decide (c≤55203))=true:=by simp;omega
 rw [e4,cond_true,wR (n:=c - 44032) (by omega) (by omega)]
 have er:zGR (c - 44032) 28=some ((c - 44032) % 28):=by
  unfold zGR;rw [if_neg (by decide),Int.tmod_eq_emod_of_nonneg (by omega)]
 rw [er,zA]
 by_cases h5:(c - 44032) % 28=0 <;> simp [h5]
theorem yFH (c:Int):zA4 c=some (hdE c):=by
 unfold zA4
 rw [z6X,zA]
 cases hs:syl c with
 | false=>
  have:decide (hkE c < 4)=true:=by
   simp only [decide_eq_true_eq]
   have:¬4≤hkE c:=fun h=>by have:=(zE3 c).2 h;rw [hs] at this;cases this
   omega
  rw [this,cond_true]
  unfold hdE;rw [if_neg (by simp [hs])]
 | true=>
  have h4:=(zE3 c).1 hs
  have:decide (hkE c < 4)=false:=by simp only [decide_eq_false_iff_not];omega
  rw [this,cond_false]
  have hr:44032≤c∧c≤55203:=by unfold syl at hs;simpa using hs
  rw [wR (n:=c - 44032) (by omega) (by omega)]
  have d1:zJW wi (c - 44032) 28=some ((c - 44032) / 28):=by
   unfold zJW;rw [if_neg (by decide),Int.tdiv_eq_ediv_of_nonneg (by omega),wR (by omega) (by omega)]
  have d2:zJW wi ((c - 44032) / 28) 21=some ((c - 44032) / 28 / 21):=by
   unfold zJW;rw [if_neg (by decide),Int.tdiv_eq_ediv_of_nonneg (by omega),wR (by omega) (by omega)]
  have d3:zGR ((c - 44032) / 28) 21=some ((c - 44032) / 28 % 21):=by
   unfold zGR;rw [if_neg (by decide),Int.tmod_eq_emod_of_nonneg (by omega)]
  have d4:zGR (c - 44032) 28=some ((c - 44032) % 28):=by
   unfold zGR;rw [if_neg (by decide),Int.tmod_eq_emod_of_nonneg (by omega)]
  simp only [d1,d2,d3,d4,zA]
  unfold hdE
  rw [if_pos hs,wR (n:=4352+(c - 44032) / 28 / 21) (by omega) (by omega),wR (n:=4449+(c - 44032) / 28 % 21) (by omega) (by omega)]
  by_cases h0:0 < (c - 44032) % 28
  rw [if_pos h0,wR (n:=4520+(c - 44032) % 28) (by omega) (by omega),wR (n:=4520+(c - 44032) % 28 - 1) (by omega) (by omega)]
  simp only [h0,decide_true,cond_true]
  rw [zBR (by simp)]
  rfl
  rw [if_neg h0]
  simp only [h0,decide_false,cond_false]
  rfl
section
variable {l:List Mapping} (hl:l.length≤2000) (hto:∀m∈l,m.To.length≤2000)
include hl hto
theorem z9V {out : List Bool} (ho : out.length = l.length) {i : Nat} (hi : i < l.length) : ∀ (d k : Nat) (b : Bool), (nth l i).To.length - k = d → k ≤ (nth l i).To.length →
    zE (fun (x : Bool × Int) => wI l (i : Int) out x.1 x.2) (b, (k : Int)) = some (b && ((nth l i).To.drop k).all fun e => match fi l e true with | some m => nth out m | none => true) := by
  have hlen := hto _ (vX hi)
  intro d
  induction d with
  | zero =>
    intro k b h1 h2
    rw [List.drop_of_length_le (show (nth l i).To.length ≤ k by omega)]
    refine zQ ?_
    simp only [wI, zX hi, zA, kQ (show (nth l i).To.length ≤ k by omega), cond_false, List.all_nil, Bool.and_true]
  | succ d ih =>
    intro k b h1 h2
    have hk : k < (nth l i).To.length := by omega
    have hb : wI l (i : Int) out b (k : Int) = some (.next (b && (match fi l (nth l i).To[k] true with | some m => nth out m | none => true), ((k + 1 : Nat) : Int))) := by
      simp only [wI, zX hi, zA, kB hk, cond_true, z2 hk, zYK hl, zO, zM (k := k) (by omega)]
      unfold fiI
      cases hf : fi l (nth l i).To[k] true with
      | none => simp [vY]
      | some m =>
        obtain ⟨h3, _, _⟩ := zLO hf
        have e : decide (((m : Nat) : Int) < 0) = false := by simp
        simp only [e, Bool.not_false, Bool.and_true, Bool.false_or]
        cases b with
        | false => simp [vY]
        | true => simp only [xN, zX (show m < out.length by omega), zA, Bool.true_and]
    rw [z4 (body := fun (x : Bool × Int) => wI l (i : Int) out x.1 x.2) (x := (b, (k : Int))) hb, ih (k + 1) _ (by omega) (by omega), List.drop_eq_getElem_cons hk, List.all_cons, Bool.and_assoc]
theorem z9W:zFN l=some (zF2 (zKA l) l.length l.length (List.replicate l.length false)):=by
 unfold zFN
 rw [z5G (by omega),zA]
 have h1:∀(out:List Bool),out.length=l.length→zE (fun (x:Int×(List Bool))=>uV l x.1 x.2) (0,out)=some (zMM (zKA l) l.length 0 out):=fun out ho=>
  zPK (upd:=zKA l) (n:=l.length) (Inv:=fun _=>True) (body:=fun (x:Int×(List Bool))=>uV l x.1 x.2) (fun i out=>((i:Int),out)) id (fun i out hi ho _=>by
   have:=z9V hl hto ho hi _ 0 true rfl (by omega)
   rw [List.drop_zero,Bool.true_and] at this
   have h':zE (fun (x:Bool×Int)=>wI l (i:Int) out x.1 x.2) (true,0)=some (zKA l out i):=this
   simp only [uV,kB hi,cond_true,h',zA,zX (show i < out.length by omega),zLG (show i < out.length by omega),zM (k:=i) (by omega)]) (fun _ _ _ _ _=>trivial) (fun out=>by simp only [uV,kQ (Nat.le_refl _),cond_false];rfl) l.length 0 out (by omega) ho trivial
 have h2:=zPL (upd:=zKA l) (n:=l.length) (Inv:=fun _=>True) (body:=fun (x:Int×(List Bool))=>uW l x.1 x.2) (fun i out=>((i:Int),out)) id (N:=l.length) (fun r out hr ho _=>by
  simp only [uW,kB hr,cond_true,h1 out ho,zA,zM (k:=r) (by omega)]) (fun _ _ _ _ _=>trivial) (fun out=>by simp only [uW,kQ (Nat.le_refl _),cond_false];rfl) l.length 0 (List.replicate l.length false) (by omega) (by simp) trivial
 have h3:zE (fun (x:Int×(List Bool))=>uW l x.1 x.2) (0,List.replicate l.length false)=some (zF2 (zKA l) l.length l.length (List.replicate l.length false)):=h2
 rw [h3]
 rfl
theorem z9X {b : Bool} {out : List Int} (ho : out.length = l.length) (hv : zTC out) {i : Nat} (hi : i < l.length) : ∀ (d k : Nat) (n : Int), (nth l i).To.length - k = d → k ≤ (nth l i).To.length → 0 ≤ n → n ≤ 100 * (k : Int) →
    zE (fun (x : Int × Int) => jS l (i : Int) b out x.1 x.2) (n, (k : Int)) = some (n + (((nth l i).To.drop k).map (lenOf l b out)).sum) := by
  have hlen := hto _ (vX hi)
  intro d
  induction d with
  | zero =>
    intro k n h1 h2 h3 h4
    rw [List.drop_of_length_le (show (nth l i).To.length ≤ k by omega)]
    refine zQ ?_
    simp only [jS, zX hi, zA, kQ (show (nth l i).To.length ≤ k by omega), cond_false, List.map_nil, List.sum_nil, Int.add_zero]
  | succ d ih =>
    intro k n h1 h2 h3 h4
    have hk : k < (nth l i).To.length := by omega
    have hbd : 0 ≤ lenOf l b out (nth l i).To[k] ∧ lenOf l b out (nth l i).To[k] ≤ 65 := by
      unfold lenOf
      cases hf : fi l (nth l i).To[k] b with
      | none => have := zJ8 (nth l i).To[k]; simp only []; omega
      | some m => obtain ⟨h3, _, _⟩ := zLO hf; exact hv _ (vX (by omega))
    have hb : jS l (i : Int) b out n (k : Int) = some (.next (n + lenOf l b out (nth l i).To[k], ((k + 1 : Nat) : Int))) := by
      have hw : wi (n + lenOf l b out (nth l i).To[k]) = n + lenOf l b out (nth l i).To[k] := wR (by omega) (by omega)
      simp only [jS, zX hi, zA, kB hk, cond_true, z2 hk, zYK hl, zM (k := k) (by omega), yFH]
      rw [← hw]
      unfold lenOf fiI
      cases hf : fi l (nth l i).To[k] b with
      | none => rfl
      | some m =>
        obtain ⟨h3, _, _⟩ := zLO hf
        have e : decide (0 ≤ ((m : Nat) : Int)) = true := by simp
        simp only [e, cond_true, zX (show m < out.length by omega), zA]
    rw [z4 (body := fun (x : Int × Int) => jS l (i : Int) b out x.1 x.2) (x := (n, (k : Int))) hb, ih (k + 1) _ (by omega) (by omega) (by omega) (by omega), List.drop_eq_getElem_cons hk, List.map_cons, List.sum_cons, Int.add_assoc]
theorem zZ9 (b:Bool):zBC l b=some (zF2 (updL l b) l.length l.length (List.replicate l.length 0)):=by
 unfold zBC
 rw [z5G (by omega),zA]
 have h0:zTC (List.replicate l.length 0):=fun x hx=>by rw [(List.mem_replicate.1 hx).2];omega
 have h1:∀(out:List Int),out.length=l.length→zTC out→zE (fun (x:Int×(List Int))=>wE l b x.1 x.2) (0,out)=some (zMM (updL l b) l.length 0 out):=fun out ho hv=>
  zPK (upd:=updL l b) (n:=l.length) (Inv:=zTC) (body:=fun (x:Int×(List Int))=>wE l b x.1 x.2) (fun i out=>((i:Int),out)) id (fun i out hi ho hv=>by
   have:=z9X hl hto (b:=b) ho hv hi _ 0 0 rfl (by omega) (by omega) (by omega)
   rw [List.drop_zero,Int.zero_add] at this
   have h':zE (fun (x:Int×Int)=>jS l (i:Int) b out x.1 x.2) (0,0)=some (((nth l i).To.map (lenOf l b out)).sum):=this
   simp only [wE,kB hi,cond_true,h',zA,zX (show i < out.length by omega),zLG (show i < out.length by omega),zX hi,zO,zM (k:=i) (by omega)]
   unfold updL
   cases b with
   | true=>simp
   | false=>
    cases ht:((nth l i).Tag== []) with
    | true=>simp
    | false=>simp [zX (show i < (out.set i (min (max (List.map (lenOf l false out) (nth l i).To).sum 1) 65)).length by simp;omega),zLG (show i < (out.set i (min (max (List.map (lenOf l false out) (nth l i).To).sum 1) 65)).length by simp;omega)]) zMN (fun out=>by simp only [wE,kQ (Nat.le_refl _),cond_false];rfl) l.length 0 out (by omega) ho hv
 have h2:=zPL (upd:=updL l b) (n:=l.length) (Inv:=zTC) (body:=fun (x:Int×(List Int))=>wF l b x.1 x.2) (fun i out=>((i:Int),out)) id (N:=l.length) (fun r out hr ho hv=>by
  simp only [wF,kB hr,cond_true,h1 out ho hv,zA,zM (k:=r) (by omega)]) zMN (fun out=>by simp only [wF,kQ (Nat.le_refl _),cond_false];rfl) l.length 0 (List.replicate l.length 0) (by omega) (by simp) h0
 have h3:zE (fun (x:Int×(List Int))=>wF l b x.1 x.2) (0,List.replicate l.length 0)=some (zF2 (updL l b) l.length l.length (List.replicate l.length 0)):=h2
 rw [h3]
 rfl
end
end Go.M
namespace Go.M
open Go.AV
theorem zTH {β:Type} [Inhabited β] {upd:List β→Nat→β} {n k:Nat} {out:List β} (h:out.length=n):(zF2 upd n k out).length=n:=
 (zTB (upd:=upd) (n:=n) (Inv:=fun _=>True) (fun _ _ _ _ _=>trivial) k out h trivial).2
theorem zWL {l:List Mapping} (h:∀k,k+1 < l.length→(nth l k).From < (nth l (k+1)).From):∀(d i:Nat),i+d+1 < l.length→(nth l i).From < (nth l (i+d+1)).From
 | 0,i,hi=>h i hi
 | d+1,i,hi=>by
  have h1:=zWL h d i (by omega)
  have h3:=h (i+d+1) (by omega)
  have:i+(d+1)+1=i+d+1+1:=by omega
  rw [this]
  omega
theorem z2P {l:List Mapping} (hlt:∀k,k+1 < l.length→mlt (nth l k) (nth l (k+1))):(∀k,k < l.length→¬fiI l (nth l k).From true < (k:Int))↔∀k,k+1 < l.length→(nth l (k+1)).From≠(nth l k).From:=by
 constructor
 intro h k hk e
 have hk':k < l.length:=by omega
 have hp:pM (nth l (k+1)).From true (0+k) l[k]≠none:=by
  unfold pM
  rw [if_pos ⟨by rw [e,zBF hk'],rfl⟩]
  simp
 obtain ⟨i,hi,hik,hc⟩:=zRU (p:=pM (nth l (k+1)).From true) (l:=l) (k:=0) hk' hp
 have hfi:fi l (nth l (k+1)).From true=some i:=by
  unfold fi
  rw [hc]
  unfold pM
  split
  simp
  rename_i hn
  exfalso
  have:vQ (pM (nth l (k+1)).From true) l 0=none:=by rw [hc];unfold pM;rw [if_neg hn]
  exact hp (zIN this k hk')
 refine h (k+1) hk ?_
 unfold fiI
 rw [hfi]
 simp only []
 omega
 intro h k hk hlt'
 have hs:∀k,k+1 < l.length→(nth l k).From < (nth l (k+1)).From:=fun k hk=>by
  have a:=hlt k hk
  have b:=h k hk
  unfold mlt at a
  omega
 unfold fiI at hlt'
 cases hf:fi l (nth l k).From true with
 | none=>exact absurd ⟨rfl,rfl⟩ (zZ2 hf _ (vX hk))
 | some i=>
  rw [hf] at hlt'
  simp only [] at hlt'
  obtain ⟨h1,h2,_⟩:=zLO hf
  have:=zWL hs (k - i - 1) i (by omega)
  rw [show i+(k - i - 1)+1=k by omega] at this
  omega
theorem yDA {n:Norm} (hs:NSm n) (hok:zBL n):Ver (zEC n) (VD0 n):=by
 obtain ⟨e1,he1,p1⟩:=z6K (l:=n.Classes) (by have:=hs.cl;omega)
 obtain ⟨e2,he2,p2⟩:=yC6 (l:=n.Decomp) (by have:=hs.de;omega) (fun m hm=>by have:=hs.to m hm;omega) (fun m hm=>by have:=hs.tg m hm;unfold MX;omega)
 obtain ⟨e3,he3,p3⟩:=yC9 (s:=n.Excluded) hs.ex
 have hde:=hs.de
 have hl:n.Decomp.length≤2000:=by omega
 have hto:∀m∈n.Decomp,m.To.length≤2000:=fun m hm=>by have:=hs.to m hm;omega
 unfold zEC
 rw [he1,zA]
 by_cases h1:e1=0
 case neg=>
  have:(!decide (e1=0))=true:=by simp [h1]
  rw [this,cond_true]
  exact ⟨e1,rfl,by simp only [h1,false_iff];exact fun h=>h1 (p1.2 h.cv)⟩
 rw [h1]
 simp only [decide_true,Bool.not_true,cond_false]
 have cv:=p1.1 h1
 rw [he2,zA]
 by_cases h2:e2=0
 case neg=>
  have:(!decide (e2=0))=true:=by simp [h2]
  rw [this,cond_true]
  exact ⟨e2,rfl,by simp only [h2,false_iff];exact fun h=>h2 (p2.2 h.mv)⟩
 rw [h2]
 simp only [decide_true,Bool.not_true,cond_false]
 have mv:=p2.1 h2
 rw [he3,zA]
 cases e3 with
 | false=>exact ⟨11,rfl,by simp only [show ((11:Int)=0)=False by simp,false_iff];exact fun h=>by have:=p3.2 h.ca;cases this⟩
 | true=>
 have ca:=p3.1 rfl
 simp only [Bool.not_true,cond_false]
 have l0:=kV (body:=fun (x:Int)=>zAM n x) n.Decomp.length (fun k=> ¬fiI n.Decomp (nth n.Decomp k).From true < (k:Int)) (fun y=>y≠0) (fun k hk=>by
  simp only [zAM,kB hk,cond_true,zX hk,zA,zYK hl,zM (k:=k) (by omega)]
  exact vV (by simp) (by decide)) (fun k hk=>by simp only [zAM,kQ hk,cond_false])
 rw [z2P mv.lt] at l0
 rcases l0 with ⟨l0,ne⟩ | ⟨y,hy,l0,ne⟩
 case inr=>rw [l0];exact ⟨y,rfl,by simp only [hy,false_iff];exact fun h=>ne h.ne⟩
 rw [l0]
 simp only [zA,Sum.elim_inl]
 have hbt:∀m:Mapping,(m.Tag== [])=decide (m.Tag= []):=fun m=>by cases m.Tag <;> rfl
 have l1:=kV (body:=fun (x:Int)=>zAN n x) n.Decomp.length (fun k=>(nth n.Decomp k).Tag= []→(nth n.Decomp k).To.length=1∨(nth n.Decomp k).To.length=2) (fun y=>y≠0) (fun k hk=>by
  simp only [zAN,kB hk,cond_true,zX hk,zA,zO,zM (k:=k) (by omega),hbt]
  by_cases ht:(nth n.Decomp k).Tag= []
  ·
   simp only [ht,decide_true,xN,zA,Bool.true_and,true_implies]
   by_cases h5:((nth n.Decomp k).To.length:Int)=1
   ·
    simp only [h5,decide_true,Bool.not_true,vY,zA,Bool.false_and,cond_false]
    exact .inl ⟨.inl (by omega),trivial⟩
   ·
    simp only [h5,decide_false,Bool.not_false,xN,zA,Bool.true_and]
    exact vV (by simp only [Bool.not_eq_true',decide_eq_false_iff_not];omega) (by decide)
  ·
   simp only [ht,decide_false,vY,zA,Bool.false_and,cond_false,false_implies]
   exact .inl ⟨trivial,trivial⟩) (fun k hk=>by simp only [zAN,kQ hk,cond_false])
 rw [zAZ (p:=fun m:Mapping=>m.Tag= []→m.To.length=1∨m.To.length=2)] at l1
 rcases l1 with ⟨l1,kd⟩ | ⟨y,hy,l1,kd⟩
 case inr=>rw [l1];exact ⟨y,rfl,by simp only [hy,false_iff];exact fun h=>kd h.kd⟩
 rw [l1]
 simp only [zA,Sum.elim_inl]
 have l2:=kV (body:=fun (x:Int)=>zAO n x) n.Decomp.length (fun k=>hkE (nth n.Decomp k).From=0∧((nth n.Decomp k).Tag≠[]→clE n.Classes (nth n.Decomp k).From=0)) (fun y=>y≠0) (fun k hk=>by
  simp only [zAO,kB hk,cond_true,zX hk,zA,zO,z6X,zM (k:=k) (by omega),hbt]
  by_cases h5:hkE (nth n.Decomp k).From=0
  ·
   simp only [h5,decide_true,Bool.not_true,Bool.not_false,xN,zA,Bool.true_and,Bool.false_or,true_and]
   by_cases ht:(nth n.Decomp k).Tag= []
   ·
    simp only [ht,decide_true,Bool.not_true,vY,zA,Bool.false_and,cond_false]
    exact .inl ⟨fun h=>absurd rfl h,trivial⟩
   ·
    simp only [ht,decide_false,Bool.not_false,xN,zA,Bool.true_and,zWJ (show n.Classes.length≤2000 by have:=hs.cl;omega) cv]
    exact vV (by simp [ht]) (by decide)
  ·
   have:(!decide (hkE (nth n.Decomp k).From=0))=true:=by simp [h5]
   simp only [this,Bool.not_true,vY,zA,Bool.false_and,Bool.true_or,cond_true]
   exact .inr ⟨fun h=>h5 h.1,11,by decide,rfl⟩) (fun k hk=>by simp only [zAO,kQ hk,cond_false])
 rw [zAZ (p:=fun m:Mapping=>hkE m.From=0∧(m.Tag≠[]→clE n.Classes m.From=0))] at l2
 rcases l2 with ⟨l2,hk⟩ | ⟨y,hy,l2,hk⟩
 case inr=>rw [l2];exact ⟨y,rfl,by simp only [hy,false_iff];exact fun h=>hk fun m hm=>⟨h.hk m hm,h.tc m hm⟩⟩
 rw [l2]
 simp only [zA,Sum.elim_inl]
 have hds:DS n.Decomp:=⟨fun k hk'=>by
  have a:=mv.lt k hk'
  have b:=ne k hk'
  unfold mlt at a
  omega,fun m hm=>(hk m hm).1,fun m hm=>by have:=mv.sz m hm;omega⟩
 have hms:=z55 hds (by omega)
 rw [z9W hl hto,zA]
 have l3:=kV (body:=fun (x:Int)=>zAP n (zF2 (zKA n.Decomp) n.Decomp.length n.Decomp.length (List.replicate n.Decomp.length false)) x) n.Decomp.length (fun k=>nth (zF2 (zKA n.Decomp) n.Decomp.length n.Decomp.length (List.replicate n.Decomp.length false)) k=true) (fun y=>y≠0) (fun k hk=>by
  simp only [zAP,kB hk,cond_true,zX (show k < (zF2 (zKA n.Decomp) n.Decomp.length n.Decomp.length (List.replicate n.Decomp.length false)).length by rw [zTH (by simp)];exact hk),zA,zM (k:=k) (by omega)]
  exact vV (by simp) (by decide)) (fun k hk=>by simp only [zAP,kQ hk,cond_false])
 rw [z6P hds] at l3
 rcases l3 with ⟨l3,H⟩ | ⟨y,hy,l3,H⟩
 case inr=>rw [l3];exact ⟨y,rfl,by simp only [hy,false_iff];exact fun h=>H (hms.1 h.ms).1⟩
 rw [l3]
 simp only [zA,Sum.elim_inl]
 have hD:=zPB hds H
 rw [zZ9 hl hto false,zA,zZ9 hl hto true,zA]
 have l4:=kV (body:=fun (x:Int)=>zAQ n (zF2 (updL n.Decomp false) n.Decomp.length n.Decomp.length (List.replicate n.Decomp.length 0)) (zF2 (updL n.Decomp true) n.Decomp.length n.Decomp.length (List.replicate n.Decomp.length 0)) x) n.Decomp.length (fun k=>wt n.Decomp true (nth n.Decomp k).From≤64) (fun y=>y≠0) (fun k hk=>by
  have hmo:wt n.Decomp false (nth n.Decomp k).From≤wt n.Decomp true (nth n.Decomp k).From:=zZP hds _ _
  simp only [zAQ,kB hk,cond_true,zX (show k < (zF2 (updL n.Decomp false) n.Decomp.length n.Decomp.length (List.replicate n.Decomp.length 0)).length by rw [zTH (by simp)];exact hk),zX (show k < (zF2 (updL n.Decomp true) n.Decomp.length n.Decomp.length (List.replicate n.Decomp.length 0)).length by rw [zTH (by simp)];exact hk),zA,zO,zZ3 hds hD (b:=false) k hk,zZ3 hds hD (b:=true) k hk,zM (k:=k) (by omega)]
  by_cases h6:64 < wt n.Decomp false (nth n.Decomp k).From
  ·
   simp only [h6,decide_true,Bool.not_true,vY,zA,Bool.true_or,cond_true]
   exact .inr ⟨by omega,13,by decide,rfl⟩
  ·
   simp only [h6,decide_false,Bool.not_false,xN,zA,Bool.false_or]
   exact vV (by simp) (by decide)) (fun k hk=>by simp only [zAQ,kQ hk,cond_false])
 rw [zAZ (p:=fun m:Mapping=>wt n.Decomp true m.From≤64)] at l4
 rcases l4 with ⟨l4,W⟩ | ⟨y,hy,l4,W⟩
 ·
  rw [l4]
  exact ⟨0,rfl,by simp only [true_iff];exact ⟨cv,mv,ca,ne,kd,fun m hm=>(hk m hm).1,fun m hm=>(hk m hm).2,hms.2 ⟨H,W⟩⟩⟩
 · rw [l4];exact ⟨y,rfl,by simp only [hy,false_iff];exact fun h=>W (hms.1 h.ms).2⟩
theorem yDB {n:Norm} (hs:NSm n) (hok:zBL n):zFO n=some (usN n):=by
 obtain ⟨e,he,hv⟩:=yDA hs hok
 unfold zFO usN
 rw [he,zA]
 by_cases hz:e=0
 rw [if_pos (hv.1 hz)];simp [hz]
 rw [if_neg (fun h=>hz (hv.2 h))];simp [hz]
end Go.M
namespace Go.M
open Go.AV
end Go.M
namespace Go.M
open Go.AV
section
variable {key:Int→Int}
theorem zYL {x:Int} (hx:key x=0) (b:List Int):∀(a run:List Int),rsE key (a++x::b) run=rsE key a run++rsE key (x::b) []
 | [],run=>by
  have e:srt key []= []:=rfl
  show (if key x=0 then srt key run++x::rsE key b [] else _)=srt key run++(if key x=0 then srt key []++x::rsE key b [] else _)
  rw [if_pos hx,if_pos hx,e,List.nil_append]
 | y::a,run=>by
  show (if key y=0 then srt key run++y::rsE key (a++x::b) [] else rsE key (a++x::b) (run++ [y]))=(if key y=0 then srt key run++y::rsE key a [] else rsE key a (run++ [y]))++_
  split
  rw [zYL hx b a []];simp
  rw [zYL hx b a (run++ [y])]
theorem yDC (hnn:∀x,0≤key x) {x:Int} (hx:key x=0) (a b:List Int):csE key (a++x::b)=csE key a++csE key (x::b):=by
 rw [zS7 hnn,zS7 hnn,zS7 hnn,zYL hx]
end
theorem z6Y {n:Norm} (hs:NSm n) (hok:zBL n) {a b:List Int} {x:Int} {t:List Int} (hb:zFZ n false b=x::t) (hx:clE (usN n).Classes x=0):zPJ n false (a++b)=zPJ n false a++zPJ n false b:=by
 have e:zFZ n false (a++b)=zFZ n false a++zFZ n false b:=by unfold zFZ;rw [List.flatMap_append]
 unfold zPJ
 rw [e,hb,yDC (yA1 (zPI hs hok).cv) hx]
section
variable {c:Collation} (h1:∀x∈(kH c).Entries,x.Codes.length≤1)
include h1
theorem z0A {q:List Int} (hq:2≤q.length):(zCC (kH c).Entries q).2=false:=by
 unfold zCC
 cases hf:(kH c).Entries.find? (fun x=>decide (x.Codes=q)) with
 | none=>rfl
 | some e=>
  have a:=h1 e (List.mem_of_find?_eq_some hf)
  have b:=List.find?_some hf
  simp only [decide_eq_true_eq] at b
  rw [b] at a
  omega
theorem z9Y {x:Int} {t:List Int}:zBG (kH c).Entries (x::t)=if (zCC (kH c).Entries [x]).2=true then 1 else 0:=by
 unfold zBG
 rw [zMK (m:=1) (by simp) (fun j hj hk=>by
  unfold pfx
  exact z0A h1 (by rw [List.length_take];omega))]
 have:pfx (kH c).Entries (x::t) 1=(zCC (kH c).Entries [x]).2:=rfl
 show (if pfx (kH c).Entries (x::t) 1=true then 1 else zJT (pfx (kH c).Entries (x::t)) 0)=_
 rw [this]
 rfl
omit h1 in
theorem z0B {fd:List Int→Bool} {cl:Int→Int} {p:List Int} (hf:∀x,fd (p++ [x])=false):∀(r s:List Int) (h:Int),zC8 fd cl r p s h=(p,s++r)
 | [],s,h=>by simp [zC8]
 | x::r,s,h=>by
  unfold zC8
  split
  rfl
  rw [hf x,Bool.false_and,if_neg (by simp),z0B hf r (s++ [x]) _]
  simp
noncomputable def elO (c:Collation) (x:Int):List Element:=if (zCC (kH c).Entries [x]).2=true then (zCC (kH c).Entries [x]).1 else zVV (kH c) x
theorem yDD {l:List Span} {x:Int} {t:List Int}:(stE c l (x::t)).2=(t,elO c x):=by
 unfold stE elO
 rw [z9Y h1]
 cases hf:(zCC (kH c).Entries [x]).2 with
 | false=>rfl
 | true=>
  have hm:=z0B (fd:=fun q=>(zCC (kH c).Entries q).2) (cl:=clE l) (p:=[x]) (fun y=>z0A h1 (by simp)) t [] 0
  simp only [if_true,Nat.one_ne_zero,if_false]
  have e1:(x::t).take 1= [x]:=rfl
  have e2:(x::t).drop 1=t:=rfl
  rw [e1,e2,hm]
  rfl
theorem zTI {l:List Span}:∀(t:List Int),(wk c l t).1=t.flatMap (elO c)
 | []=>rfl
 | x::t=>by
  rw [zS9 (by simp)]
  show (stE c l (x::t)).2.2++(wk c l (stE c l (x::t)).2.1).1=_
  rw [yDD h1,zTI t]
  rfl
theorem z0C {l:List Span} (a b:List Int):(wk c l (a++b)).1=(wk c l a).1++(wk c l b).1:=by
 rw [zTI h1,zTI h1,zTI h1,List.flatMap_append]
end
end Go.M
namespace Go.M
open Go.AV
theorem jl {d:Collation} (hd:d.Entries.length≤2000):∀(m k:Nat),k+m=d.Entries.length→zE (fun (x:Int)=>jB d x) (k:Int)=some (if ∀x∈d.Entries.drop k,x.Codes.length≤1 then .inl () else .inr true)
 | 0,k,h=>by
  rw [if_pos (by rw [List.drop_of_length_le (by omega)];intro x hx;cases hx)]
  refine zQ ?_
  simp only [jB,kQ (show d.Entries.length≤k by omega),cond_false]
 | m+1,k,h=>by
  have hk:k < d.Entries.length:=by omega
  have hdr:=List.drop_eq_getElem_cons hk
  by_cases h1:d.Entries[k].Codes.length≤1
  have e1:decide ((1:Int) < (d.Entries[k].Codes.length:Int))=false:=by simp;omega
  rw [z4 (x':=((k+1:Nat):Int)) (by simp only [jB,kB hk,cond_true,z2 hk,zA,e1,cond_false,zM (k:=k) (by omega)]),jl hd m (k+1) (by omega),hdr]
  congr 1
  by_cases h2:∀x∈d.Entries.drop (k+1),x.Codes.length≤1
  rw [if_pos h2,if_pos (fun x hx=>by rcases List.mem_cons.1 hx with e | hx;rw [e];exact h1;exact h2 x hx)]
  rw [if_neg h2,if_neg (fun h=>h2 fun x hx=>h x (List.mem_cons_of_mem _ hx))]
  have e1:decide ((1:Int) < (d.Entries[k].Codes.length:Int))=true:=by simp;omega
  rw [if_neg (by rw [hdr];exact fun h=>h1 (h _ List.mem_cons_self))]
  refine zQ ?_
  simp only [jB,kB hk,cond_true,z2 hk,zA,e1,zWF]
theorem law43_ColltableJoins_true (x:Unicodetextlaw43_Case) (b:List Int) (ok:zCL x) {q:Prop} (_:q):uO x b=some true:=by
 unfold uO
 obtain ⟨f,hb,hp⟩:=yCY x
 rw [hb,zA,zO,zO,zWF]
 cases f with
 | false=>rfl
 | true=>
 obtain ⟨hN,hC,hT⟩:=hp rfl
 have hg:=z8X ok.2.1
 simp only [Bool.not_true,Bool.false_or,zA]
 cases b with
 | nil=>rfl
 | cons y b=>
 by_cases hlen:(y::b).length≤12
 case neg=>
  have e:decide ((12:Int) < ((y::b).length:Int))=true:=by simp only [decide_eq_true_eq];omega
  rw [e,Bool.or_true]
  rfl
 have e0:decide (((y::b).length:Int)=0)=false:=by simp;omega
 have e1:decide ((12:Int) < ((y::b).length:Int))=false:=by simp only [decide_eq_false_iff_not];omega
 rw [e0,e1,Bool.or_false,cond_false,zX9 hC hg,zA]
 have hj:=jl (d:=kH x.C) (by have:=z8Z hC;omega) (kH x.C).Entries.length 0 (by omega)
 rw [List.drop_zero] at hj
 rw [show ((0:Nat):Int)=0 from rfl] at hj
 rw [hj,zA]
 by_cases h1:∀e∈(kH x.C).Entries,e.Codes.length≤1
 case neg=>rw [if_neg h1];rfl
 rw [if_pos h1,Sum.elim_inl,zO5,zA,z9I hN ok.1,zA,zO]
 cases hfu:fu (usN x.N).Decomp false y with
 | nil=>rfl
 | cons s t=>
 have e2:decide (((s::t).length:Int)=0)=false:=by simp;omega
 have hcl:(usN x.N).Classes.length≤2000:=by rw [←zWI];have:=zI9 hN;omega
 have hcv:CV (usN x.N).Classes:=by rw [←zWI];exact zPF x.N
 simp only [e2,Bool.not_false,xN,yDB hN ok.1,zA,zO5,zYH hcl hcv,Bool.false_or]
 by_cases hs:clE (usN x.N).Classes s=0
 case neg=>simp [hs]
 have hfb:zFZ x.N false (y::b)=s::(t++b.flatMap (fu (usN x.N).Decomp false)):=by
  unfold zFZ
  rw [List.flatMap_cons,hfu]
  rfl
 have hjn:=z6Y hN ok.1 (a:=x.Text) hfb hs
 have f1:=zML hN ok.1 false x.Text
 have f2:=zML hN ok.1 false (y::b)
 have f3:=zML hN ok.1 false (x.Text++y::b)
 have hab:(x.Text++y::b).length≤24:=by rw [List.length_append];omega
 have d1:=zYG (n:=x.N) hC (text:=x.Text) (by rw [zLN];omega)
 have d2:=zYG (n:=x.N) hC (text:=y::b) (by rw [zLN];omega)
 have d3:=zYG (n:=x.N) hC (text:=x.Text++y::b) (by rw [zLN];omega)
 simp only [hs,decide_true,Bool.not_true,cond_false]
 rw [zBR (by simp;omega),zA,List.nil_append,zBR (by omega),zA,zIQ hN ok.1 hC hg (by omega) (by omega),zA,zBR (by simp;omega),zA,
  zIQ hN ok.1 hC hg (by omega) (by omega),zA,List.nil_append,zBR (by omega),zA,zIQ hN ok.1 hC hg (by omega) (by omega),zA,hjn,z0C h1]
 rw [hjn,z0C h1] at d3
 rw [z6J d3]
 rfl
end Go.M


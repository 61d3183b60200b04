/- What the plain counterparts answer. Conditions: none. -/
import Derived.Test.YtjcbhabmkcdcnaaDoorPu1
set_option linter.unusedSimpArgs false
set_option linter.unusedVariables false
set_option linter.unnecessarySimpa false
namespace Go.M
open Go.AV
open Classical in
noncomputable def zAY (n:Norm):List Span:=if VD0 n then n.Classes else []
theorem zYG:CV []:=⟨fun k h=>(by cases h),fun k h=>(by cases h),fun k h=>(by cases h)⟩
theorem zYH (n:Norm):CV (zAY n):=by
 unfold zAY
 split
 rename_i h;exact h.cv
 exact zYG
theorem zMM {n:Norm} (hs:NSm n):(zAY n).length≤40:=by
 unfold zAY
 split
 exact hs.cl
 simp
def zLK (l:List Span) (t:Int):Int:=l.foldl (fun t s=>max t s.Value) t
def zFH (c:Collation) (l:List Span):Colltable_table:={zH4 c with classes:=l,top:=zLK l 0}
theorem zYI {l:List Span} (hl:l.length≤2000):∀(d k:Nat) (t:Int),l.length - k=d→k≤l.length→zD (fun (x:Int×Int)=>kO l x.1 x.2) ((k:Int),t)=some (zLK (l.drop k) t):=by
 intro d
 induction d with
 | zero=>
  intro k t h1 h2
  rw [List.drop_of_length_le (by omega)]
  refine zM ?_
  simp only [kO,jS (show l.length≤k by omega),cond_false]
  rfl
 | succ d ih=>
  intro k t h1 h2
  have hk:k < l.length:=by omega
  rw [List.drop_eq_getElem_cons hk]
  rw [zR (x':=(((k+1:Nat):Int),max t l[k].Value)) (by simp only [kO,jI hk,cond_true,z9 hk,zA,zU (k:=k) (by omega)])]
  exact ih (k+1) _ (by omega) (by omega)
theorem z1L {c:Collation} {n:Norm} (hs:NSm n) (hok:zDC n):xN (zH4 c) n=some (zFH c (zAY n)):=by
 obtain ⟨e,he,hp⟩:=zYA hs hok
 unfold xN
 rw [he,zA]
 have h1:(cond (decide (e=0)) (some n.Classes) (some (zH4 c).classes):Option (List Span))=some (zAY n):=by
  unfold zAY
  by_cases h:e=0
  rw [if_pos (hp.1 h)];simp [h]
  rw [if_neg (fun hh=>h (hp.2 hh))];simp [h,zH4]
 rw [h1,zA]
 have h2:=zYI (l:=zAY n) (by have:=zMM hs;omega) (zAY n).length 0 0 (by omega) (by omega)
 rw [List.drop_zero] at h2
 have h2':zD (fun (x:Int×Int)=>kO (zAY n) x.1 x.2) (0,(zH4 c).top)=some (zLK (zAY n) 0):=h2
 rw [h2']
 rfl
theorem zFI {c:Collation} (hs:Sm c) {l:List Span} {codes:List Int}:kQ (zFH c l) codes=some (zB6 (kR c).Entries codes):=z02 hs (codes:=codes)
theorem zFS {c:Collation} {l:List Span} (h:CV l) (hl:l.length≤2000) (x:Int):j7 (zFH c l) x=some (clE l x):=by
 obtain ⟨j,hj,hr,hlo,hhi⟩:=zNN (n:=l.length) hl (body:=fun (q:Int×Int)=>vS (fun x0=>jQ x0 (zFH c l) x) q.1 q.2) (fun k=>decide (x≤(nth l k).Hi))
  (fun k _=>by simp only [vS,jS (Nat.le_refl _),cond_false])
  (fun lo hi h1 h2=>by
   have hm:(lo+hi) / 2 < l.length:=by omega
   have hi1:kL (zFH c l).classes (((lo+hi) / 2:Nat):Int)=some (nth l ((lo+hi) / 2)):=kP hm
   simp only [vS,jI h1,cond_true,zGP (show lo+hi≤4611686018427387903 by omega),jQ,hi1,zA,zU (k:=(lo+hi) / 2) (by omega)]
   by_cases hc:x≤(nth l ((lo+hi) / 2)).Hi <;> simp [hc])
  (fun i j hij hj hi=>by
   have:=h.hi hij hj
   simp only [decide_eq_true_eq] at hi ⊢
   omega)
 simp only [decide_eq_false_iff_not,decide_eq_true_eq] at hlo hhi
 unfold j7 zC4
 have e0:(zFH c l).classes=l:=rfl
 rw [e0,hr,z2S h hj (fun k hk=>by have:=hlo k hk;omega) hhi]
 simp only [zA,z5]
 by_cases hn:j < l.length
 simp only [jI hn,zDS,kP hn,zA,Bool.true_and,hn,true_and]
 by_cases hc2:(nth l j).Lo≤x <;> simp [hc2]
 simp only [jS (show l.length≤j by omega),zHC,zA,Bool.false_and,cond_false,hn,false_and,if_false]
theorem zRU:∀(l:List Span) (t:Int),t≤zLK l t∧∀s∈l,s.Value≤zLK l t
 | [],t=>⟨Int.le_refl _,fun s h=>by cases h⟩
 | x::l,t=>by
  have ih:=zRU l (max t x.Value)
  refine ⟨by show t≤zLK l (max t x.Value);omega,fun s hs=>?_⟩
  show s.Value≤zLK l (max t x.Value)
  rcases List.mem_cons.1 hs with rfl | hs
  omega
  exact ih.2 s hs
theorem z7D {l:List Span} (x:Int):clE l x≤zLK l 0:=by
 unfold clE
 cases hf:l.find? (zP9 x) with
 | none=>exact (zRU l 0).1
 | some s=>exact (zRU l 0).2 s (List.mem_of_find?_eq_some hf)
theorem z7E {l:List Span} (h:CV l) (x:Int):0≤clE l x:=by
 unfold clE
 cases hf:l.find? (zP9 x) with
 | none=>exact Int.le_refl _
 | some s=>
  have:=List.mem_of_find?_eq_some hf
  obtain ⟨k,hk,rfl⟩:=List.getElem_of_mem this
  have:=h.sp k hk
  rw [zBZ hk] at this
  unfold spOk at this
  show 0≤(l[k]).Value
  omega
def zHH (p:Nat→Bool):Nat→Nat
 | 0=>0
 | k+1=>if p (k+1) then k+1 else zHH p k
theorem zKU (p:Nat→Bool):∀k,zHH p k≤k
 | 0=>Nat.le_refl _
 | k+1=>by unfold zHH;split;omega;have:=zKU p k;omega
theorem zMN {p : Nat → Bool} {m : Nat} : ∀ {k : Nat}, m ≤ k → (∀ j, m < j → j ≤ k → p j = false) → zHH p k = zHH p m
  | 0, h, _ => by have : m = 0 := by omega
                  rw [this]
  | k + 1, h, hp => by
    by_cases e : m = k + 1
    · rw [e]
    · unfold zHH
      rw [hp (k + 1) (by omega) (Nat.le_refl _)]
      simp only [Bool.false_eq_true, if_false]
      rw [zMN (m := m) (by omega) fun j h1 h2 => hp j h1 (by omega)]
      cases m <;> rfl
def pfx (es:List Entry) (text:List Int) (k:Nat):Bool:=(zB6 es (text.take k)).2
def uY (es:List Entry) (text:List Int):Nat:=zHH (pfx es text) text.length
def zBT (fd:List Int→Bool) (cl:Int→Int):List Int→List Int→List Int→Int→List Int×List Int
 | [],p,s,_=>(p,s)
 | x::r,p,s,h=>if cl x=0 then (p,s++x::r) else if fd (p++ [x])&&decide (h < cl x) then zBT fd cl r (p++ [x]) s h else zBT fd cl r p (s++ [x]) (max h (cl x))
theorem zMO {fd:List Int→Bool} {cl:Int→Int}:∀(r p s:List Int) (h:Int),(∀x,cl x≤h)→zBT fd cl r p s h=(p,s++r)
 | [],p,s,h,_=>by simp [zBT]
 | x::r,p,s,h,hc=>by
  have hx:=hc x
  unfold zBT
  split
  rfl
  have e:decide (h < cl x)=false:=by simp;omega
  rw [e,Bool.and_false,if_neg (by simp),zMO r p (s++ [x]) (max h (cl x)) (fun y=>by have:=hc y;omega)]
  simp
theorem zKV {fd:List Int→Bool} {cl:Int→Int}:∀(r p s:List Int) (h:Int),p.length≤(zBT fd cl r p s h).1.length∧(zBT fd cl r p s h).1.length+(zBT fd cl r p s h).2.length=p.length+s.length+r.length∧((zBT fd cl r p s h).1.length=p.length→zBT fd cl r p s h=(p,s++r))
 | [],p,s,h=>by simp [zBT]
 | x::r,p,s,h=>by
  unfold zBT
  split
  refine ⟨Nat.le_refl _,by simp;omega,fun _=>rfl⟩
  split
  have ih:=zKV (fd:=fd) (cl:=cl) r (p++ [x]) s h
  simp only [List.length_append,List.length_cons,List.length_nil] at ih ⊢
  exact ⟨by omega,by omega,fun e=>by omega⟩
  have ih:=zKV (fd:=fd) (cl:=cl) r p (s++ [x]) (max h (cl x))
  simp only [List.length_append,List.length_cons,List.length_nil] at ih ⊢
  refine ⟨ih.1,by omega,fun e=>?_⟩
  rw [ih.2.2 e];simp
section
variable {c:Collation} (hs:Sm c) {l:List Span} (hcv:CV l) (hl:l.length≤2000)
include hs
theorem mL0 {text:List Int} (ht:text.length≤2000):∀k,k≤text.length→zD (fun (x:Int)=>kB text (zFH c l) x) (k:Int)=some ((zHH (pfx (kR c).Entries text) k:Nat):Int)
 | 0,_=>by
  refine zM ?_
  have:decide ((0:Int) < ((0:Nat):Int))=false:=rfl
  simp only [kB,this,cond_false]
  rfl
 | k+1,hk=>by
  have hd:decide ((0:Int) < ((k+1:Nat):Int))=true:=by simp <;> omega
  have ih:=mL0 ht k (by omega)
  unfold zHH
  cases hp:pfx (kR c).Entries text (k+1) with
  | true=>
   rw [if_pos rfl]
   refine zM ?_
   unfold pfx at hp
   simp only [kB,hd,cond_true,zDR hk,zA,zFI hs,hp]
  | false=>
   rw [if_neg (by simp),←ih]
   refine zR ?_
   unfold pfx at hp
   simp only [kB,hd,cond_true,zDR hk,zA,zFI hs,hp,cond_false,zC9 (k:=k) (by omega)]
omit hs in
theorem zYJ {text:List Int} {k:Nat} (hk:k≤text.length) (h:zHE (kR c).Entries 0 < (k:Int)):pfx (kR c).Entries text k=false:=by
 have h1:=zNK (kR c).Entries 0
 unfold pfx zB6
 have:(kR c).Entries.find? (fun x=>decide (x.Codes=text.take k))=none:=by
  rw [List.find?_eq_none]
  intro x hx
  simp only [decide_eq_true_eq]
  intro e
  have h2:=h1.2 x hx
  rw [e] at h2
  have:(text.take k).length=k:=by simp;omega
  omega
 rw [this]
theorem z4Y {text:List Int} (ht:text.length≤2000):zD (fun (x:Int)=>kB text (zFH c l) x) (min (zFH c l).longest (text.length:Int))=some ((uY (kR c).Entries text:Nat):Int):=by
 have h1:=zNK (kR c).Entries 0
 have e:(zFH c l).longest=zHE (kR c).Entries 0:=rfl
 rw [e]
 obtain ⟨m,hm⟩:∃m:Nat,min (zHE (kR c).Entries 0) (text.length:Int)=(m:Int):=⟨(min (zHE (kR c).Entries 0) (text.length:Int)).toNat,by omega⟩
 rw [hm,mL0 hs ht m (by omega)]
 unfold uY
 rw [zMN (p:=pfx (kR c).Entries text) (m:=m) (k:=text.length) (by omega) fun j h2 h3=>zYJ h3 (by omega)]
omit hs in
theorem z4Z {p s r:List Int} {x:Int}:uP (cpM (p++s++x::r) ((p.length+1:Nat):Int) ((p.length+s.length+1:Nat):Int) (p.length:Int) ((p.length+s.length:Nat):Int)) (p.length:Int) x=some ((p++ [x])++s++r):=by
 have e1:((p++s++x::r).drop p.length).take (p.length+s.length - p.length)=s:=by
  rw [List.append_assoc,List.drop_left]
  have:p.length+s.length - p.length=s.length:=by omega
  rw [this,List.take_left]
 have e2:min (p.length+s.length - p.length) (p.length+s.length+1 - (p.length+1))=s.length:=by omega
 unfold cpM
 simp only [Int.toNat_natCast]
 rw [e1,e2,List.take_of_length_le (Nat.le_refl _)]
 cases s with
 | nil=>
  have hx:(p++ []++x::r)=p++x::r:=by simp
  rw [hx]
  have e3:(p++x::r).take (p.length+1)=p++ [x]:=by
   rw [List.take_append,List.take_of_length_le (by omega)]
   simp
  have e4:(p++x::r).drop (p.length+1+([]:List Int).length)=r:=by
   rw [List.drop_append,List.drop_of_length_le (by simp)]
   simp
  rw [e3,e4]
  have:p++ [x]++ []++r=p++x::r:=by simp
  rw [this,vW rfl]
 | cons y s=>
  have hx:(p++(y::s)++x::r)=p++y::(s++x::r):=by simp
  rw [hx]
  have e3:(p++y::(s++x::r)).take (p.length+1)=p++ [y]:=by
   rw [List.take_append,List.take_of_length_le (by omega)]
   simp
  have e4:(p++y::(s++x::r)).drop (p.length+1+(y::s).length)=r:=by
   have:p++y::(s++x::r)=(p++y::(s++ [x]))++r:=by simp
   rw [this,List.drop_left' (by simp;omega)]
  rw [e3,e4]
  have:p++ [y]++(y::s)++r=p++y::((y::s)++r):=by simp
  rw [this,vW rfl]
  simp
include hcv hl
theorem mL1 : ∀ (r p s : List Int) (h : Int), p.length + s.length + r.length ≤ 2000 →
    zD (fun (x : Int × Int × Int × (List Int)) => yG (zFH c l) x.1 x.2.1 x.2.2.1 x.2.2.2) ((p.length : Int), h, ((p.length + s.length : Nat) : Int), p ++ s ++ r) =
      some ((((zBT (fun q => (zB6 (kR c).Entries q).2) (clE l) r p s h).1.length : Nat) : Int), (zBT (fun q => (zB6 (kR c).Entries q).2) (clE l) r p s h).1 ++ (zBT (fun q => (zB6 (kR c).Entries q).2) (clE l) r p s h).2)
  | [], p, s, h, _ => by
    refine zM ?_
    have : decide (((p.length + s.length : Nat) : Int) < ((p ++ s ++ []).length : Int)) = false := by simp
    simp only [yG, z5, this, Bool.false_and, cond_false]
    simp [zBT]
  | x :: r, p, s, h, hn => by
    simp only [List.length_cons] at hn
    have hd : decide (((p.length + s.length : Nat) : Int) < ((p ++ s ++ x :: r).length : Int)) = true := by simp <;> omega
    have hi : kL (p ++ s ++ x :: r) ((p.length + s.length : Nat) : Int) = some x := xZ (by simp)
    have etop : (zFH c l).top = zLK l 0 := rfl
    by_cases htop : h < zLK l 0
    · have hd2 : decide (h < (zFH c l).top) = true := by rw [etop]; simpa using htop
      by_cases h0 : clE l x = 0
      · refine zM ?_
        simp only [yG, z5, hd, hd2, Bool.and_self, cond_true, hi, zA, zFS hcv hl, h0, decide_true, Sum.elim_inl]
        unfold zBT
        rw [if_pos h0]
        simp
      · unfold zBT
        rw [if_neg h0]
        by_cases hk : clE l x ≤ h
        · have e : decide (h < clE l x) = false := by simp; omega
          rw [e, Bool.and_false, if_neg (by simp)]
          rw [zR (x' := ((p.length : Int), h, ((p.length + (s ++ [x]).length : Nat) : Int), p ++ (s ++ [x]) ++ r)) (by
            have e2 : p ++ (s ++ [x]) ++ r = p ++ s ++ x :: r := by simp
            have e3 : p.length + (s ++ [x]).length = p.length + s.length + 1 := by simp; omega
            rw [e2, e3]
            simp only [yG, z5, hd, hd2, Bool.and_self, cond_true, hi, zA, zFS hcv hl, h0, hk, decide_true, decide_false, cond_false, Sum.elim_inr, zU (k := p.length + s.length) (by omega)])]
          have := mL1 r p (s ++ [x]) h (by simp; omega)
          rw [show max h (clE l x) = h by omega]
          exact this
        · have e : decide (h < clE l x) = true := by simp; omega
          rw [e, Bool.and_true]
          have s1 : slc (p ++ s ++ x :: r) 0 (p.length : Int) = some p := by
            rw [zDR (by simp)]
            simp
          have a1 : app p [x] = some (p ++ [x]) := zAP (by simp; omega)
          cases hf : (zB6 (kR c).Entries (p ++ [x])).2 with
          | false =>
            rw [if_neg (by simp)]
            rw [zR (x' := ((p.length : Int), clE l x, ((p.length + (s ++ [x]).length : Nat) : Int), p ++ (s ++ [x]) ++ r)) (by
              have e2 : p ++ (s ++ [x]) ++ r = p ++ s ++ x :: r := by simp
              have e3 : p.length + (s ++ [x]).length = p.length + s.length + 1 := by simp; omega
              rw [e2, e3]
              simp only [yG, z5, hd, hd2, Bool.and_self, cond_true, hi, zA, zFS hcv hl, h0, hk, decide_false, cond_false, s1, a1, zFI hs, hf, Bool.not_false, Sum.elim_inr, zU (k := p.length + s.length) (by omega)])]
            have := mL1 r p (s ++ [x]) (clE l x) (by simp; omega)
            rw [show max h (clE l x) = clE l x by omega]
            exact this
          | true =>
            rw [if_pos rfl]
            have sc1 : ∃ q, slc (p ++ s ++ x :: r) ((p.length + 1 : Nat) : Int) ((p.length + s.length + 1 : Nat) : Int) = some q := ⟨_, zNI (by omega) (by simp; omega)⟩
            have sc2 : ∃ q, slc (p ++ s ++ x :: r) (p.length : Int) ((p.length + s.length : Nat) : Int) = some q := ⟨_, zNI (by omega) (by simp)⟩
            obtain ⟨q1, hq1⟩ := sc1
            obtain ⟨q2, hq2⟩ := sc2
            have hcp := z4Z (p := p) (s := s) (r := r) (x := x)
            obtain ⟨_, _, hlt⟩ := zFM hcp
            have hix : ∃ q, kL (cpM (p ++ s ++ x :: r) ((p.length + 1 : Nat) : Int) ((p.length + s.length + 1 : Nat) : Int) (p.length : Int) ((p.length + s.length : Nat) : Int)) (p.length : Int) = some q := ⟨_, z9 (by simpa using hlt)⟩
            obtain ⟨q3, hq3⟩ := hix
            rw [zR (x' := (((p ++ [x]).length : Int), h, (((p ++ [x]).length + s.length : Nat) : Int), (p ++ [x]) ++ s ++ r)) (by
              have e3 : (p ++ [x]).length + s.length = p.length + s.length + 1 := by simp; omega
              have e4 : (p ++ [x]).length = p.length + 1 := by simp
              rw [e3, e4]
              simp only [yG, z5, hd, hd2, Bool.and_self, cond_true, hi, zA, zFS hcv hl, h0, hk, decide_false, cond_false, s1, a1, zFI hs, hf, Bool.not_true, zU (k := p.length + s.length) (by omega), zU (k := p.length) (by omega), hq1, hq2, hq3, hcp, Sum.elim_inr])]
            exact mL1 r (p ++ [x]) s h (by simp; omega)
    · have hd2 : decide (h < (zFH c l).top) = false := by rw [etop]; simpa using htop
      have hm := zMO (fd := fun q => (zB6 (kR c).Entries q).2) (cl := clE l) (x :: r) p s h (fun y => by have := z7D (l := l) y; omega)
      rw [hm]
      refine zM ?_
      simp only [yG, z5, hd, hd2, Bool.and_false, cond_false, List.append_assoc]
noncomputable def stE (c:Collation) (l:List Span) (text:List Int):Int×List Int×List Element:=if uY (kR c).Entries text=0 then (1,text.drop 1,zRP (kR c) (nth text 0)) else
 ((((zBT (fun q=>(zB6 (kR c).Entries q).2) (clE l) (text.drop (uY (kR c).Entries text)) (text.take (uY (kR c).Entries text)) [] 0).1.length:Nat):Int),(zBT (fun q=>(zB6 (kR c).Entries q).2) (clE l) (text.drop (uY (kR c).Entries text)) (text.take (uY (kR c).Entries text)) [] 0).2,(zB6 (kR c).Entries (zBT (fun q=>(zB6 (kR c).Entries q).2) (clE l) (text.drop (uY (kR c).Entries text)) (text.take (uY (kR c).Entries text)) [] 0).1).1)
theorem zYK {text:List Int} (ht:text.length≤2000) (h0:text≠[]):∃seq,j8 (zFH c l) text=some ((stE c l text).1,(stE c l text).2.2,decide (uY (kR c).Entries text≠0),seq)∧slc seq (stE c l text).1 (seq.length:Int)=some (stE c l text).2.1:=by
 unfold j8
 rw [z4Y hs ht,zA]
 have hpos:0 < text.length:=List.length_pos_iff.2 h0
 by_cases hz:uY (kR c).Entries text=0
 have e1:decide (((uY (kR c).Entries text:Nat):Int)=0)=true:=by simp [hz]
 have i0:kL text (0:Int)=some (nth text 0):=kP (k:=0) hpos
 have hst:stE c l text=(1,text.drop 1,zRP (kR c) (nth text 0)):=by unfold stE;rw [if_pos hz]
 have him:k4 (zFH c l) (nth text 0)=some (zRP (kR c) (nth text 0)):=zP1 c (nth text 0)
 rw [e1,cond_true,i0,zA,him,zA,hst]
 refine ⟨text,?_,?_⟩
 simp [hz]
 exact zPU (l:=text) (a:=1) (by omega)
 have e1:decide (((uY (kR c).Entries text:Nat):Int)=0)=false:=by simp;omega
 rw [e1,cond_false]
 have hle:uY (kR c).Entries text≤text.length:=zKU _ _
 have h1:=mL1 hs hcv hl (text.drop (uY (kR c).Entries text)) (text.take (uY (kR c).Entries text)) [] 0 (by simp;omega)
 have e2:(text.take (uY (kR c).Entries text)).length=uY (kR c).Entries text:=by simp;omega
 have e3:text.take (uY (kR c).Entries text)++ []++text.drop (uY (kR c).Entries text)=text:=by simp
 rw [e3,e2] at h1
 simp only [List.length_nil,Nat.add_zero] at h1
 rw [h1,zA]
 have hst:stE c l text=((((zBT (fun q=>(zB6 (kR c).Entries q).2) (clE l) (text.drop (uY (kR c).Entries text)) (text.take (uY (kR c).Entries text)) [] 0).1.length:Nat):Int),(zBT (fun q=>(zB6 (kR c).Entries q).2) (clE l) (text.drop (uY (kR c).Entries text)) (text.take (uY (kR c).Entries text)) [] 0).2,(zB6 (kR c).Entries (zBT (fun q=>(zB6 (kR c).Entries q).2) (clE l) (text.drop (uY (kR c).Entries text)) (text.take (uY (kR c).Entries text)) [] 0).1).1):=by unfold stE;rw [if_neg hz]
 rw [hst]
 generalize zBT (fun q=>(zB6 (kR c).Entries q).2) (clE l) (text.drop (uY (kR c).Entries text)) (text.take (uY (kR c).Entries text)) [] 0=q
 have s1:slc (q.1++q.2) 0 ((q.1.length:Nat):Int)=some q.1:=by rw [zDR (by simp)];simp
 simp only [s1,zA,zFI hs]
 refine ⟨q.1++q.2,?_,?_⟩
 simp [hz]
 rw [zPU (by simp)];simp
end
end Go.M
namespace Go.M
open Go.AV
def n0:Norm:={Classes:=[{Lo:=769,Hi:=769,Value:=230},{Lo:=803,Hi:=803,Value:=220}],Decomp:=[],Excluded:={Ranges:=[]}}
def c0:Collation:={Entries:=[{Codes:=[97],Elements:=[{Primary:=7,Secondary:=1,Tertiary:=1,Variable:=false}]},{Codes:=[97,769],Elements:=[{Primary:=8,Secondary:=1,Tertiary:=1,Variable:=false}]}],Groups:=[],Base:=100,Second:=1,Third:=1}
end Go.M
namespace Go.M
open Go.AV
theorem zYL {n:Norm} (h:DS n.Decomp) (hl:n.Decomp.length≤2000) (c:Int) (b:Bool):xM n c b=some (if syl c=true then (hdE c,true) else ((fnB n.Decomp b c).getD [],(fnB n.Decomp b c).isSome)):=by
 unfold xM
 rw [zFP,zA]
 by_cases hs:syl c=true
 have e:decide (4≤hkE c)=true:=by simpa using (zEE c).1 hs
 simp only [e,cond_true,zSU hs,zA,hs,if_true]
 have e:decide (4≤hkE c)=false:=by simp only [decide_eq_false_iff_not];exact fun hh=>hs ((zEE c).2 hh)
 simp only [Bool.not_eq_true] at hs
 simp only [e,cond_false,hs,Bool.false_eq_true,if_false]
 obtain ⟨i,hb,hp⟩:=zSX h hl c
 rw [hb]
 simp only [zA,z5]
 unfold fnB
 cases hf:n.Decomp.find? (isF c) with
 | none=>simp [zHC]
 | some m=>
  obtain ⟨h1,h2⟩:=hp m hf
  simp only [Option.isSome_some,Bool.not_true,Bool.not_false,zDS,kP h1,h2,zA,Bool.false_or]
  cases b <;> cases hm:(m.Tag== []) <;> simp [hm]
section
variable {n:Norm} {b:Bool} (hd:DS n.Decomp) (hl:n.Decomp.length≤2000) (hD:∀c,DD n.Decomp n.Decomp.length c) (hw:∀c,(fu n.Decomp b c).length≤64)
def XOk (l:List Mapping) (b:Bool) (m:List (Int×List Int)):Prop:= ∀k v,mget m k=some v→v=fu l b k
def zS9 (l:List Mapping) (f:Nat) (c:Int):Prop:=(∃k,DD l k c∧k+2≤f)∨(l.find? (isF c)=none∧syl c=false∧1≤f)
include hw in
theorem z40 {f : Nat} (ih : ∀ c m, XOk n.Decomp b m → zS9 n.Decomp f c → ∃ m', yJ f c m n b = some (fu n.Decomp b c, m') ∧ XOk n.Decomp b m') (L : List Int) (hL : L.length ≤ 2000) (hn : ∀ e ∈ L, zS9 n.Decomp f e) :
    ∀ (d i : Nat) (acc : List Int) (m : List (Int × List Int)), L.length - i = d → i ≤ L.length → acc.length ≤ 64 * i → XOk n.Decomp b m →
      ∃ m', zD (fun (x : Int × (List Int) × (List (Int × (List Int)))) => kD (L, true) (yJ f) n b x.1 x.2.1 x.2.2) ((i : Int), acc, m) = some (acc ++ (L.drop i).flatMap (fu n.Decomp b), m') ∧ XOk n.Decomp b m' := by
  intro d
  induction d with
  | zero =>
    intro i acc m h1 h2 h3 h4
    refine ⟨m, ?_, h4⟩
    refine zM ?_
    rw [List.drop_of_length_le (show L.length ≤ i by omega)]
    simp only [kD, jS (show L.length ≤ i by omega), cond_false, List.flatMap_nil, List.append_nil]
  | succ d ihd =>
    intro i acc m h1 h2 h3 h4
    have hi : i < L.length := by omega
    obtain ⟨m1, hr, r1⟩ := ih L[i] m h4 (hn _ (List.getElem_mem hi))
    have hw1 := hw L[i]
    have ha : app acc (fu n.Decomp b L[i]) = some (acc ++ fu n.Decomp b L[i]) := zAP (by omega)
    rw [zR (x' := (((i + 1 : Nat) : Int), acc ++ fu n.Decomp b L[i], m1)) (by
      simp only [kD, jI hi, cond_true, z9 hi, zA, hr, ha, zU (k := i) (by omega)])]
    obtain ⟨m2, hq, q1⟩ := ihd (i + 1) (acc ++ fu n.Decomp b L[i]) m1 (by omega) (by omega) (by rw [List.length_append]; omega) r1
    refine ⟨m2, ?_, q1⟩
    rw [hq, List.drop_eq_getElem_cons hi, List.flatMap_cons, List.append_assoc]
include hd hl hD hw in
theorem z7F:∀(f:Nat) (c:Int) (m:List (Int×List Int)),XOk n.Decomp b m→zS9 n.Decomp f c→∃m',yJ f c m n b=some (fu n.Decomp b c,m')∧XOk n.Decomp b m':=by
 intro f
 induction f with
 | zero=>intro c m _ hn;exfalso;rcases hn with ⟨k,_,h⟩ | ⟨_,_,h⟩ <;> omega
 | succ f ih=>
  intro c m hm hn
  show ∃m',jT (yJ f) c m n b=some _∧_
  unfold jT
  cases hh:uE m c with
  | true=>
   obtain ⟨v,hv⟩:=Option.isSome_iff_exists.1 hh
   have hg:wO m c []=v:=by unfold wO;rw [hv];rfl
   rw [cond_true,hg,hm c v hv]
   exact ⟨m,rfl,hm⟩
  | false=>
   rw [cond_false,zYL hd hl,zA]
   have fin:∀(L:List Int),L.length≤2000→(∀e∈L,zS9 n.Decomp f e)→L.flatMap (fu n.Decomp b)=fu n.Decomp b c→∃m',(cond (!((L,true):List Int×Bool).2) (some ([c],m)) ((zD (fun (x:Int×(List Int)×(List (Int×(List Int))))=>kD (L,true) (yJ f) n b x.1 x.2.1 x.2.2) (0,[],m)).bind fun (y1:(List Int)×(List (Int×(List Int))))=>some (y1.1,wS y1.2 c y1.1)))=some (fu n.Decomp b c,m')∧XOk n.Decomp b m':=by
    intro L hL hne hfl
    obtain ⟨m1,hq,q1⟩:=z40 hw ih L hL hne L.length 0 [] m (by omega) (by omega) (by simp) hm
    rw [List.drop_zero,List.nil_append,hfl] at hq
    have hq':zD (fun (x:Int×(List Int)×(List (Int×(List Int))))=>kD (L,true) (yJ f) n b x.1 x.2.1 x.2.2) (0,[],m)=some (fu n.Decomp b c,m1):=hq
    simp only [Bool.not_true,cond_false]
    rw [hq']
    refine ⟨wS m1 c (fu n.Decomp b c),rfl,fun k v hk=>?_⟩
    rw [jR] at hk
    split at hk
    rename_i hx;cases hk;rw [hx]
    exact q1 k v hk
   cases hs:syl c with
   | true=>
    simp only [if_true]
    have hnone:=zQD hd hs
    have hpt:∀e∈hdE c,n.Decomp.find? (isF e)=none∧syl e=false:=by
     intro e he
     obtain ⟨p1,p2⟩:=zKQ hs he
     refine ⟨?_,p1⟩
     cases hf2:n.Decomp.find? (isF e) with
     | none=>rfl
     | some m=>obtain ⟨q1,rfl⟩:=zB8 hf2;exact absurd (hd.hk m q1) p2
    refine fin (hdE c) (by have:=zH6 c;omega) (fun e he=>?_) ?_
    obtain ⟨p1,p2⟩:=hpt e he
    refine .inr ⟨p1,p2,?_⟩
    rcases hn with ⟨k,_,h⟩ | ⟨_,h,_⟩
    omega
    rw [hs] at h;cases h
    have h1:fu n.Decomp b c=hdE c:=by rw [zS4 hD,zCT hnone]
    rw [h1]
    have:∀L:List Int,(∀e∈L,n.Decomp.find? (isF e)=none∧syl e=false)→L.flatMap (fu n.Decomp b)=L:=by
     intro L
     induction L with
     | nil=>intro _;rfl
     | cons x L ihL=>
      intro h
      obtain ⟨p1,p2⟩:=h x (by simp)
      have hx:fu n.Decomp b x= [x]:=by rw [zS4 hD,zCT p1];show hdE x= [x];unfold hdE;rw [if_neg (by simp [p2])]
      rw [List.flatMap_cons,hx,ihL fun e he=>h e (by simp [he])]
      rfl
    exact this _ hpt
   | false=>
    simp only [Bool.false_eq_true,if_false]
    cases hf:fnB n.Decomp b c with
    | none=>
     simp only [Option.getD_none,Option.isSome_none,Bool.not_false,cond_true]
     refine ⟨m,?_,hm⟩
     rw [zS4 hD,hf]
     have:hdE c= [c]:=by unfold hdE;rw [if_neg (by simp [hs])]
     simp only [this]
    | some to=>
     simp only [Option.getD_some,Option.isSome_some]
     obtain ⟨mm,h1,rfl,_⟩:=zFG hf
     obtain ⟨h2,_⟩:=zB8 h1
     refine fin mm.To (hd.len mm h2) (fun e he=>?_) (by rw [zS4 hD c,hf])
     rcases hn with ⟨k,hk,h⟩ | ⟨h,_,_⟩
     cases k with
     | zero=>have:n.Decomp.find? (isF c)=none:=hk;rw [this] at h1;cases h1
     | succ k=>exact .inl ⟨k,hk mm h1 e he,by omega⟩
     rw [h] at h1;cases h1
end
noncomputable def usN (n:Norm):Norm:=open Classical in if VD0 n then n else {Classes:=[],Decomp:=[],Excluded:={Ranges:=[]}}
structure GN (n:Norm):Prop where
 ds:DS n.Decomp
 cv:CV n.Classes
 H:∀m∈n.Decomp,WW n.Decomp m.From
 w:∀m∈n.Decomp,wt n.Decomp true m.From≤64
 cl:n.Classes.length≤40
 de:n.Decomp.length≤40
 ok:∀x∈n.Classes,okSpan x
theorem zYM {n:Norm} (hs:NSm n) (hok:zDC n):GN (usN n):=by
 unfold usN
 split
 rename_i h
 obtain ⟨h1,h2⟩:=(z4U h.ds (by have:=hs.de;omega)).1 h.ms
 exact ⟨h.ds,h.cv,h1,h2,hs.cl,hs.de,hok.1.2⟩
 exact ⟨⟨fun k hk=>(by cases hk),fun m hm=>(by cases hm),fun m hm=>(by cases hm)⟩,zYG,fun m hm=>(by cases hm),fun m hm=>(by cases hm),by simp,by simp,fun x hx=>by cases hx⟩
theorem GN.dd {n:Norm} (h:GN n):∀c,DD n.Decomp n.Decomp.length c:=zNP h.ds h.H
theorem GN.len {n:Norm} (h:GN n) (b:Bool) (c:Int):(fu n.Decomp b c).length≤64:=z4T h.ds (z4V h.ds h.H h.w) b c
theorem GN.ex {n:Norm} (h:GN n) {b:Bool} (c:Int) (m:List (Int×List Int)) (hm:XOk n.Decomp b m):∃m',yJ 100 c m n b=some (fu n.Decomp b c,m')∧XOk n.Decomp b m':=
 z7F h.ds (by have:=h.de;omega) h.dd (h.len b) 100 c m hm (.inl ⟨_,h.dd c,by have:=h.de;omega⟩)
theorem z1M {n:Norm} (hs:NSm n) (hok:zDC n):wG n=some (usN n):=by
 obtain ⟨e,he,hv⟩:=zYA hs hok
 unfold wG usN
 rw [he,zA]
 by_cases hz:e=0
 rw [if_pos (hv.1 hz)];simp [hz]
 rw [if_neg (fun h=>hz (hv.2 h))];simp [hz]
theorem zU3 {n : Norm} (h : GN n) {b : Bool} {text : List Int} (ht : text.length ≤ 2000) : ∀ (d i : Nat) (acc : List Int) (m : List (Int × List Int)), text.length - i = d → i ≤ text.length → acc.length ≤ 64 * i → XOk n.Decomp b m →
    zD (fun (x : Int × (List Int) × (List (Int × (List Int)))) => k8 text n b x.1 x.2.1 x.2.2) ((i : Int), acc, m) = some (acc ++ (text.drop i).flatMap (fu n.Decomp b)) := by
  intro d
  induction d with
  | zero =>
    intro i acc m h1 h2 h3 h4
    refine zM ?_
    rw [List.drop_of_length_le (show text.length ≤ i by omega)]
    simp only [k8, jS (show text.length ≤ i by omega), cond_false, List.flatMap_nil, List.append_nil]
  | succ d ih =>
    intro i acc m h1 h2 h3 h4
    have hi : i < text.length := by omega
    obtain ⟨m1, hr, r1⟩ := h.ex (b := b) text[i] m h4
    have hw1 := h.len b text[i]
    have ha : app acc (fu n.Decomp b text[i]) = some (acc ++ fu n.Decomp b text[i]) := zAP (by omega)
    rw [zR (x' := (((i + 1 : Nat) : Int), acc ++ fu n.Decomp b text[i], m1)) (by
      simp only [k8, jI hi, cond_true, z9 hi, zA, hr, ha, zU (k := i) (by omega)])]
    rw [ih (i + 1) (acc ++ fu n.Decomp b text[i]) m1 (by omega) (by omega) (by rw [List.length_append]; omega) r1, List.drop_eq_getElem_cons hi, List.flatMap_cons, List.append_assoc]
noncomputable def zGC (n:Norm) (b:Bool) (text:List Int):List Int:=text.flatMap (fu (usN n).Decomp b)
theorem z1N {n:Norm} (hs:NSm n) (hok:zDC n) {text:List Int} (ht:text.length≤2000) (b:Bool):jU n text b=vF (usN n).Classes (zGC n b text):=by
 have h:=zYM hs hok
 unfold jU uB
 have hu:wG {Classes:=n.Classes,Decomp:=n.Decomp,Excluded:={Ranges:=n.Excluded.Ranges}}=some (usN n):=z1M hs hok
 have hlp:=zU3 h (b:=b) ht text.length 0 [] [] (by omega) (by omega) (by simp) (fun k v h=>by cases h)
 rw [List.drop_zero,List.nil_append] at hlp
 have hlp':zD (fun (x:Int×(List Int)×(List (Int×(List Int))))=>k8 text (usN n) b x.1 x.2.1 x.2.2) (0,[],[])=some (zGC n b text):=hlp
 rw [hu,zA,zA,hlp',zA]
 cases vF (usN n).Classes (zGC n b text) <;> rfl
end Go.M
namespace Go.M
open Go.AV
section
variable (key:Int→Int)
def ltK (a b:Int):Bool:=decide (key a < key b)
def ltC (a b:Int):Bool:=decide (0 < key a)&&decide (key a < key b)
def srt (l:List Int):List Int:=wQ (ltK key) l []
def csE (l:List Int):List Int:=wQ (ltC key) l []
def rsE:List Int→List Int→List Int
 | [],run=>srt key run
 | x::t,run=>if key x=0 then srt key run++x::rsE t [] else rsE t (run++ [x])
end
section
variable {key:Int→Int}
theorem zYN (l:List Int) (x:Int):srt key (l++ [x])=vH (ltK key) (srt key l).reverse x []:=by
 unfold srt wQ
 rw [List.foldl_append]
 rfl
theorem zTB (l:List Int):Flt key l (srt key l):=by
 have:=zFR (key:=key) l []
 exact this
theorem zTC (l:List Int):(srt key l).length=l.length:=(zTB l).len.symm
theorem zTD {x:Int} (hx:0 < key x):∀(r q s:List Int),(∀y,q.head? =some y→key y=0)→vH (ltC key) (r++q) x s=q.reverse++vH (ltK key) r x s
 | [],q,s,hq=>by
  cases q with
  | nil=>rfl
  | cons y q=>
   have:ltC key x y=false:=by unfold ltC;rw [hq y rfl];simp;omega
   show vH (ltC key) (y::q) x s=_
   simp only [vH,this,Bool.false_eq_true,if_false]
 | y::r,q,s,hq=>by
  have e:ltC key x y=ltK key x y:=by unfold ltC ltK;simp [hx]
  show vH (ltC key) (y::(r++q)) x s=q.reverse++vH (ltK key) (y::r) x s
  simp only [vH,e]
  cases ltK key x y with
  | true=>simp only [if_true];exact zTD hx r q (y::s) hq
  | false=>simp
theorem zYO (hnn : ∀ x, 0 ≤ key x) : ∀ (t run p : List Int), (∀ y, p.reverse.head? = some y → key y = 0) → wQ (ltC key) t (p ++ srt key run) = p ++ rsE key t run
  | [], run, p, _ => rfl
  | x :: t, run, p, hp => by
    show wQ (ltC key) t (vH (ltC key) (p ++ srt key run).reverse x []) = p ++ rsE key (x :: t) run
    by_cases h0 : key x = 0
    · have e : ∀ r : List Int, vH (ltC key) r x [] = r.reverse ++ [x] := by
        intro r
        cases r with
        | nil => rfl
        | cons y r =>
          have : ltC key x y = false := by unfold ltC; rw [h0]; simp
          simp [vH, this]
      have ih := zYO hnn t [] (p ++ srt key run ++ [x]) (fun y hy => by simp at hy; rw [← hy]; exact h0)
      have e2 : srt key [] = [] := rfl
      rw [e2, List.append_nil] at ih
      rw [e, List.reverse_reverse, ih]
      simp [rsE, h0]
    · have hx : 0 < key x := by have := hnn x; omega
      rw [List.reverse_append, zTD hx _ _ _ hp, List.reverse_reverse, ← zYN, zYO hnn t (run ++ [x]) p hp]
      simp [rsE, h0]
theorem z42 (hnn:∀x,0≤key x) (t:List Int):csE key t=rsE key t []:=by
 have:=zYO hnn t [] [] (fun y hy=>by cases hy)
 exact this
theorem zYP (t:List Int):(csE key t).Perm t:=by
 have:=zEC (ltC key) t []
 rw [List.nil_append] at this
 exact this
theorem z1O (t:List Int):(csE key t).length=t.length:=(zYP t).length_eq
theorem zQJ {f:List Int→Option (List Int)} {P run T r:List Int} (hpos:0 < run.length) (hf:f run=some r):zEL f (P++run++T) (P.length:Int) ((P.length+run.length:Nat):Int)=some (P++r++T):=by
 unfold zEL
 have a1:((P.length:Int)).toNat=P.length:=by simp
 have a2:(((P.length+run.length:Nat):Int)).toNat=P.length+run.length:=by omega
 rw [a1,a2,if_pos ⟨by omega,by omega,by rw [List.length_append,List.length_append];omega⟩]
 have e1:((P++run++T).drop P.length).take (P.length+run.length - P.length)=run:=by
  rw [List.append_assoc,List.drop_left,show P.length+run.length - P.length=run.length by omega,List.take_left]
 have d1:(P++run++T).take P.length=P:=by rw [List.append_assoc,List.take_left]
 have d2:(P++run++T).drop (P.length+run.length)=T:=by rw [←List.length_append,List.drop_left]
 rw [e1,d1,d2,hf]
 rfl
theorem zTE {f : List Int → Option (List Int)} {st : Int → Bool} (hst : ∀ x, st x = decide (key x = 0)) (hf : ∀ l, l.length ≤ 2000 → f l = some (srt key l)) : ∀ (t run P : List Int) (s : Int), P.length + run.length + t.length ≤ 2000 → (run = [] ∧ s = -1 ∨ run ≠ [] ∧ s = (P.length : Int)) →
    wK f Range.Lo Range.Hi (P ++ run ++ t) (k9 st t ((P.length + run.length : Nat) : Int) s) = some (P ++ rsE key t run)
  | [], run, P, s, hl, hs => by
    rcases hs with ⟨rfl, rfl⟩ | ⟨hne, rfl⟩
    · simp only [k9, show ¬ (0 : Int) ≤ -1 by decide, if_false]
      show some (P ++ [] ++ []) = some (P ++ [])
      simp
    · have h0 : (0 : Int) ≤ (P.length : Int) := by omega
      simp only [k9, h0, if_true]
      have hpos : 0 < run.length := List.length_pos_iff.2 hne
      show (some (P ++ run ++ [])).bind (fun l => zEL f l (P.length : Int) ((P.length + run.length : Nat) : Int)) = _
      rw [zA, zQJ hpos (hf run (by simp at hl; omega))]
      simp [rsE]
  | x :: t, run, P, s, hl, hs => by
    have hl' : P.length + run.length + t.length + 1 ≤ 2000 := by simp only [List.length_cons] at hl; omega
    by_cases h0 : key x = 0
    · have hsx : st x = true := by rw [hst]; simp [h0]
      rcases hs with ⟨rfl, rfl⟩ | ⟨hne, rfl⟩
      · have e : k9 st (x :: t) ((P.length + ([] : List Int).length : Nat) : Int) (-1) = k9 st t (((P ++ [x]).length + ([] : List Int).length : Nat) : Int) (-1) := by
          simp only [k9, hsx]
          simp
        have ih := zTE hst hf t [] (P ++ [x]) (-1) (by simp only [List.length_append, List.length_singleton, List.length_nil]; simp at hl'; omega) (.inl ⟨rfl, rfl⟩)
        rw [e, show P ++ [] ++ x :: t = P ++ [x] ++ [] ++ t by simp, ih]
        have e2 : srt key [] = [] := rfl
        simp [rsE, h0, e2]
      · have h00 : (0 : Int) ≤ (P.length : Int) := by omega
        have hpos : 0 < run.length := List.length_pos_iff.2 hne
        have e : k9 st (x :: t) ((P.length + run.length : Nat) : Int) (P.length : Int) = { Lo := (P.length : Int), Hi := ((P.length + run.length : Nat) : Int) } :: k9 st t (((P ++ srt key run ++ [x]).length + ([] : List Int).length : Nat) : Int) (-1) := by
          have e3 : (((P ++ srt key run ++ [x]).length + ([] : List Int).length : Nat) : Int) = ((P.length + run.length : Nat) : Int) + 1 := by simp [zTC]; omega
          rw [e3]
          simp only [k9, hsx, Bool.not_true, Bool.false_and, Bool.false_eq_true, if_false, Bool.true_and, h00, decide_true, if_true]
        have ih := zTE hst hf t [] (P ++ srt key run ++ [x]) (-1) (by simp [zTC]; omega) (.inl ⟨rfl, rfl⟩)
        have e4 : zEL f (P ++ run ++ x :: t) (P.length : Int) ((P.length + run.length : Nat) : Int) = some (P ++ srt key run ++ [x] ++ [] ++ t) := by
          rw [zQJ hpos (hf run (by omega))]
          simp
        have e5 : wK f Range.Lo Range.Hi (P ++ run ++ x :: t) ({ Lo := (P.length : Int), Hi := ((P.length + run.length : Nat) : Int) } :: k9 st t (((P ++ srt key run ++ [x]).length + ([] : List Int).length : Nat) : Int) (-1)) = wK f Range.Lo Range.Hi (P ++ srt key run ++ [x] ++ [] ++ t) (k9 st t (((P ++ srt key run ++ [x]).length + ([] : List Int).length : Nat) : Int) (-1)) := by
          unfold wK
          rw [List.foldl_cons, zA, e4]
        rw [e, e5, ih]
        simp [rsE, h0]
    · have hsx : st x = false := by rw [hst]; simp [h0]
      have e : k9 st (x :: t) ((P.length + run.length : Nat) : Int) s = k9 st t ((P.length + (run ++ [x]).length : Nat) : Int) (P.length : Int) := by
        have e3 : ((P.length + (run ++ [x]).length : Nat) : Int) = ((P.length + run.length : Nat) : Int) + 1 := by simp; omega
        rw [e3]
        rcases hs with ⟨rfl, rfl⟩ | ⟨hne, rfl⟩
        · simp [k9, hsx]
        · have : ¬ ((P.length : Int) < 0) := by omega
          simp only [k9, hsx, Bool.not_false, Bool.true_and, this, decide_false, Bool.false_eq_true, if_false, Bool.false_and]
      have ih := zTE hst hf t (run ++ [x]) P (P.length : Int) (by simp; omega) (.inr ⟨by simp, rfl⟩)
      rw [e, show P ++ run ++ x :: t = P ++ (run ++ [x]) ++ t by simp, ih]
      simp [rsE, h0]
end
theorem zYQ {l:List Span} (h:CV l) (hl:l.length≤2000) (x y:Int):jY x y l=some (sg (clE l x) (clE l y)):=by
 unfold jY
 simp only [zCS h hl,zA,zUX]
 unfold sg
 rfl
theorem z43 {l:List Span} (h:CV l) (hl:l.length≤2000) (hok:∀x∈l,okSpan x) {text:List Int} (ht:text.length≤2000):vF l text=some (csE (clE l) text):=by
 have hnn:∀x,0≤clE l x:=z7E h
 unfold vF w8
 have hst:∀x,(yV l x==some 0)=decide (clE l x=0):=fun x=>by rw [zCS h hl];by_cases hx:clE l x=0 <;> simp [hx]
 rw [zMK hl hok h,zA,z8Y ht,zA,zQB h hl ht hst rfl,zA]
 have:=zTE (key:=clE l) (f:=fun p=>yR p (fun x0 x1=>jY x0 x1 l)) (st:=fun c=>yV l c==some 0) hst (fun p hp=>by
  obtain ⟨r,r1,r2,r3⟩:=zU2 (key:=clE l) (f:=fun x0 x1=>jY x0 x1 l) (fun x y=>zYQ h hl x y) p hp
  rw [r1]
  have:=zQH (key:=clE l) r2 (zH9 (key:=clE l) p) (r3.symm.trans (zTB p))
  rw [this]
  rfl) text [] [] (-1) (by simpa using ht) (.inl ⟨rfl,rfl⟩)
 rw [z42 hnn]
 exact this
noncomputable def zGQ (n:Norm) (b:Bool) (text:List Int):List Int:=csE (clE (usN n).Classes) (zGC n b text)
theorem zQK (n:Norm) (b:Bool) (text:List Int):(zGQ n b text).length=(zGC n b text).length:=z1O _
theorem zQL {n:Norm} (hs:NSm n) (hok:zDC n) {text:List Int} {b:Bool} (ht:text.length≤2000) (hf:(zGC n b text).length≤2000):jU n text b=some (zGQ n b text):=by
 have h:=zYM hs hok
 rw [z1N hs hok ht,z43 h.cv (by have:=h.cl;omega) h.ok hf]
 rfl
end Go.M
namespace Go.M
open Go.AV
noncomputable def wkE (c:Collation) (l:List Span):Nat→List Int→List Element×Bool
 | 0,_=>([],true)
 | k+1,text=>if text= [] then ([],true) else ((stE c l text).2.2++(wkE c l k (stE c l text).2.1).1,decide (uY (kR c).Entries text≠0)&&(wkE c l k (stE c l text).2.1).2)
theorem z44 {c:Collation} {l:List Span} {text:List Int} (h0:text≠[]):1≤(stE c l text).1∧(stE c l text).1+((stE c l text).2.1.length:Int)=(text.length:Int):=by
 have hpos:0 < text.length:=List.length_pos_iff.2 h0
 unfold stE
 split
 refine ⟨by simp,?_⟩
 show (1:Int)+((text.drop 1).length:Int)=_
 rw [List.length_drop];omega
 rename_i hz
 have hle:uY (kR c).Entries text≤text.length:=zKU _ _
 have hinv:=zKV (fd:=fun q=>(zB6 (kR c).Entries q).2) (cl:=clE l) (text.drop (uY (kR c).Entries text)) (text.take (uY (kR c).Entries text)) [] 0
 generalize zBT (fun q=>(zB6 (kR c).Entries q).2) (clE l) (text.drop (uY (kR c).Entries text)) (text.take (uY (kR c).Entries text)) [] 0=q at*
 obtain ⟨i1,i2,_⟩:=hinv
 rw [List.length_take,Nat.min_eq_left hle] at i1 i2
 rw [List.length_drop] at i2
 simp only [List.length_nil] at i2
 constructor
 show (1:Int)≤(q.1.length:Int);omega
 show (q.1.length:Int)+(q.2.length:Int)=_;omega
theorem zTF {c:Collation} {l:List Span} {text:List Int} (h0:text≠[]):(stE c l text).2.1.length < text.length:=by
 have:=z44 (c:=c) (l:=l) h0
 omega
theorem z2Z {c:Collation} (hs:Sm c) {l:List Span} (text:List Int):(stE c l text).2.2.length≤2000:=by
 unfold stE
 split
 exact z04 _ _
 exact z03 (zXW hs) _
theorem zTG {c:Collation} {l:List Span}:∀(k j:Nat) (text:List Int),text.length≤k→text.length≤j→wkE c l k text=wkE c l j text
 | 0,j,text,h,_=>by
  have:text= []:=List.eq_nil_of_length_eq_zero (by omega)
  subst this
  cases j with
  | zero=>rfl
  | succ j=>simp [wkE]
 | k+1,j,text,h,hj=>by
  by_cases h0:text= []
  subst h0
  cases j <;> simp [wkE]
  have hpos:0 < text.length:=List.length_pos_iff.2 h0
  cases j with
  | zero=>omega
  | succ j=>
   have hlt:=zTF (c:=c) (l:=l) h0
   simp only [wkE,h0,if_false]
   rw [zTG k j _ (by omega) (by omega)]
noncomputable def wk (c:Collation) (l:List Span) (text:List Int):List Element×Bool:=wkE c l text.length text
theorem zNS (c:Collation) (l:List Span):wk c l []=([],true):=rfl
theorem zTH {c:Collation} {l:List Span} {text:List Int} (h0:text≠[]):wk c l text=((stE c l text).2.2++(wk c l (stE c l text).2.1).1,decide (uY (kR c).Entries text≠0)&&(wk c l (stE c l text).2.1).2):=by
 have hlt:=zTF (c:=c) (l:=l) h0
 unfold wk
 obtain ⟨k,hk⟩:∃k,text.length=k+1:=⟨text.length - 1,by have:=List.length_pos_iff.2 h0;omega⟩
 rw [hk]
 simp only [wkE,h0,if_false]
 rw [zTG k (stE c l text).2.1.length _ (by omega) (by omega)]
theorem z45 {c:Collation} (hs:Sm c) {l:List Span}:∀(k:Nat) (text:List Int),text.length≤k→(wk c l text).1.length≤2000*text.length:=by
 intro k
 induction k with
 | zero=>
  intro text h
  have:text= []:=List.eq_nil_of_length_eq_zero (by omega)
  subst this;rw [zNS];simp
 | succ k ih=>
  intro text h
  by_cases h0:text= []
  subst h0;rw [zNS];simp
  have hlt:=zTF (c:=c) (l:=l) h0
  have h1:=ih _ (show (stE c l text).2.1.length≤k by omega)
  have h2:=z2Z hs (l:=l) text
  rw [zTH h0]
  show ((stE c l text).2.2++(wk c l (stE c l text).2.1).1).length≤_
  rw [List.length_append]
  omega
section
variable {c:Collation} (hs:Sm c) {l:List Span} (hcv:CV l) (hl:l.length≤2000)
include hs hcv hl
theorem z1Q:∀(k:Nat) (text:List Int) (acc:List Element),text.length≤k→text.length≤2000→acc.length+2000*text.length≤100000000→zD (fun (x:(List Element)×(List Int))=>k7 (zFH c l) x.1 x.2) (acc,text)=some (acc++(wk c l text).1):=by
 intro k
 induction k with
 | zero=>
  intro text acc h _ _
  have:text= []:=List.eq_nil_of_length_eq_zero (by omega)
  subst this
  refine zM ?_
  simp [k7,zNS]
 | succ k ih=>
  intro text acc h ht ha
  by_cases h0:text= []
  subst h0
  refine zM ?_
  simp [k7,zNS]
  have hpos:0 < text.length:=List.length_pos_iff.2 h0
  have hlt:=zTF (c:=c) (l:=l) h0
  have h2:=z2Z hs (l:=l) text
  obtain ⟨seq,m1,m2⟩:=zYK hs hcv hl ht h0
  have e0:decide ((0:Int) < (text.length:Int))=true:=by simp;omega
  have ea:app acc (stE c l text).2.2=some (acc++(stE c l text).2.2):=zAP (by omega)
  rw [zR (x':=(acc++(stE c l text).2.2,(stE c l text).2.1)) (by simp only [k7,e0,cond_true,m1,zA,ea,m2])]
  rw [ih _ _ (by omega) (by omega) (by rw [List.length_append];omega),zTH h0,List.append_assoc]
end
theorem zYR (n:Norm):zAY n=(usN n).Classes:=by
 unfold zAY usN
 split <;> rfl
section
variable {n:Norm} {c:Collation} (hn:NSm n) (hok:zDC n) (hs:Sm c) (hg:∀g∈c.Groups,g.Name.length≤MX) {text:List Int} (ht:text.length≤2000) (hf:(zGC n false text).length≤2000)
include hn hok hs hg ht hf
theorem zQM:wN n c text=some (wk c (zAY n) (zGQ n false text)).1:=by
 unfold wN
 have hl:(zAY n).length≤2000:=by have:=zMM hn;omega
 have hd:(zGQ n false text).length≤2000:=by rw [zQK];exact hf
 rw [z01 hs hg,zA,z1L hn hok,zA,zQL hn hok ht hf,zA,z1Q hs (zYH n) hl _ _ [] (Nat.le_refl _) hd (by simp;omega)]
 rfl
end
theorem z46 {n:Norm} {c:Collation} (hs:Sm c) {text:List Int} (hd:(zGQ n false text).length≤2000):(wk c (zAY n) (zGQ n false text)).1.length≤1000000000:=by
 have:=z45 hs (l:=zAY n) _ (zGQ n false text) (Nat.le_refl _)
 omega
end Go.M
namespace Go.M
open Go.AV
end Go.M
namespace Go.M
open Go.AV
end Go.M
namespace Go.M
open Go.AV
end Go.M
namespace Go.M
open Go.AV
end Go.M
namespace Go.M
open Go.AV
def pM (c:Int) (b:Bool) (k:Nat) (m:Mapping):Option Nat:=if m.From=c∧(b ||(m.Tag== []))=true then some k else none
def fi (l:List Mapping) (c:Int) (b:Bool):Option Nat:=chk (pM c b) l 0
end Go.M
namespace Go.M
open Go.AV
section
variable {l:List Mapping} (hd:DS l) (hD:∀c,DD l l.length c) {b:Bool}
def lenOf (l:List Mapping) (b:Bool) (out:List Int) (e:Int):Int:=match fi l e b with
 | some m=>nth out m
 | none=>((hdE e).length:Int)
def updL (l:List Mapping) (b:Bool) (out:List Int) (i:Nat):Int:=if (b ||((nth l i).Tag== []))=true then min (max (((nth l i).To.map (lenOf l b out)).sum) 1) 65 else 1
include hd hD
end
end Go.M
namespace Go.M
open Go.AV
end Go.M
namespace Go.M
open Go.AV
end Go.M
namespace Go.M
open Go.AV
end Go.M
namespace Go.M
open Go.AV
end Go.M
namespace Go.M
open Go.AV
end Go.M
namespace Go.M
open Go.AV
end Go.M
namespace Go.M
open Go.AV
end Go.M
namespace Go.M
open Go.AV
def ckO (o:Options):Int:=if o.Strength < 1∨4 < o.Strength then 1 else if o.Variable < 1∨3 < o.Variable then 8 else 0
def zBU (o:Options):Options:=if ckO o=0 then o else {Strength:=3,Variable:=1,Backward:=false,Identical:=false}
theorem zRX (o:Options):xI o=some (ckO o):=by
 unfold xI ckO
 rw [z5]
 by_cases h1:o.Strength < 1∨4 < o.Strength
 have:(decide (o.Strength < 1) ||decide (4 < o.Strength))=true:=by simpa using h1
 rw [this,if_pos h1];rfl
 have:(decide (o.Strength < 1) ||decide (4 < o.Strength))=false:=by simpa using h1
 rw [this,if_neg h1,cond_false]
 by_cases v1:o.Variable=1
 simp [v1]
 by_cases v2:o.Variable=2
 simp [v2]
 by_cases v3:o.Variable=3
 simp [v3]
 rw [if_pos (by omega)]
 simp [v1,v2,v3]
theorem zYS (o:Options):zBP o=some (ckO o):=by
 unfold zBP ckO
 rw [z5,z5]
 by_cases h1:o.Strength < 1∨4 < o.Strength
 have:(decide (o.Strength < 1) ||decide (4 < o.Strength))=true:=by simpa using h1
 rw [this,if_pos h1];rfl
 have:(decide (o.Strength < 1) ||decide (4 < o.Strength))=false:=by simpa using h1
 rw [this,if_neg h1,cond_false]
 by_cases h2:o.Variable < 1∨3 < o.Variable
 have:(decide (o.Variable < 1) ||decide (3 < o.Variable))=true:=by simpa using h2
 rw [this,if_pos h2];rfl
 have:(decide (o.Variable < 1) ||decide (3 < o.Variable))=false:=by simpa using h2
 rw [this,if_neg h2];rfl
theorem zTI (o:Options):xU o=some (zBU o):=by
 unfold xU zBU
 rw [zRX,zA]
 by_cases h:ckO o=0 <;> simp [h]
theorem zYT (o:Options):ckO (zBU o)=0:=by
 unfold zBU
 split
 assumption
 rfl
theorem zYU {o:Options} (h:ckO o=0):zBU o=o:=by unfold zBU;rw [if_pos h]
theorem z47 {o:Options} (h:ckO o=0):1≤o.Strength∧o.Strength≤4∧1≤o.Variable∧o.Variable≤3:=by
 unfold ckO at h
 split at h
 cases h
 split at h
 cases h
 omega
def nz (x:Int):List Int:=if x=0 then [] else [x]
def col:Nat→A4Int→Int
 | 0,w=>w.x0
 | 1,w=>w.x1
 | 2,w=>w.x2
 | _,w=>w.x3
def row (k:Nat) (L:List A4Int):List Int:=L.flatMap fun w=>nz (col k w)
def zNT (f:Bool) (e:Element):Bool:=if e.Variable=true∨e.Primary≠0 then e.Variable else f
def zQN (e:Element):Prop:=e.Primary=0∧e.Secondary=0∧e.Tertiary=0
instance (e:Element):Decidable (zQN e):=by unfold zQN;infer_instance
def tr1 (v:Int) (f:Bool) (e:Element):A4Int:=
 if v=1 then {x0:=e.Primary,x1:=e.Secondary,x2:=e.Tertiary,x3:=if zQN e then 0 else 65535}
 else if zNT f e=true then {x0:=0,x1:=0,x2:=0,x3:=if v=3∧e.Variable=true then e.Primary else 0}
 else {x0:=e.Primary,x1:=e.Secondary,x2:=e.Tertiary,x3:=if v=3∧¬zQN e then 65535 else 0}
def trL (v:Int):Bool→List Element→List A4Int
 | _,[]=>[]
 | f,e::l=>tr1 v f e::trL v (zNT f e) l
theorem zNU (v:Int):∀(l:List Element) (f:Bool),(trL v f l).length=l.length
 | [],_=>rfl
 | e::l,f=>by simp [trL,zNU v l]
theorem zYW {v:Int} (hv:1≤v∧v≤3) (e:Element) (f:Bool):xW e v f=some (tr1 v f e,if v=1 then f else zNT f e):=by
 obtain ⟨p,s,t,va⟩:=e
 unfold xW tr1 zNT zQN
 rcases (by omega:v=1∨v=2∨v=3) with rfl | rfl | rfl <;> cases va <;> cases f <;> by_cases hp:p=0 <;> by_cases hs:s=0 <;> by_cases ht:t=0 <;> simp [hp,hs,ht]
theorem z7H (f g:Bool) (e:Element):tr1 1 f e=tr1 1 g e:=rfl
theorem z20:∀(l:List Element) (f g:Bool),trL 1 f l=trL 1 g l
 | [],_,_=>rfl
 | e::l,f,g=>by
  show tr1 1 f e::trL 1 _ l=tr1 1 g e::trL 1 _ l
  rw [z7H f g,z20 l (zNT f e) (zNT g e)]
theorem zYX (x:Int):(nz x).length≤1:=by unfold nz;split <;> simp
theorem zNV {r:List Int} {x:Int} (h:r.length+1≤4294967296):(cond (!decide (x=0)) ((app r [x]).bind fun q=>some q) (some r))=some (r++nz x):=by
 unfold nz
 by_cases hx:x=0
 simp [hx]
 simp only [hx,decide_false,Bool.not_false,cond_true,if_false]
 rw [zAP (by simpa using h)];rfl
theorem wl1 (t : A4Int × Bool) {r0 r1 r2 r3 : List Int} {n : Nat} (hn : n + 1 ≤ 4294967296) (h0 : r0.length ≤ n) (h1 : r1.length ≤ n) (h2 : r2.length ≤ n) (h3 : r3.length ≤ n) :
    zD (fun (x : Int × (List Int) × (List Int) × (List Int) × (List Int)) => kU t x.1 x.2.1 x.2.2.1 x.2.2.2.1 x.2.2.2.2) (0, r0, r1, r2, r3) = some (r0 ++ nz t.1.x0, r1 ++ nz t.1.x1, r2 ++ nz t.1.x2, r3 ++ nz t.1.x3) := by
  have i0 : kL [t.1.x0, t.1.x1, t.1.x2, t.1.x3] (0 : Int) = some t.1.x0 := rfl
  have i1 : kL [t.1.x0, t.1.x1, t.1.x2, t.1.x3] (1 : Int) = some t.1.x1 := rfl
  have i2 : kL [t.1.x0, t.1.x1, t.1.x2, t.1.x3] (2 : Int) = some t.1.x2 := rfl
  have i3 : kL [t.1.x0, t.1.x1, t.1.x2, t.1.x3] (3 : Int) = some t.1.x3 := rfl
  rw [zR (x' := (1, r0 ++ nz t.1.x0, r1, r2, r3)) (by
    simp only [kU, i0, zA, zNV (x := t.1.x0) (show r0.length + 1 ≤ 4294967296 by omega)]; rfl)]
  rw [zR (x' := (2, r0 ++ nz t.1.x0, r1 ++ nz t.1.x1, r2, r3)) (by
    simp only [kU, i1, zA, zNV (x := t.1.x1) (show r1.length + 1 ≤ 4294967296 by omega)]; rfl)]
  rw [zR (x' := (3, r0 ++ nz t.1.x0, r1 ++ nz t.1.x1, r2 ++ nz t.1.x2, r3)) (by
    simp only [kU, i2, zA, zNV (x := t.1.x2) (show r2.length + 1 ≤ 4294967296 by omega)]; rfl)]
  rw [zR (x' := (4, r0 ++ nz t.1.x0, r1 ++ nz t.1.x1, r2 ++ nz t.1.x2, r3 ++ nz t.1.x3)) (by
    simp only [kU, i3, zA, zNV (x := t.1.x3) (show r3.length + 1 ≤ 4294967296 by omega)]; rfl)]
  exact zM (by simp only [kU]; rfl)
theorem wl0 {l : List Element} {o : Options} (hv : 1 ≤ o.Variable ∧ o.Variable ≤ 3) (hl : l.length ≤ 4000000000) : ∀ (m k : Nat) (f : Bool) (r0 r1 r2 r3 : List Int), k + m = l.length → r0.length ≤ k → r1.length ≤ k → r2.length ≤ k → r3.length ≤ k →
    zD (fun (x : Int × Bool × (List Int) × (List Int) × (List Int) × (List Int)) => xG l o x.1 x.2.1 x.2.2.1 x.2.2.2.1 x.2.2.2.2.1 x.2.2.2.2.2) ((k : Int), f, r0, r1, r2, r3) =
      some (r0 ++ row 0 (trL o.Variable f (l.drop k)), r1 ++ row 1 (trL o.Variable f (l.drop k)), r2 ++ row 2 (trL o.Variable f (l.drop k)), r3 ++ row 3 (trL o.Variable f (l.drop k)))
  | 0, k, f, r0, r1, r2, r3, h, _, _, _, _ => by
    rw [List.drop_of_length_le (by omega)]
    refine zM ?_
    simp only [xG, jS (show l.length ≤ k by omega), cond_false, trL, row, List.flatMap_nil, List.append_nil]
  | m + 1, k, f, r0, r1, r2, r3, h, h0, h1, h2, h3 => by
    have hk : k < l.length := by omega
    have q : ∀ {r : List Int} (x : Int), r.length ≤ k → (r ++ nz x).length ≤ k + 1 := fun x hr => by rw [List.length_append]; have := zYX x; omega
    rw [zR (x' := (((k + 1 : Nat) : Int), (if o.Variable = 1 then f else zNT f l[k]), r0 ++ nz (tr1 o.Variable f l[k]).x0, r1 ++ nz (tr1 o.Variable f l[k]).x1, r2 ++ nz (tr1 o.Variable f l[k]).x2, r3 ++ nz (tr1 o.Variable f l[k]).x3)) (by
      simp only [xG, jI hk, cond_true, z9 hk, zA, zYW hv, wl1 _ (n := k) (by omega) h0 h1 h2 h3, zU (k := k) (by omega)])]
    rw [wl0 hv hl m (k + 1) _ _ _ _ _ (by omega) (q _ h0) (q _ h1) (q _ h2) (q _ h3), List.drop_eq_getElem_cons hk]
    have e : trL o.Variable (if o.Variable = 1 then f else zNT f l[k]) (l.drop (k + 1)) = trL o.Variable (zNT f l[k]) (l.drop (k + 1)) := by
      by_cases h1 : o.Variable = 1
      · rw [h1]; exact z20 _ _ _
      · rw [if_neg h1]
    rw [e]
    simp [trL, row, col]
theorem zYY : ∀ (n : Nat) (a m b : List Int), m.length = n → a.length = b.length → a.length + m.length + b.length ≤ 9000000000000000000 →
    zD (fun (x : Int × Int × (List Int)) => kT x.1 x.2.1 x.2.2) ((a.length : Int), ((a.length + m.length : Nat) : Int) - 1, a ++ m ++ b) = some (a ++ m.reverse ++ b) := by
  intro n
  induction n using Nat.strongRecOn with
  | ind n ih =>
    intro a m b hn hab hb
    by_cases h2 : m.length ≤ 1
    · have e : decide ((a.length : Int) < ((a.length + m.length : Nat) : Int) - 1) = false := by simp; omega
      refine zM ?_
      have hr : m.reverse = m := by
        match m, h2 with
        | [], _ => rfl
        | [x], _ => rfl
      simp only [kT, e, cond_false, hr]
    · obtain ⟨x, m1, rfl⟩ := List.exists_cons_of_ne_nil (l := m) (fun e => by rw [e] at h2; simp at h2)
      have hm1 : m1 ≠ [] := fun e => by rw [e] at h2; simp at h2
      obtain ⟨m2, y, rfl⟩ : ∃ m2 y, m1 = m2 ++ [y] := ⟨m1.dropLast, m1.getLast hm1, (List.dropLast_concat_getLast hm1).symm⟩
      simp only [List.length_cons, List.length_append, List.length_nil] at hn hb h2
      have e : decide ((a.length : Int) < ((a.length + (x :: (m2 ++ [y])).length : Nat) : Int) - 1) = true := by simp; omega
      have ej : ((a.length + (x :: (m2 ++ [y])).length : Nat) : Int) - 1 = ((a.length + 1 + m2.length : Nat) : Int) := by simp; omega
      have g1 : kL (a ++ (x :: (m2 ++ [y])) ++ b) (((a.length + 1 + m2.length : Nat) : Int)) = some y := by
        rw [z9 (by simp; omega)]; congr 1
        rw [List.getElem_append_left (by simp; omega), List.getElem_append_right (by omega)]
        simp only [show a.length + 1 + m2.length - a.length = m2.length + 1 by omega, List.getElem_cons_succ]
        rw [List.getElem_append_right (by omega)]; simp
      have g2 : kL (a ++ (x :: (m2 ++ [y])) ++ b) ((a.length : Nat) : Int) = some x := by
        rw [z9 (by simp)]; congr 1
        rw [List.getElem_append_left (by simp), List.getElem_append_right (by omega)]; simp
      have s1 : uP (a ++ (x :: (m2 ++ [y])) ++ b) ((a.length : Nat) : Int) y = some (a ++ (y :: (m2 ++ [y])) ++ b) := by
        rw [zKL (by simp)]; congr 1; simp
      have g3 : kL (a ++ (y :: (m2 ++ [y])) ++ b) (((a.length + 1 + m2.length : Nat) : Int)) = some y := by
        rw [z9 (by simp; omega)]; congr 1
        rw [List.getElem_append_left (by simp; omega), List.getElem_append_right (by omega)]
        simp only [show a.length + 1 + m2.length - a.length = m2.length + 1 by omega, List.getElem_cons_succ]
        rw [List.getElem_append_right (by omega)]; simp
      have s2 : uP (a ++ (y :: (m2 ++ [y])) ++ b) (((a.length + 1 + m2.length : Nat) : Int)) x = some ((a ++ [y]) ++ m2 ++ (x :: b)) := by
        rw [zKL (by simp; omega)]; congr 1
        have e1 : a ++ (y :: (m2 ++ [y])) ++ b = (a ++ y :: m2) ++ y :: b := by simp
        rw [e1, show a.length + 1 + m2.length = (a ++ y :: m2).length by simp; omega, List.set_append_right _ _ (Nat.le_refl _)]
        simp
      rw [zR (x' := (((a ++ [y]).length : Int), (((a ++ [y]).length + m2.length : Nat) : Int) - 1, (a ++ [y]) ++ m2 ++ (x :: b))) (by
        simp only [kT, e, cond_true]
        rw [ej]
        simp only [g1, g2, s1, g3, s2, zA]
        rw [zU (k := a.length) (by omega), uO (by omega) (by omega)]
        simp only [List.length_append, List.length_cons, List.length_nil])]
      rw [ih m2.length (by omega) (a ++ [y]) m2 (x :: b) rfl (by simp; omega) (by simp; omega)]
      simp
theorem z48 {l:List Int} (h:l.length≤4294967296):jF l=some l.reverse:=by
 unfold jF
 have:=zYY l.length [] l [] rfl rfl (by simp;omega)
 simp only [List.nil_append,List.append_nil,List.length_nil,Nat.zero_add] at this
 rw [uO (by omega) (by omega)]
 rw [show ((0:Nat):Int)=0 from rfl] at this
 rw [this];rfl
def zYZ (b:Bool) (l:List Int):List Int:=if b=true then l.reverse else l
def rows (b:Bool) (L:List A4Int):List (List Int):=[row 0 L,zYZ b (row 1 L),row 2 L,row 3 L]
def wts (l:List Element) (o:Options):List (List Int):=(rows o.Backward (trL o.Variable false l)).take o.Strength.toNat
theorem zNW (k:Nat):∀(L:List A4Int),(row k L).length≤L.length
 | []=>by simp [row]
 | w::L=>by
  have:=zNW k L
  have h2:=zYX (col k w)
  simp only [row,List.flatMap_cons,List.length_append,List.length_cons] at this ⊢
  omega
theorem zEH {l:List Element} (hl:l.length≤4000000000) (o:Options):jZ l o=some (wts l (zBU o)):=by
 have hb:=z47 (zYT o)
 unfold jZ wts
 have e0:({Strength:=o.Strength,Variable:=o.Variable,Backward:=o.Backward,Identical:=o.Identical}:Options)=o:=rfl
 rw [e0,zTI,zA]
 generalize zBU o=q at*
 have hw:=wl0 (l:=l) (o:=q) hb.2.2 hl l.length 0 false [] [] [] [] (by omega) (by simp) (by simp) (by simp) (by simp)
 simp only [List.drop_zero,List.nil_append] at hw
 rw [show ((0:Nat):Int)=0 from rfl] at hw
 unfold uL
 rw [zA,hw,zA]
 have hr:(cond q.Backward ((jF (row 1 (trL q.Variable false l))).bind fun t45=>some t45) (some (row 1 (trL q.Variable false l))))=some (zYZ q.Backward (row 1 (trL q.Variable false l))):=by
  cases q.Backward with
  | false=>rfl
  | true=>
   have:=zNW 1 (trL q.Variable false l)
   rw [zNU] at this
   rw [cond_true,z48 (by omega)];rfl
 simp only [hr,zA]
 have hs:q.Strength=((q.Strength.toNat:Nat):Int):=by omega
 have hsl:slc [row 0 (trL q.Variable false l),zYZ q.Backward (row 1 (trL q.Variable false l)),row 2 (trL q.Variable false l),row 3 (trL q.Variable false l)] 0 q.Strength=some ((rows q.Backward (trL q.Variable false l)).take q.Strength.toNat):=by
  rw [hs,zDR (by simp;omega)];rfl
 rw [hsl,zA,zAP (by simp [rows];omega)]
 rfl
end Go.M
namespace Go.M
open Go.AV
theorem z49 {a b : List (List Int)} (ha : a.length ≤ 1000000) (hx : ∀ x ∈ a, x.length ≤ 4611686018427387904) : zCM a b = some (decide (a = b)) := by
  unfold zCM
  by_cases hl : a.length = b.length
  case neg =>
    have e : decide ((a.length : Int) = (b.length : Int)) = false := by simp; omega
    rw [e]
    have : a ≠ b := fun e => hl (by rw [e])
    simp [this]
  have e : decide ((a.length : Int) = (b.length : Int)) = true := by simp; omega
  rw [e, Bool.not_true, cond_false]
  have key : ∀ (m k : Nat), k + m = a.length → zD (fun (x : Int) => vG a b x) (k : Int) = some (if a.drop k = b.drop k then .inl () else .inr false) := by
    intro m
    induction m with
    | zero =>
      intro k hk
      rw [List.drop_of_length_le (by omega), List.drop_of_length_le (by omega), if_pos rfl]
      refine zM ?_
      simp only [vG, jS (show a.length ≤ k by omega), cond_false]
    | succ m ih =>
      intro k hk
      have h1 : k < a.length := by omega
      have h2 : k < b.length := by omega
      rw [List.drop_eq_getElem_cons h1, List.drop_eq_getElem_cons h2]
      by_cases he : a[k] = b[k]
      · rw [zR (x' := ((k + 1 : Nat) : Int)) (by
          simp only [vG, jI h1, cond_true, z9 h1, z9 h2, zA, show vY a[k] b[k] = some true by rw [zKO (hx _ (List.getElem_mem h1)), he]; simp, Bool.not_true, cond_false, zU (k := k) (by omega)]), ih (k + 1) (by omega)]
        have hiff : (a[k] :: a.drop (k + 1) = b[k] :: b.drop (k + 1)) ↔ (a.drop (k + 1) = b.drop (k + 1)) := ⟨fun h => (List.cons.inj h).2, fun h => by rw [he, h]⟩
        simp only [hiff]
      · rw [if_neg (fun h => he (List.cons.inj h).1)]
        refine zM ?_
        simp only [vG, jI h1, cond_true, z9 h1, z9 h2, zA, zKO (hx _ (List.getElem_mem h1)), he, decide_false, Bool.not_false]
  have := key a.length 0 (by omega)
  rw [show ((0 : Nat) : Int) = 0 from rfl, List.drop_zero, List.drop_zero] at this
  rw [this, zA]
  by_cases hab : a = b
  · simp [hab]
  · simp [hab]
theorem zRY {l:List Element} {o:Options} {x:List Int} (h:x∈wts l o):x.length≤l.length:=by
 unfold wts at h
 have h:=List.mem_of_mem_take h
 have key:∀k,(row k (trL o.Variable false l)).length≤l.length:=fun k=>by have:=zNW k (trL o.Variable false l);rwa [zNU] at this
 simp only [rows,List.mem_cons,List.not_mem_nil,or_false] at h
 rcases h with rfl | rfl | rfl | rfl
 exact key 0
 unfold zYZ;split
 rw [List.length_reverse];exact key 1
 exact key 1
 exact key 2
 exact key 3
theorem zTJ {l:List Element} {o:Options} (h:ckO o=0):(wts l o).length=o.Strength.toNat:=by
 have:=z47 h
 unfold wts
 simp [rows];omega
end Go.M
namespace Go.M
open Go.AV
def jn:Nat→List Int→List (List Int)→List Int
 | _,acc,[]=>acc
 | k,acc,x::xs=>jn (k+1) ((if 0 < k then acc++ [0] else acc)++x) xs
theorem zY0 {N:Nat}:∀(l:List (List Int)) (k:Nat) (acc:List Int),(∀x∈l,x.length≤N)→(jn k acc l).length≤acc.length+l.length*(N+1)
 | [],_,acc,_=>by simp [jn]
 | x::xs,k,acc,h=>by
  have h1:=h x (by simp)
  have h2:=zY0 xs (k+1) ((if 0 < k then acc++ [0] else acc)++x) (fun y hy=>h y (by simp [hy]))
  have h3:((if 0 < k then acc++ [0] else acc)++x).length≤acc.length+1+N:=by
   split <;> simp <;> omega
  simp only [jn,List.length_cons,Nat.add_mul]
  omega
theorem z9A {acc:List Int} {k:Nat} (h:acc.length+1≤4294967296):(cond (decide ((0:Int) < (k:Int))) ((app acc [0]).bind fun q=>some q) (some acc))=some (if 0 < k then acc++ [0] else acc):=by
 by_cases hk:0 < k
 have e:decide ((0:Int) < (k:Int))=true:=by simp;omega
 rw [e,cond_true,zAP (by simpa using h),if_pos hk];rfl
 have e:decide ((0:Int) < (k:Int))=false:=by simp;omega
 rw [e,cond_false,if_neg hk]
section
variable {l:List (List Int)} {N:Nat} (hN:∀x∈l,x.length≤N) (hl:l.length≤1000000)
include hN hl
theorem z7I:∀(m k:Nat) (acc:List Int),k+m=l.length→acc.length+m*(N+1)≤4294967296→zD (fun (x:Int×(List Int))=>vT l x.1 x.2) ((k:Int),acc)=some (jn k acc (l.drop k))
 | 0,k,acc,h,_=>by
  rw [List.drop_of_length_le (by omega)]
  refine zM ?_
  simp only [vT,jS (show l.length≤k by omega),cond_false,jn]
 | m+1,k,acc,h,ha=>by
  have hk:k < l.length:=by omega
  have hx:=hN _ (List.getElem_mem hk)
  rw [Nat.add_mul] at ha
  have h3:(if 0 < k then acc++ [0] else acc).length≤acc.length+1:=by split <;> simp
  rw [zR (x':=(((k+1:Nat):Int),(if 0 < k then acc++ [0] else acc)++l[k])) (by
   simp only [vT,jI hk,cond_true,z9 hk,zA,z9A (k:=k) (show acc.length+1≤4294967296 by omega),zAP (show (if 0 < k then acc++ [0] else acc).length+l[k].length≤4294967296 by omega),zU (k:=k) (by omega)])]
  rw [z7I m (k+1) _ (by omega) (by rw [List.length_append];omega),List.drop_eq_getElem_cons hk]
  rfl
end
def idn (t:List Int):List Int:=t.flatMap fun c=>if 0≤c∧c≤1114111 then [c+1] else []
theorem z5A (c : Int) {acc : List Int} (h : acc.length + 1 ≤ 4294967296) : (cond (decide (0 ≤ c) && decide (c ≤ 1114111)) ((app acc [wi (c + 1)]).bind fun q => some q) (some acc)) = some (acc ++ if 0 ≤ c ∧ c ≤ 1114111 then [c + 1] else []) := by
  by_cases hc : 0 ≤ c ∧ c ≤ 1114111
  · have e : (decide (0 ≤ c) && decide (c ≤ 1114111)) = true := by simpa using hc
    rw [e, cond_true, zAP (by simpa using h), if_pos hc, uO (by omega) (by omega)]; rfl
  · have e : (decide (0 ≤ c) && decide (c ≤ 1114111)) = false := by
      cases h : (decide (0 ≤ c) && decide (c ≤ 1114111)) with
      | false => rfl
      | true => exact absurd (by simpa using h) hc
    rw [e, cond_false, if_neg hc, List.append_nil]
theorem z1R (c:Int):(if 0≤c∧c≤1114111 then [c+1] else ([]:List Int)).length≤1:=by split <;> simp
theorem z7J {t:List Int} (hl:t.length≤1000000):∀(m k:Nat) (acc:List Int),k+m=t.length→acc.length+m≤4294967296→zD (fun (x:Int×(List Int))=>vU t x.1 x.2) ((k:Int),acc)=some (acc++idn (t.drop k))
 | 0,k,acc,h,_=>by
  rw [List.drop_of_length_le (by omega)]
  refine zM ?_
  simp only [vU,jS (show t.length≤k by omega),cond_false,idn,List.flatMap_nil,List.append_nil]
 | m+1,k,acc,h,ha=>by
  have hk:k < t.length:=by omega
  have h1:=z1R t[k]
  rw [zR (x':=(((k+1:Nat):Int),acc++if 0≤t[k]∧t[k]≤1114111 then [t[k]+1] else [])) (by
   simp only [vU,jI hk,cond_true,z9 hk,zA,z5,z5A t[k] (show acc.length+1≤4294967296 by omega),zU (k:=k) (by omega)])]
  rw [z7J hl m (k+1) _ (by omega) (by rw [List.length_append];omega),List.drop_eq_getElem_cons hk]
  simp only [idn,List.flatMap_cons,List.append_assoc]
def z5B (o:Options) (el:List Element) (t:List Int):List Int:=jn 0 [] (wts el o)++if o.Identical=true then [0]++idn t else []
theorem z1S (l:List Element) (o:Options):(wts l o).length≤4:=by unfold wts;simp [rows];omega
theorem z1T (o:Options):zBU (zBU o)=zBU o:=zYU (zYT o)
section
variable {n:Norm} {c:Collation} (hn:NSm n) (hok:zDC n) (hs:Sm c) (hg:∀g∈c.Groups,g.Name.length≤MX) {text:List Int} (ht:text.length≤2000) (hf:(zGC n false text).length≤2000)
include hn hok hs hg ht hf
theorem z5C (o:Options):zAV n c o text=some (z5B (zBU o) (wk c (zAY n) (zGQ n false text)).1 (zGQ n false text)):=by
 unfold zAV z5B
 have hd:(zGQ n false text).length≤2000:=by rw [zQK];exact hf
 have hel:=z46 (n:=n) hs (text:=text) hd
 rw [show ({Strength:=o.Strength,Variable:=o.Variable,Backward:=o.Backward,Identical:=o.Identical}:Options)=o from rfl,zTI,zA,zQM hn hok hs hg ht hf,zA,show ({Strength:=(zBU o).Strength,Variable:=(zBU o).Variable,Backward:=(zBU o).Backward,Identical:=(zBU o).Identical}:Options)=zBU o from rfl,zEH (by omega),z1T,zA]
 generalize (wk c (zAY n) (zGQ n false text)).1=el at*
 have h4:=z1S el (zBU o)
 have hN:∀x∈wts el (zBU o),x.length≤1000000000:=fun x hx=>Nat.le_trans (zRY hx) hel
 have hk0:=z7I hN (by omega) (wts el (zBU o)).length 0 [] (by omega) (by simp;omega)
 rw [show ((0:Nat):Int)=0 from rfl,List.drop_zero] at hk0
 have hjl:=zY0 (wts el (zBU o)) 0 [] hN
 simp only [List.length_nil] at hjl
 rw [hk0,zA]
 cases hi:(zBU o).Identical with
 | false=>simp
 | true=>
  have h5:(jn 0 [] (wts el (zBU o))).length≤4000000004:=by omega
  rw [Bool.not_true,cond_false,zAP (by simp;omega),zA,zQL hn hok ht hf,zA]
  have hk1:=z7J (t:=zGQ n false text) (by omega) (zGQ n false text).length 0 (jn 0 [] (wts el (zBU o))++ [0]) (by omega) (by simp;omega)
  rw [show ((0:Nat):Int)=0 from rfl,List.drop_zero] at hk1
  rw [hk1,zA,if_pos rfl,List.append_assoc]
end
def nZ:Norm:={Classes:=[],Decomp:=[],Excluded:={Ranges:=[]}}
def cZ:Collation:={Entries:=[{Codes:=[97],Elements:=[{Primary:=16,Secondary:=32,Tertiary:=2,Variable:=false}]},{Codes:=[98],Elements:=[{Primary:=17,Secondary:=32,Tertiary:=2,Variable:=false}]}],Groups:=[],Base:=100,Second:=32,Third:=2}
theorem z9B:NSm nZ:=⟨by decide,by decide,fun m hm=>(by cases hm),fun m hm=>(by cases hm),by decide⟩
theorem z7K:zDC nZ:=by unfold zDC okSpan z14 nZ;simp
theorem z9C:Sm cZ:=⟨by decide,by decide,by decide,by decide⟩
theorem zY1:usN nZ=nZ:=by unfold usN;split <;> rfl
theorem z7L:zAY nZ= []:=by rw [zYR,zY1];rfl
theorem zTK:zGC nZ false [97,98]= [97,98]:=by unfold zGC;rw [zY1];decide
theorem z5D:zGQ nZ false [97,98]= [97,98]:=by unfold zGQ;rw [zTK,zY1];decide
theorem z7M:(wk cZ [] [97,98]).1= [{Primary:=16,Secondary:=32,Tertiary:=2,Variable:=false},{Primary:=17,Secondary:=32,Tertiary:=2,Variable:=false}]:=by decide
end Go.M
namespace Go.M
open Go.AV
theorem z5E:zAL [258]=some [0,0,1,2]:=by
 unfold zAL
 have h0:zD (fun (x:Int×(List Int))=>u6 [258] x.1 x.2) (0,[])=some [0,0,1,2]:=by
  rw [zR (x':=(1,[0,0,1,2])) (by rfl)]
  exact zM (by rfl)
 rw [h0];decide
theorem z1U:zAW=some true:=by
 unfold zAW
 have hw:=zEH (l:=[({Primary:=16,Secondary:=32,Tertiary:=2,Variable:=false}:Element),({Primary:=17,Secondary:=32,Tertiary:=2,Variable:=false}:Element)]) (by simp) ({Strength:=2,Variable:=1,Backward:=false,Identical:=false}:Options)
 rw [hw,zA]
 have hk:=z5C z9B z7K z9C (fun g hg=>by cases hg) (text:=[97,98]) (by simp) (by rw [zTK];simp) ({Strength:=2,Variable:=1,Backward:=false,Identical:=false}:Options)
 rw [z7L,z5D,z7M] at hk
 have hv:z5B (zBU ({Strength:=2,Variable:=1,Backward:=false,Identical:=false}:Options)) [{Primary:=16,Secondary:=32,Tertiary:=2,Variable:=false},{Primary:=17,Secondary:=32,Tertiary:=2,Variable:=false}] [97,98]= [16,17,0,32,32]:=by decide
 rw [hv] at hk
 have s1:slc [({Primary:=16,Secondary:=32,Tertiary:=2,Variable:=false}:Element),({Primary:=17,Secondary:=32,Tertiary:=2,Variable:=false}:Element)] 0 1=some [{Primary:=16,Secondary:=32,Tertiary:=2,Variable:=false}]:=by decide
 have s2:slc [({Primary:=16,Secondary:=32,Tertiary:=2,Variable:=false}:Element),({Primary:=17,Secondary:=32,Tertiary:=2,Variable:=false}:Element)] 1 ([({Primary:=16,Secondary:=32,Tertiary:=2,Variable:=false}:Element),({Primary:=17,Secondary:=32,Tertiary:=2,Variable:=false}:Element)].length)=some [{Primary:=17,Secondary:=32,Tertiary:=2,Variable:=false}]:=by decide
 rw [s1,zA,s2,zA]
 have hk':zAV ({Classes:=[],Decomp:=[],Excluded:=(({Ranges:=[]}):Set)}:Norm) ({Entries:=[({Codes:=[97],Elements:=[{Primary:=16,Secondary:=32,Tertiary:=2,Variable:=false}]}:Entry),({Codes:=[98],Elements:=[{Primary:=17,Secondary:=32,Tertiary:=2,Variable:=false}]}:Entry)],Groups:=[],Base:=100,Second:=32,Third:=2}:Collation) ({Strength:=2,Variable:=1,Backward:=false,Identical:=false}:Options) [97,98]=some [16,17,0,32,32]:=hk
 have c1:xI ({Strength:=0,Variable:=0,Backward:=false,Identical:=false}:Options)=some 1:=by rw [zRX];decide
 have c2:xI ({Strength:=1,Variable:=0,Backward:=false,Identical:=false}:Options)=some 8:=by rw [zRX];decide
 have w2:(wts [({Primary:=16,Secondary:=32,Tertiary:=2,Variable:=false}:Element),({Primary:=17,Secondary:=32,Tertiary:=2,Variable:=false}:Element)] (zBU ({Strength:=2,Variable:=1,Backward:=false,Identical:=false}:Options))).length=2:=by decide
 have e1:vY [16,17,0,32,32] [16,17,0,32,32]=some true:=by rw [zKO (by simp)];simp
 rw [hk',zA,z5,w2]
 simp only [e1,z5E,c1,c2,z5,zDS,zA,Bool.and_self,decide_true,BEq.rfl,show decide (((2:Nat):Int)=2)=true from rfl]
theorem zY2 {l:List Element} {o:Options} {low:Int} (h:ckO o=0) (h1:1≤low) (h2:low≤o.Strength):wts l {Strength:=low,Variable:=o.Variable,Backward:=o.Backward,Identical:=o.Identical}=(wts l o).take low.toNat:=by
 unfold wts
 rw [List.take_take,Nat.min_eq_left (by omega)]
theorem z7N {x y:Int} (h:y∈nz x):y≠0:=by
 unfold nz at h
 split at h
 cases h
 rw [List.mem_singleton] at h;subst h;assumption
theorem zKW {k:Nat} {L:List A4Int} {y:Int} (h:y∈row k L):y≠0:=by
 obtain ⟨w,_,h2⟩:=List.mem_flatMap.1 h
 exact z7N h2
theorem z5F {l:List Element} {o:Options} {x:List Int} (hx:x∈wts l o) {y:Int} (hy:y∈x):y≠0:=by
 unfold wts at hx
 have hx:=List.mem_of_mem_take hx
 simp only [rows,List.mem_cons,List.not_mem_nil,or_false] at hx
 rcases hx with rfl | rfl | rfl | rfl
 exact zKW hy
 unfold zYZ at hy
 split at hy
 exact zKW (List.mem_reverse.1 hy)
 exact zKW hy
 exact zKW hy
 exact zKW hy
theorem z7O {L:List (List Int)} {j:Nat} (hj:j < L.length) (hx:L[j].length≤1000000) (hn:∀y∈L[j],y≠0):∀(m k:Nat),k+m=L[j].length→zD (fun (x:Int)=>jG L (j:Int) x) (k:Int)=some (.inl ())
 | 0,k,h=>by
  refine zM ?_
  simp only [jG,z9 hj,zA,jS (show L[j].length≤k by omega),cond_false]
 | m+1,k,h=>by
  have hk:k < L[j].length:=by omega
  have h0:=hn _ (List.getElem_mem hk)
  rw [zR (x':=((k+1:Nat):Int)) (by
   simp only [jG,z9 hj,zA,jI hk,cond_true,z9 hk,h0,decide_false,cond_false,zU (k:=k) (by omega)]),z7O hj hx hn m (k+1) (by omega)]
theorem z7P {L:List (List Int)} (hl:L.length≤1000000) (hx:∀x∈L,x.length≤1000000) (hn:∀x∈L,∀y∈x,y≠0):∀(m k:Nat),k+m=L.length→zD (fun (x:Int)=>jH L x) (k:Int)=some (.inl ())
 | 0,k,h=>by
  refine zM ?_
  simp only [jH,jS (show L.length≤k by omega),cond_false]
 | m+1,k,h=>by
  have hk:k < L.length:=by omega
  have h1:=z7O hk (hx _ (List.getElem_mem hk)) (hn _ (List.getElem_mem hk)) L[k].length 0 (by omega)
  rw [show ((0:Nat):Int)=0 from rfl] at h1
  rw [zR (x':=((k+1:Nat):Int)) (by
   simp only [jH,jI hk,cond_true,h1,zA,Sum.elim_inl,zU (k:=k) (by omega)]),z7P hl hx hn m (k+1) (by omega)]
theorem law44_SortkeyLevels_true (l:List Element) (o:Options) (low:Int) {q:Prop} (_:q) {q2:Prop} (_:q2) {q3:Prop} (_:q3):vJ l o low=some true:=by
 unfold vJ
 rw [z1U]
 by_cases h:60 < l.length
 ·
  have e:decide ((60:Int) < (l.length:Int))=true:=by simp;omega
  rw [e];rfl
 have e:decide ((60:Int) < (l.length:Int))=false:=by simp;omega
 simp only [e,z5,Bool.not_false,zDS,zYS,zA,Bool.false_or]
 by_cases h0:ckO o=0
 case neg=>simp [h0]
 by_cases h1:low < 1
 · simp [h1]
 by_cases h2:o.Strength < low
 · simp [h2]
 have hb:=z47 h0
 have e1:decide (low < 1)=false:=by simpa using h1
 have e2:decide (o.Strength < low)=false:=by simpa using h2
 have hc:ckO {Strength:=low,Variable:=o.Variable,Backward:=o.Backward,Identical:=o.Identical}=0:=by
  unfold ckO;simp only [];rw [if_neg (by omega),if_neg (by omega)]
 have hA:=zEH (l:=l) (by omega) {Strength:=low,Variable:=o.Variable,Backward:=o.Backward,Identical:=o.Identical}
 have hB:=zEH (l:=l) (by omega) o
 rw [zYU hc] at hA
 rw [zYU h0] at hB
 have la:=zTJ (l:=l) hc
 have lb:=zTJ (l:=l) h0
 simp only [] at la
 have e3:decide (((wts l {Strength:=low,Variable:=o.Variable,Backward:=o.Backward,Identical:=o.Identical}).length:Int)=low)=true:=by rw [la];simp;omega
 have e4:decide (((wts l o).length:Int)=o.Strength)=true:=by rw [lb];simp;omega
 have hlow:low=((low.toNat:Nat):Int):=by omega
 have hs:slc (wts l o) 0 low=some ((wts l o).take low.toNat):=by
  conv=>lhs;rw [hlow]
  exact zDR (by rw [lb];omega)
 have hlv:=z7P (L:=wts l o) (by rw [lb];omega) (fun x hx=>by have:=zRY hx;omega) (fun x hx y hy=>z5F hx hy) (wts l o).length 0 (by omega)
 rw [show ((0:Nat):Int)=0 from rfl] at hlv
 have hsm:=z49 (a:=wts l {Strength:=low,Variable:=o.Variable,Backward:=o.Backward,Identical:=o.Identical}) (b:=(wts l o).take low.toNat) (by rw [la];omega) (fun x hx=>by have:=zRY hx;omega)
 rw [zY2 h0 (by omega) (by omega)] at hsm e3 hA
 simp only [h0,decide_true,Bool.not_true,Bool.or_false,e1,e2,cond_false,hA,hB,zA,e3,e4,Bool.not_false,zDS,hs,hsm,hlv,Sum.elim_inl]
end Go.M


/- What the plain counterparts answer. Conditions: none. -/
import Derived.Test.YtjcbhabmkcdcnaaDoorPu1
set_option linter.unusedSimpArgs false
set_option linter.unusedVariables false
set_option linter.unnecessarySimpa false
namespace Go.M
open Go.AV
open Classical in
noncomputable def zAV (n:Norm):List Span:=if VD0 n then n.Classes else []
theorem zYA:CV []:=⟨fun k h=>(by cases h),fun k h=>(by cases h),fun k h=>(by cases h)⟩
theorem zYB (n:Norm):CV (zAV n):=by
 unfold zAV
 split
 rename_i h;exact h.cv
 exact zYA
theorem zME {n:Norm} (hs:NSm n):(zAV n).length≤40:=by
 unfold zAV
 split
 exact hs.cl
 simp
def zK7 (l:List Span) (t:Int):Int:=l.foldl (fun t s=>max t s.Value) t
def zFF (c:Collation) (l:List Span):Colltable_table:={zHW c with classes:=l,top:=zK7 l 0}
theorem zYC {l:List Span} (hl:l.length≤2000):∀(d k:Nat) (t:Int),l.length - k=d→k≤l.length→zD (fun (x:Int×Int)=>kM l x.1 x.2) ((k:Int),t)=some (zK7 (l.drop k) t):=by
 intro d
 induction d with
 | zero=>
  intro k t h1 h2
  rw [List.drop_of_length_le (by omega)]
  refine zL ?_
  simp only [kM,jR (show l.length≤k by omega),cond_false]
  rfl
 | succ d ih=>
  intro k t h1 h2
  have hk:k < l.length:=by omega
  rw [List.drop_eq_getElem_cons hk]
  rw [zR (x':=(((k+1:Nat):Int),max t l[k].Value)) (by simp only [kM,jL hk,cond_true,yH hk,zA,zU (k:=k) (by omega)])]
  exact ih (k+1) _ (by omega) (by omega)
theorem z1C {c:Collation} {n:Norm} (hs:NSm n) (hok:zC9 n):xN (zHW c) n=some (zFF c (zAV n)):=by
 obtain ⟨e,he,hp⟩:=zX4 hs hok
 unfold xN
 rw [he,zA]
 have h1:(cond (decide (e=0)) (some n.Classes) (some (zHW c).classes):Option (List Span))=some (zAV n):=by
  unfold zAV
  by_cases h:e=0
  rw [if_pos (hp.1 h)];simp [h]
  rw [if_neg (fun hh=>h (hp.2 hh))];simp [h,zHW]
 rw [h1,zA]
 have h2:=zYC (l:=zAV n) (by have:=zME hs;omega) (zAV n).length 0 0 (by omega) (by omega)
 rw [List.drop_zero] at h2
 have h2':zD (fun (x:Int×Int)=>kM (zAV n) x.1 x.2) (0,(zHW c).top)=some (zK7 (zAV n) 0):=h2
 rw [h2']
 rfl
theorem zFG {c:Collation} (hs:Sm c) {l:List Span} {codes:List Int}:kP (zFF c l) codes=some (zB3 (kQ c).Entries codes):=z0T hs (codes:=codes)
theorem zFR {c:Collation} {l:List Span} (h:CV l) (hl:l.length≤2000) (x:Int):jZ (zFF c l) x=some (clE l x):=by
 obtain ⟨j,hj,hr,hlo,hhi⟩:=zNF (n:=l.length) hl (body:=fun (q:Int×Int)=>vP (fun x0=>jP x0 (zFF c l) x) q.1 q.2) (fun k=>decide (x≤(nth l k).Hi))
  (fun k _=>by simp only [vP,jR (Nat.le_refl _),cond_false])
  (fun lo hi h1 h2=>by
   have hm:(lo+hi) / 2 < l.length:=by omega
   have hi1:kJ (zFF c l).classes (((lo+hi) / 2:Nat):Int)=some (nth l ((lo+hi) / 2)):=kO hm
   simp only [vP,jL h1,cond_true,zGL (show lo+hi≤4611686018427387903 by omega),jP,hi1,zA,zU (k:=(lo+hi) / 2) (by omega)]
   by_cases hc:x≤(nth l ((lo+hi) / 2)).Hi <;> simp [hc])
  (fun i j hij hj hi=>by
   have:=h.hi hij hj
   simp only [decide_eq_true_eq] at hi ⊢
   omega)
 simp only [decide_eq_false_iff_not,decide_eq_true_eq] at hlo hhi
 unfold jZ zCZ
 have e0:(zFF c l).classes=l:=rfl
 rw [e0,hr,z2N h hj (fun k hk=>by have:=hlo k hk;omega) hhi]
 simp only [zA,z4]
 by_cases hn:j < l.length
 simp only [jL hn,zDO,kO hn,zA,Bool.true_and,hn,true_and]
 by_cases hc2:(nth l j).Lo≤x <;> simp [hc2]
 simp only [jR (show l.length≤j by omega),zG8,zA,Bool.false_and,cond_false,hn,false_and,if_false]
theorem zRK:∀(l:List Span) (t:Int),t≤zK7 l t∧∀s∈l,s.Value≤zK7 l t
 | [],t=>⟨Int.le_refl _,fun s h=>by cases h⟩
 | x::l,t=>by
  have ih:=zRK l (max t x.Value)
  refine ⟨by show t≤zK7 l (max t x.Value);omega,fun s hs=>?_⟩
  show s.Value≤zK7 l (max t x.Value)
  rcases List.mem_cons.1 hs with rfl | hs
  omega
  exact ih.2 s hs
theorem z6X {l:List Span} (x:Int):clE l x≤zK7 l 0:=by
 unfold clE
 cases hf:l.find? (zPX x) with
 | none=>exact (zRK l 0).1
 | some s=>exact (zRK l 0).2 s (List.mem_of_find?_eq_some hf)
theorem z6Y {l:List Span} (h:CV l) (x:Int):0≤clE l x:=by
 unfold clE
 cases hf:l.find? (zPX x) with
 | none=>exact Int.le_refl _
 | some s=>
  have:=List.mem_of_find?_eq_some hf
  obtain ⟨k,hk,rfl⟩:=List.getElem_of_mem this
  have:=h.sp k hk
  rw [zBW hk] at this
  unfold spOk at this
  show 0≤(l[k]).Value
  omega
def zHD (p:Nat→Bool):Nat→Nat
 | 0=>0
 | k+1=>if p (k+1) then k+1 else zHD p k
theorem zKH (p:Nat→Bool):∀k,zHD p k≤k
 | 0=>Nat.le_refl _
 | k+1=>by unfold zHD;split;omega;have:=zKH p k;omega
theorem zMF {p : Nat → Bool} {m : Nat} : ∀ {k : Nat}, m ≤ k → (∀ j, m < j → j ≤ k → p j = false) → zHD p k = zHD p m
  | 0, h, _ => by have : m = 0 := by omega
                  rw [this]
  | k + 1, h, hp => by
    by_cases e : m = k + 1
    · rw [e]
    · unfold zHD
      rw [hp (k + 1) (by omega) (Nat.le_refl _)]
      simp only [Bool.false_eq_true, if_false]
      rw [zMF (m := m) (by omega) fun j h1 h2 => hp j h1 (by omega)]
      cases m <;> rfl
def pfx (es:List Entry) (text:List Int) (k:Nat):Bool:=(zB3 es (text.take k)).2
def uY (es:List Entry) (text:List Int):Nat:=zHD (pfx es text) text.length
def zBO (fd:List Int→Bool) (cl:Int→Int):List Int→List Int→List Int→Int→List Int×List Int
 | [],p,s,_=>(p,s)
 | x::r,p,s,h=>if cl x=0 then (p,s++x::r) else if fd (p++ [x])&&decide (h < cl x) then zBO fd cl r (p++ [x]) s h else zBO fd cl r p (s++ [x]) (max h (cl x))
theorem zMG {fd:List Int→Bool} {cl:Int→Int}:∀(r p s:List Int) (h:Int),(∀x,cl x≤h)→zBO fd cl r p s h=(p,s++r)
 | [],p,s,h,_=>by simp [zBO]
 | x::r,p,s,h,hc=>by
  have hx:=hc x
  unfold zBO
  split
  rfl
  have e:decide (h < cl x)=false:=by simp;omega
  rw [e,Bool.and_false,if_neg (by simp),zMG r p (s++ [x]) (max h (cl x)) (fun y=>by have:=hc y;omega)]
  simp
theorem zKI {fd:List Int→Bool} {cl:Int→Int}:∀(r p s:List Int) (h:Int),p.length≤(zBO fd cl r p s h).1.length∧(zBO fd cl r p s h).1.length+(zBO fd cl r p s h).2.length=p.length+s.length+r.length∧((zBO fd cl r p s h).1.length=p.length→zBO fd cl r p s h=(p,s++r))
 | [],p,s,h=>by simp [zBO]
 | x::r,p,s,h=>by
  unfold zBO
  split
  refine ⟨Nat.le_refl _,by simp;omega,fun _=>rfl⟩
  split
  have ih:=zKI (fd:=fd) (cl:=cl) r (p++ [x]) s h
  simp only [List.length_append,List.length_cons,List.length_nil] at ih ⊢
  exact ⟨by omega,by omega,fun e=>by omega⟩
  have ih:=zKI (fd:=fd) (cl:=cl) r p (s++ [x]) (max h (cl x))
  simp only [List.length_append,List.length_cons,List.length_nil] at ih ⊢
  refine ⟨ih.1,by omega,fun e=>?_⟩
  rw [ih.2.2 e];simp
section
variable {c:Collation} (hs:Sm c) {l:List Span} (hcv:CV l) (hl:l.length≤2000)
include hs
theorem mL0 {text:List Int} (ht:text.length≤2000):∀k,k≤text.length→zD (fun (x:Int)=>kB text (zFF c l) x) (k:Int)=some ((zHD (pfx (kQ c).Entries text) k:Nat):Int)
 | 0,_=>by
  refine zL ?_
  have:decide ((0:Int) < ((0:Nat):Int))=false:=rfl
  simp only [kB,this,cond_false]
  rfl
 | k+1,hk=>by
  have hd:decide ((0:Int) < ((k+1:Nat):Int))=true:=by simp <;> omega
  have ih:=mL0 ht k (by omega)
  unfold zHD
  cases hp:pfx (kQ c).Entries text (k+1) with
  | true=>
   rw [if_pos rfl]
   refine zL ?_
   unfold pfx at hp
   simp only [kB,hd,cond_true,zFC hk,zA,zFG hs,hp]
  | false=>
   rw [if_neg (by simp),←ih]
   refine zR ?_
   unfold pfx at hp
   simp only [kB,hd,cond_true,zFC hk,zA,zFG hs,hp,cond_false,zC5 (k:=k) (by omega)]
omit hs in
theorem zYD {text:List Int} {k:Nat} (hk:k≤text.length) (h:zHA (kQ c).Entries 0 < (k:Int)):pfx (kQ c).Entries text k=false:=by
 have h1:=zNC (kQ c).Entries 0
 unfold pfx zB3
 have:(kQ c).Entries.find? (fun x=>decide (x.Codes=text.take k))=none:=by
  rw [List.find?_eq_none]
  intro x hx
  simp only [decide_eq_true_eq]
  intro e
  have h2:=h1.2 x hx
  rw [e] at h2
  have:(text.take k).length=k:=by simp;omega
  omega
 rw [this]
theorem z4R {text:List Int} (ht:text.length≤2000):zD (fun (x:Int)=>kB text (zFF c l) x) (min (zFF c l).longest (text.length:Int))=some ((uY (kQ c).Entries text:Nat):Int):=by
 have h1:=zNC (kQ c).Entries 0
 have e:(zFF c l).longest=zHA (kQ c).Entries 0:=rfl
 rw [e]
 obtain ⟨m,hm⟩:∃m:Nat,min (zHA (kQ c).Entries 0) (text.length:Int)=(m:Int):=⟨(min (zHA (kQ c).Entries 0) (text.length:Int)).toNat,by omega⟩
 rw [hm,mL0 hs ht m (by omega)]
 unfold uY
 rw [zMF (p:=pfx (kQ c).Entries text) (m:=m) (k:=text.length) (by omega) fun j h2 h3=>zYD h3 (by omega)]
omit hs in
theorem z4S {p s r:List Int} {x:Int}:uN (cpM (p++s++x::r) ((p.length+1:Nat):Int) ((p.length+s.length+1:Nat):Int) (p.length:Int) ((p.length+s.length:Nat):Int)) (p.length:Int) x=some ((p++ [x])++s++r):=by
 have e1:((p++s++x::r).drop p.length).take (p.length+s.length - p.length)=s:=by
  rw [List.append_assoc,List.drop_left]
  have:p.length+s.length - p.length=s.length:=by omega
  rw [this,List.take_left]
 have e2:min (p.length+s.length - p.length) (p.length+s.length+1 - (p.length+1))=s.length:=by omega
 unfold cpM
 simp only [Int.toNat_natCast]
 rw [e1,e2,List.take_of_length_le (Nat.le_refl _)]
 cases s with
 | nil=>
  have hx:(p++ []++x::r)=p++x::r:=by simp
  rw [hx]
  have e3:(p++x::r).take (p.length+1)=p++ [x]:=by
   rw [List.take_append,List.take_of_length_le (by omega)]
   simp
  have e4:(p++x::r).drop (p.length+1+([]:List Int).length)=r:=by
   rw [List.drop_append,List.drop_of_length_le (by simp)]
   simp
  rw [e3,e4]
  have:p++ [x]++ []++r=p++x::r:=by simp
  rw [this,vV rfl]
 | cons y s=>
  have hx:(p++(y::s)++x::r)=p++y::(s++x::r):=by simp
  rw [hx]
  have e3:(p++y::(s++x::r)).take (p.length+1)=p++ [y]:=by
   rw [List.take_append,List.take_of_length_le (by omega)]
   simp
  have e4:(p++y::(s++x::r)).drop (p.length+1+(y::s).length)=r:=by
   have:p++y::(s++x::r)=(p++y::(s++ [x]))++r:=by simp
   rw [this,List.drop_left' (by simp;omega)]
  rw [e3,e4]
  have:p++ [y]++(y::s)++r=p++y::((y::s)++r):=by simp
  rw [this,vV rfl]
  simp
include hcv hl
theorem mL1 : ∀ (r p s : List Int) (h : Int), p.length + s.length + r.length ≤ 2000 →
    zD (fun (x : Int × Int × Int × (List Int)) => yD (zFF c l) x.1 x.2.1 x.2.2.1 x.2.2.2) ((p.length : Int), h, ((p.length + s.length : Nat) : Int), p ++ s ++ r) =
      some ((((zBO (fun q => (zB3 (kQ c).Entries q).2) (clE l) r p s h).1.length : Nat) : Int), (zBO (fun q => (zB3 (kQ c).Entries q).2) (clE l) r p s h).1 ++ (zBO (fun q => (zB3 (kQ c).Entries q).2) (clE l) r p s h).2)
  | [], p, s, h, _ => by
    refine zL ?_
    have : decide (((p.length + s.length : Nat) : Int) < ((p ++ s ++ []).length : Int)) = false := by simp
    simp only [yD, z4, this, Bool.false_and, cond_false]
    simp [zBO]
  | x :: r, p, s, h, hn => by
    simp only [List.length_cons] at hn
    have hd : decide (((p.length + s.length : Nat) : Int) < ((p ++ s ++ x :: r).length : Int)) = true := by simp <;> omega
    have hi : kJ (p ++ s ++ x :: r) ((p.length + s.length : Nat) : Int) = some x := xZ (by simp)
    have etop : (zFF c l).top = zK7 l 0 := rfl
    by_cases htop : h < zK7 l 0
    · have hd2 : decide (h < (zFF c l).top) = true := by rw [etop]; simpa using htop
      by_cases h0 : clE l x = 0
      · refine zL ?_
        simp only [yD, z4, hd, hd2, Bool.and_self, cond_true, hi, zA, zFR hcv hl, h0, decide_true, Sum.elim_inl]
        unfold zBO
        rw [if_pos h0]
        simp
      · unfold zBO
        rw [if_neg h0]
        by_cases hk : clE l x ≤ h
        · have e : decide (h < clE l x) = false := by simp; omega
          rw [e, Bool.and_false, if_neg (by simp)]
          rw [zR (x' := ((p.length : Int), h, ((p.length + (s ++ [x]).length : Nat) : Int), p ++ (s ++ [x]) ++ r)) (by
            have e2 : p ++ (s ++ [x]) ++ r = p ++ s ++ x :: r := by simp
            have e3 : p.length + (s ++ [x]).length = p.length + s.length + 1 := by simp; omega
            rw [e2, e3]
            simp only [yD, z4, hd, hd2, Bool.and_self, cond_true, hi, zA, zFR hcv hl, h0, hk, decide_true, decide_false, cond_false, Sum.elim_inr, zU (k := p.length + s.length) (by omega)])]
          have := mL1 r p (s ++ [x]) h (by simp; omega)
          rw [show max h (clE l x) = h by omega]
          exact this
        · have e : decide (h < clE l x) = true := by simp; omega
          rw [e, Bool.and_true]
          have s1 : slc (p ++ s ++ x :: r) 0 (p.length : Int) = some p := by
            rw [zFC (by simp)]
            simp
          have a1 : app p [x] = some (p ++ [x]) := uX (by simp; omega)
          cases hf : (zB3 (kQ c).Entries (p ++ [x])).2 with
          | false =>
            rw [if_neg (by simp)]
            rw [zR (x' := ((p.length : Int), clE l x, ((p.length + (s ++ [x]).length : Nat) : Int), p ++ (s ++ [x]) ++ r)) (by
              have e2 : p ++ (s ++ [x]) ++ r = p ++ s ++ x :: r := by simp
              have e3 : p.length + (s ++ [x]).length = p.length + s.length + 1 := by simp; omega
              rw [e2, e3]
              simp only [yD, z4, hd, hd2, Bool.and_self, cond_true, hi, zA, zFR hcv hl, h0, hk, decide_false, cond_false, s1, a1, zFG hs, hf, Bool.not_false, Sum.elim_inr, zU (k := p.length + s.length) (by omega)])]
            have := mL1 r p (s ++ [x]) (clE l x) (by simp; omega)
            rw [show max h (clE l x) = clE l x by omega]
            exact this
          | true =>
            rw [if_pos rfl]
            have sc1 : ∃ q, slc (p ++ s ++ x :: r) ((p.length + 1 : Nat) : Int) ((p.length + s.length + 1 : Nat) : Int) = some q := ⟨_, zM9 (by omega) (by simp; omega)⟩
            have sc2 : ∃ q, slc (p ++ s ++ x :: r) (p.length : Int) ((p.length + s.length : Nat) : Int) = some q := ⟨_, zM9 (by omega) (by simp)⟩
            obtain ⟨q1, hq1⟩ := sc1
            obtain ⟨q2, hq2⟩ := sc2
            have hcp := z4S (p := p) (s := s) (r := r) (x := x)
            obtain ⟨_, _, hlt⟩ := zFL hcp
            have hix : ∃ q, kJ (cpM (p ++ s ++ x :: r) ((p.length + 1 : Nat) : Int) ((p.length + s.length + 1 : Nat) : Int) (p.length : Int) ((p.length + s.length : Nat) : Int)) (p.length : Int) = some q := ⟨_, yH (by simpa using hlt)⟩
            obtain ⟨q3, hq3⟩ := hix
            rw [zR (x' := (((p ++ [x]).length : Int), h, (((p ++ [x]).length + s.length : Nat) : Int), (p ++ [x]) ++ s ++ r)) (by
              have e3 : (p ++ [x]).length + s.length = p.length + s.length + 1 := by simp; omega
              have e4 : (p ++ [x]).length = p.length + 1 := by simp
              rw [e3, e4]
              simp only [yD, z4, hd, hd2, Bool.and_self, cond_true, hi, zA, zFR hcv hl, h0, hk, decide_false, cond_false, s1, a1, zFG hs, hf, Bool.not_true, zU (k := p.length + s.length) (by omega), zU (k := p.length) (by omega), hq1, hq2, hq3, hcp, Sum.elim_inr])]
            exact mL1 r (p ++ [x]) s h (by simp; omega)
    · have hd2 : decide (h < (zFF c l).top) = false := by rw [etop]; simpa using htop
      have hm := zMG (fd := fun q => (zB3 (kQ c).Entries q).2) (cl := clE l) (x :: r) p s h (fun y => by have := z6X (l := l) y; omega)
      rw [hm]
      refine zL ?_
      simp only [yD, z4, hd, hd2, Bool.and_false, cond_false, List.append_assoc]
noncomputable def stE (c:Collation) (l:List Span) (text:List Int):Int×List Int×List Element:=if uY (kQ c).Entries text=0 then (1,text.drop 1,zRF (kQ c) (nth text 0)) else
 ((((zBO (fun q=>(zB3 (kQ c).Entries q).2) (clE l) (text.drop (uY (kQ c).Entries text)) (text.take (uY (kQ c).Entries text)) [] 0).1.length:Nat):Int),(zBO (fun q=>(zB3 (kQ c).Entries q).2) (clE l) (text.drop (uY (kQ c).Entries text)) (text.take (uY (kQ c).Entries text)) [] 0).2,(zB3 (kQ c).Entries (zBO (fun q=>(zB3 (kQ c).Entries q).2) (clE l) (text.drop (uY (kQ c).Entries text)) (text.take (uY (kQ c).Entries text)) [] 0).1).1)
theorem zYE {text:List Int} (ht:text.length≤2000) (h0:text≠[]):∃seq,j6 (zFF c l) text=some ((stE c l text).1,(stE c l text).2.2,decide (uY (kQ c).Entries text≠0),seq)∧slc seq (stE c l text).1 (seq.length:Int)=some (stE c l text).2.1:=by
 unfold j6
 rw [z4R hs ht,zA]
 have hpos:0 < text.length:=List.length_pos_iff.2 h0
 by_cases hz:uY (kQ c).Entries text=0
 have e1:decide (((uY (kQ c).Entries text:Nat):Int)=0)=true:=by simp [hz]
 have i0:kJ text (0:Int)=some (nth text 0):=kO (k:=0) hpos
 have hst:stE c l text=(1,text.drop 1,zRF (kQ c) (nth text 0)):=by unfold stE;rw [if_pos hz]
 have him:k4 (zFF c l) (nth text 0)=some (zRF (kQ c) (nth text 0)):=zPP c (nth text 0)
 rw [e1,cond_true,i0,zA,him,zA,hst]
 refine ⟨text,?_,?_⟩
 simp [hz]
 exact zPJ (l:=text) (a:=1) (by omega)
 have e1:decide (((uY (kQ c).Entries text:Nat):Int)=0)=false:=by simp;omega
 rw [e1,cond_false]
 have hle:uY (kQ c).Entries text≤text.length:=zKH _ _
 have h1:=mL1 hs hcv hl (text.drop (uY (kQ c).Entries text)) (text.take (uY (kQ c).Entries text)) [] 0 (by simp;omega)
 have e2:(text.take (uY (kQ c).Entries text)).length=uY (kQ c).Entries text:=by simp;omega
 have e3:text.take (uY (kQ c).Entries text)++ []++text.drop (uY (kQ c).Entries text)=text:=by simp
 rw [e3,e2] at h1
 simp only [List.length_nil,Nat.add_zero] at h1
 rw [h1,zA]
 have hst:stE c l text=((((zBO (fun q=>(zB3 (kQ c).Entries q).2) (clE l) (text.drop (uY (kQ c).Entries text)) (text.take (uY (kQ c).Entries text)) [] 0).1.length:Nat):Int),(zBO (fun q=>(zB3 (kQ c).Entries q).2) (clE l) (text.drop (uY (kQ c).Entries text)) (text.take (uY (kQ c).Entries text)) [] 0).2,(zB3 (kQ c).Entries (zBO (fun q=>(zB3 (kQ c).Entries q).2) (clE l) (text.drop (uY (kQ c).Entries text)) (text.take (uY (kQ c).Entries text)) [] 0).1).1):=by unfold stE;rw [if_neg hz]
 rw [hst]
 generalize zBO (fun q=>(zB3 (kQ c).Entries q).2) (clE l) (text.drop (uY (kQ c).Entries text)) (text.take (uY (kQ c).Entries text)) [] 0=q
 have s1:slc (q.1++q.2) 0 ((q.1.length:Nat):Int)=some q.1:=by rw [zFC (by simp)];simp
 simp only [s1,zA,zFG hs]
 refine ⟨q.1++q.2,?_,?_⟩
 simp [hz]
 rw [zPJ (by simp)];simp
end
end Go.M
namespace Go.M
open Go.AV
def n0:Norm:={Classes:=[{Lo:=769,Hi:=769,Value:=230},{Lo:=803,Hi:=803,Value:=220}],Decomp:=[],Excluded:={Ranges:=[]}}
def c0:Collation:={Entries:=[{Codes:=[97],Elements:=[{Primary:=7,Secondary:=1,Tertiary:=1,Variable:=false}]},{Codes:=[97,769],Elements:=[{Primary:=8,Secondary:=1,Tertiary:=1,Variable:=false}]}],Groups:=[],Base:=100,Second:=1,Third:=1}
end Go.M
namespace Go.M
open Go.AV
theorem zYF {n:Norm} (h:DS n.Decomp) (hl:n.Decomp.length≤2000) (c:Int) (b:Bool):xM n c b=some (if syl c=true then (hdE c,true) else ((fnB n.Decomp b c).getD [],(fnB n.Decomp b c).isSome)):=by
 unfold xM
 rw [zFO,zA]
 by_cases hs:syl c=true
 have e:decide (4≤hkE c)=true:=by simpa using (zEC c).1 hs
 simp only [e,cond_true,zSJ hs,zA,hs,if_true]
 have e:decide (4≤hkE c)=false:=by simp only [decide_eq_false_iff_not];exact fun hh=>hs ((zEC c).2 hh)
 simp only [Bool.not_eq_true] at hs
 simp only [e,cond_false,hs,Bool.false_eq_true,if_false]
 obtain ⟨i,hb,hp⟩:=zSM h hl c
 rw [hb]
 simp only [zA,z4]
 unfold fnB
 cases hf:n.Decomp.find? (isF c) with
 | none=>simp [zG8]
 | some m=>
  obtain ⟨h1,h2⟩:=hp m hf
  simp only [Option.isSome_some,Bool.not_true,Bool.not_false,zDO,kO h1,h2,zA,Bool.false_or]
  cases b <;> cases hm:(m.Tag== []) <;> simp [hm]
section
variable {n:Norm} {b:Bool} (hd:DS n.Decomp) (hl:n.Decomp.length≤2000) (hD:∀c,DD n.Decomp n.Decomp.length c) (hw:∀c,(fu n.Decomp b c).length≤64)
def XOk (l:List Mapping) (b:Bool) (m:List (Int×List Int)):Prop:= ∀k v,mget m k=some v→v=fu l b k
def zSY (l:List Mapping) (f:Nat) (c:Int):Prop:=(∃k,DD l k c∧k+2≤f)∨(l.find? (isF c)=none∧syl c=false∧1≤f)
include hw in
theorem z4T {f : Nat} (ih : ∀ c m, XOk n.Decomp b m → zSY n.Decomp f c → ∃ m', yI f c m n b = some (fu n.Decomp b c, m') ∧ XOk n.Decomp b m') (L : List Int) (hL : L.length ≤ 2000) (hn : ∀ e ∈ L, zSY n.Decomp f e) :
    ∀ (d i : Nat) (acc : List Int) (m : List (Int × List Int)), L.length - i = d → i ≤ L.length → acc.length ≤ 64 * i → XOk n.Decomp b m →
      ∃ m', zD (fun (x : Int × (List Int) × (List (Int × (List Int)))) => kE (L, true) (yI f) n b x.1 x.2.1 x.2.2) ((i : Int), acc, m) = some (acc ++ (L.drop i).flatMap (fu n.Decomp b), m') ∧ XOk n.Decomp b m' := by
  intro d
  induction d with
  | zero =>
    intro i acc m h1 h2 h3 h4
    refine ⟨m, ?_, h4⟩
    refine zL ?_
    rw [List.drop_of_length_le (show L.length ≤ i by omega)]
    simp only [kE, jR (show L.length ≤ i by omega), cond_false, List.flatMap_nil, List.append_nil]
  | succ d ihd =>
    intro i acc m h1 h2 h3 h4
    have hi : i < L.length := by omega
    obtain ⟨m1, hr, r1⟩ := ih L[i] m h4 (hn _ (List.getElem_mem hi))
    have hw1 := hw L[i]
    have ha : app acc (fu n.Decomp b L[i]) = some (acc ++ fu n.Decomp b L[i]) := uX (by omega)
    rw [zR (x' := (((i + 1 : Nat) : Int), acc ++ fu n.Decomp b L[i], m1)) (by
      simp only [kE, jL hi, cond_true, yH hi, zA, hr, ha, zU (k := i) (by omega)])]
    obtain ⟨m2, hq, q1⟩ := ihd (i + 1) (acc ++ fu n.Decomp b L[i]) m1 (by omega) (by omega) (by rw [List.length_append]; omega) r1
    refine ⟨m2, ?_, q1⟩
    rw [hq, List.drop_eq_getElem_cons hi, List.flatMap_cons, List.append_assoc]
include hd hl hD hw in
theorem z6Z:∀(f:Nat) (c:Int) (m:List (Int×List Int)),XOk n.Decomp b m→zSY n.Decomp f c→∃m',yI f c m n b=some (fu n.Decomp b c,m')∧XOk n.Decomp b m':=by
 intro f
 induction f with
 | zero=>intro c m _ hn;exfalso;rcases hn with ⟨k,_,h⟩ | ⟨_,_,h⟩ <;> omega
 | succ f ih=>
  intro c m hm hn
  show ∃m',jS (yI f) c m n b=some _∧_
  unfold jS
  cases hh:uD m c with
  | true=>
   obtain ⟨v,hv⟩:=Option.isSome_iff_exists.1 hh
   have hg:wN m c []=v:=by unfold wN;rw [hv];rfl
   rw [cond_true,hg,hm c v hv]
   exact ⟨m,rfl,hm⟩
  | false=>
   rw [cond_false,zYF hd hl,zA]
   have fin:∀(L:List Int),L.length≤2000→(∀e∈L,zSY n.Decomp f e)→L.flatMap (fu n.Decomp b)=fu n.Decomp b c→∃m',(cond (!((L,true):List Int×Bool).2) (some ([c],m)) ((zD (fun (x:Int×(List Int)×(List (Int×(List Int))))=>kE (L,true) (yI f) n b x.1 x.2.1 x.2.2) (0,[],m)).bind fun (y1:(List Int)×(List (Int×(List Int))))=>some (y1.1,wS y1.2 c y1.1)))=some (fu n.Decomp b c,m')∧XOk n.Decomp b m':=by
    intro L hL hne hfl
    obtain ⟨m1,hq,q1⟩:=z4T hw ih L hL hne L.length 0 [] m (by omega) (by omega) (by simp) hm
    rw [List.drop_zero,List.nil_append,hfl] at hq
    have hq':zD (fun (x:Int×(List Int)×(List (Int×(List Int))))=>kE (L,true) (yI f) n b x.1 x.2.1 x.2.2) (0,[],m)=some (fu n.Decomp b c,m1):=hq
    simp only [Bool.not_true,cond_false]
    rw [hq']
    refine ⟨wS m1 c (fu n.Decomp b c),rfl,fun k v hk=>?_⟩
    rw [jQ] at hk
    split at hk
    rename_i hx;cases hk;rw [hx]
    exact q1 k v hk
   cases hs:syl c with
   | true=>
    simp only [if_true]
    have hnone:=zP1 hd hs
    have hpt:∀e∈hdE c,n.Decomp.find? (isF e)=none∧syl e=false:=by
     intro e he
     obtain ⟨p1,p2⟩:=zKD hs he
     refine ⟨?_,p1⟩
     cases hf2:n.Decomp.find? (isF e) with
     | none=>rfl
     | some m=>obtain ⟨q1,rfl⟩:=zB5 hf2;exact absurd (hd.hk m q1) p2
    refine fin (hdE c) (by have:=zHY c;omega) (fun e he=>?_) ?_
    obtain ⟨p1,p2⟩:=hpt e he
    refine .inr ⟨p1,p2,?_⟩
    rcases hn with ⟨k,_,h⟩ | ⟨_,h,_⟩
    omega
    rw [hs] at h;cases h
    have h1:fu n.Decomp b c=hdE c:=by rw [zST hD,zCO hnone]
    rw [h1]
    have:∀L:List Int,(∀e∈L,n.Decomp.find? (isF e)=none∧syl e=false)→L.flatMap (fu n.Decomp b)=L:=by
     intro L
     induction L with
     | nil=>intro _;rfl
     | cons x L ihL=>
      intro h
      obtain ⟨p1,p2⟩:=h x (by simp)
      have hx:fu n.Decomp b x= [x]:=by rw [zST hD,zCO p1];show hdE x= [x];unfold hdE;rw [if_neg (by simp [p2])]
      rw [List.flatMap_cons,hx,ihL fun e he=>h e (by simp [he])]
      rfl
    exact this _ hpt
   | false=>
    simp only [Bool.false_eq_true,if_false]
    cases hf:fnB n.Decomp b c with
    | none=>
     simp only [Option.getD_none,Option.isSome_none,Bool.not_false,cond_true]
     refine ⟨m,?_,hm⟩
     rw [zST hD,hf]
     have:hdE c= [c]:=by unfold hdE;rw [if_neg (by simp [hs])]
     simp only [this]
    | some to=>
     simp only [Option.getD_some,Option.isSome_some]
     obtain ⟨mm,h1,rfl,_⟩:=zFE hf
     obtain ⟨h2,_⟩:=zB5 h1
     refine fin mm.To (hd.len mm h2) (fun e he=>?_) (by rw [zST hD c,hf])
     rcases hn with ⟨k,hk,h⟩ | ⟨h,_,_⟩
     cases k with
     | zero=>have:n.Decomp.find? (isF c)=none:=hk;rw [this] at h1;cases h1
     | succ k=>exact .inl ⟨k,hk mm h1 e he,by omega⟩
     rw [h] at h1;cases h1
end
noncomputable def usN (n:Norm):Norm:=open Classical in if VD0 n then n else {Classes:=[],Decomp:=[],Excluded:={Ranges:=[]}}
structure GN (n:Norm):Prop where
 ds:DS n.Decomp
 cv:CV n.Classes
 H:∀m∈n.Decomp,WW n.Decomp m.From
 w:∀m∈n.Decomp,wt n.Decomp true m.From≤64
 cl:n.Classes.length≤40
 de:n.Decomp.length≤40
 ok:∀x∈n.Classes,okSpan x
theorem zYG {n:Norm} (hs:NSm n) (hok:zC9 n):GN (usN n):=by
 unfold usN
 split
 rename_i h
 obtain ⟨h1,h2⟩:=(z4N h.ds (by have:=hs.de;omega)).1 h.ms
 exact ⟨h.ds,h.cv,h1,h2,hs.cl,hs.de,hok.1.2⟩
 exact ⟨⟨fun k hk=>(by cases hk),fun m hm=>(by cases hm),fun m hm=>(by cases hm)⟩,zYA,fun m hm=>(by cases hm),fun m hm=>(by cases hm),by simp,by simp,fun x hx=>by cases hx⟩
theorem GN.dd {n:Norm} (h:GN n):∀c,DD n.Decomp n.Decomp.length c:=zNH h.ds h.H
theorem GN.len {n:Norm} (h:GN n) (b:Bool) (c:Int):(fu n.Decomp b c).length≤64:=z4M h.ds (z4O h.ds h.H h.w) b c
theorem GN.ex {n:Norm} (h:GN n) {b:Bool} (c:Int) (m:List (Int×List Int)) (hm:XOk n.Decomp b m):∃m',yI 100 c m n b=some (fu n.Decomp b c,m')∧XOk n.Decomp b m':=
 z6Z h.ds (by have:=h.de;omega) h.dd (h.len b) 100 c m hm (.inl ⟨_,h.dd c,by have:=h.de;omega⟩)
theorem z1D {n:Norm} (hs:NSm n) (hok:zC9 n):wG n=some (usN n):=by
 obtain ⟨e,he,hv⟩:=zX4 hs hok
 unfold wG usN
 rw [he,zA]
 by_cases hz:e=0
 rw [if_pos (hv.1 hz)];simp [hz]
 rw [if_neg (fun h=>hz (hv.2 h))];simp [hz]
theorem zUU {n : Norm} (h : GN n) {b : Bool} {text : List Int} (ht : text.length ≤ 2000) : ∀ (d i : Nat) (acc : List Int) (m : List (Int × List Int)), text.length - i = d → i ≤ text.length → acc.length ≤ 64 * i → XOk n.Decomp b m →
    zD (fun (x : Int × (List Int) × (List (Int × (List Int)))) => k8 text n b x.1 x.2.1 x.2.2) ((i : Int), acc, m) = some (acc ++ (text.drop i).flatMap (fu n.Decomp b)) := by
  intro d
  induction d with
  | zero =>
    intro i acc m h1 h2 h3 h4
    refine zL ?_
    rw [List.drop_of_length_le (show text.length ≤ i by omega)]
    simp only [k8, jR (show text.length ≤ i by omega), cond_false, List.flatMap_nil, List.append_nil]
  | succ d ih =>
    intro i acc m h1 h2 h3 h4
    have hi : i < text.length := by omega
    obtain ⟨m1, hr, r1⟩ := h.ex (b := b) text[i] m h4
    have hw1 := h.len b text[i]
    have ha : app acc (fu n.Decomp b text[i]) = some (acc ++ fu n.Decomp b text[i]) := uX (by omega)
    rw [zR (x' := (((i + 1 : Nat) : Int), acc ++ fu n.Decomp b text[i], m1)) (by
      simp only [k8, jL hi, cond_true, yH hi, zA, hr, ha, zU (k := i) (by omega)])]
    rw [ih (i + 1) (acc ++ fu n.Decomp b text[i]) m1 (by omega) (by omega) (by rw [List.length_append]; omega) r1, List.drop_eq_getElem_cons hi, List.flatMap_cons, List.append_assoc]
noncomputable def zGA (n:Norm) (b:Bool) (text:List Int):List Int:=text.flatMap (fu (usN n).Decomp b)
theorem z1E {n:Norm} (hs:NSm n) (hok:zC9 n) {text:List Int} (ht:text.length≤2000) (b:Bool):jT n text b=vG (usN n).Classes (zGA n b text):=by
 have h:=zYG hs hok
 unfold jT vZ
 have hu:wG {Classes:=n.Classes,Decomp:=n.Decomp,Excluded:={Ranges:=n.Excluded.Ranges}}=some (usN n):=z1D hs hok
 have hlp:=zUU h (b:=b) ht text.length 0 [] [] (by omega) (by omega) (by simp) (fun k v h=>by cases h)
 rw [List.drop_zero,List.nil_append] at hlp
 have hlp':zD (fun (x:Int×(List Int)×(List (Int×(List Int))))=>k8 text (usN n) b x.1 x.2.1 x.2.2) (0,[],[])=some (zGA n b text):=hlp
 rw [hu,zA,zA,hlp',zA]
 cases vG (usN n).Classes (zGA n b text) <;> rfl
end Go.M
namespace Go.M
open Go.AV
section
variable (key:Int→Int)
def ltK (a b:Int):Bool:=decide (key a < key b)
def ltC (a b:Int):Bool:=decide (0 < key a)&&decide (key a < key b)
def srt (l:List Int):List Int:=wP (ltK key) l []
def csE (l:List Int):List Int:=wP (ltC key) l []
def rsE:List Int→List Int→List Int
 | [],run=>srt key run
 | x::t,run=>if key x=0 then srt key run++x::rsE t [] else rsE t (run++ [x])
end
section
variable {key:Int→Int}
theorem zYH (l:List Int) (x:Int):srt key (l++ [x])=vH (ltK key) (srt key l).reverse x []:=by
 unfold srt wP
 rw [List.foldl_append]
 rfl
theorem zS0 (l:List Int):Flt key l (srt key l):=by
 have:=zFQ (key:=key) l []
 exact this
theorem zS1 (l:List Int):(srt key l).length=l.length:=(zS0 l).len.symm
theorem zS2 {x:Int} (hx:0 < key x):∀(r q s:List Int),(∀y,q.head? =some y→key y=0)→vH (ltC key) (r++q) x s=q.reverse++vH (ltK key) r x s
 | [],q,s,hq=>by
  cases q with
  | nil=>rfl
  | cons y q=>
   have:ltC key x y=false:=by unfold ltC;rw [hq y rfl];simp;omega
   show vH (ltC key) (y::q) x s=_
   simp only [vH,this,Bool.false_eq_true,if_false]
 | y::r,q,s,hq=>by
  have e:ltC key x y=ltK key x y:=by unfold ltC ltK;simp [hx]
  show vH (ltC key) (y::(r++q)) x s=q.reverse++vH (ltK key) (y::r) x s
  simp only [vH,e]
  cases ltK key x y with
  | true=>simp only [if_true];exact zS2 hx r q (y::s) hq
  | false=>simp
theorem zYI (hnn : ∀ x, 0 ≤ key x) : ∀ (t run p : List Int), (∀ y, p.reverse.head? = some y → key y = 0) → wP (ltC key) t (p ++ srt key run) = p ++ rsE key t run
  | [], run, p, _ => rfl
  | x :: t, run, p, hp => by
    show wP (ltC key) t (vH (ltC key) (p ++ srt key run).reverse x []) = p ++ rsE key (x :: t) run
    by_cases h0 : key x = 0
    · have e : ∀ r : List Int, vH (ltC key) r x [] = r.reverse ++ [x] := by
        intro r
        cases r with
        | nil => rfl
        | cons y r =>
          have : ltC key x y = false := by unfold ltC; rw [h0]; simp
          simp [vH, this]
      have ih := zYI hnn t [] (p ++ srt key run ++ [x]) (fun y hy => by simp at hy; rw [← hy]; exact h0)
      have e2 : srt key [] = [] := rfl
      rw [e2, List.append_nil] at ih
      rw [e, List.reverse_reverse, ih]
      simp [rsE, h0]
    · have hx : 0 < key x := by have := hnn x; omega
      rw [List.reverse_append, zS2 hx _ _ _ hp, List.reverse_reverse, ← zYH, zYI hnn t (run ++ [x]) p hp]
      simp [rsE, h0]
theorem z4V (hnn:∀x,0≤key x) (t:List Int):csE key t=rsE key t []:=by
 have:=zYI hnn t [] [] (fun y hy=>by cases hy)
 exact this
theorem zYJ (t:List Int):(csE key t).Perm t:=by
 have:=zEA (ltC key) t []
 rw [List.nil_append] at this
 exact this
theorem z1F (t:List Int):(csE key t).length=t.length:=(zYJ t).length_eq
theorem zP7 {f:List Int→Option (List Int)} {P run T r:List Int} (hpos:0 < run.length) (hf:f run=some r):zEH f (P++run++T) (P.length:Int) ((P.length+run.length:Nat):Int)=some (P++r++T):=by
 unfold zEH
 have a1:((P.length:Int)).toNat=P.length:=by simp
 have a2:(((P.length+run.length:Nat):Int)).toNat=P.length+run.length:=by omega
 rw [a1,a2,if_pos ⟨by omega,by omega,by rw [List.length_append,List.length_append];omega⟩]
 have e1:((P++run++T).drop P.length).take (P.length+run.length - P.length)=run:=by
  rw [List.append_assoc,List.drop_left,show P.length+run.length - P.length=run.length by omega,List.take_left]
 have d1:(P++run++T).take P.length=P:=by rw [List.append_assoc,List.take_left]
 have d2:(P++run++T).drop (P.length+run.length)=T:=by rw [←List.length_append,List.drop_left]
 rw [e1,d1,d2,hf]
 rfl
theorem zS3 {f : List Int → Option (List Int)} {st : Int → Bool} (hst : ∀ x, st x = decide (key x = 0)) (hf : ∀ l, l.length ≤ 2000 → f l = some (srt key l)) : ∀ (t run P : List Int) (s : Int), P.length + run.length + t.length ≤ 2000 → (run = [] ∧ s = -1 ∨ run ≠ [] ∧ s = (P.length : Int)) →
    wJ f Range.Lo Range.Hi (P ++ run ++ t) (k9 st t ((P.length + run.length : Nat) : Int) s) = some (P ++ rsE key t run)
  | [], run, P, s, hl, hs => by
    rcases hs with ⟨rfl, rfl⟩ | ⟨hne, rfl⟩
    · simp only [k9, show ¬ (0 : Int) ≤ -1 by decide, if_false]
      show some (P ++ [] ++ []) = some (P ++ [])
      simp
    · have h0 : (0 : Int) ≤ (P.length : Int) := by omega
      simp only [k9, h0, if_true]
      have hpos : 0 < run.length := List.length_pos_iff.2 hne
      show (some (P ++ run ++ [])).bind (fun l => zEH f l (P.length : Int) ((P.length + run.length : Nat) : Int)) = _
      rw [zA, zP7 hpos (hf run (by simp at hl; omega))]
      simp [rsE]
  | x :: t, run, P, s, hl, hs => by
    have hl' : P.length + run.length + t.length + 1 ≤ 2000 := by simp only [List.length_cons] at hl; omega
    by_cases h0 : key x = 0
    · have hsx : st x = true := by rw [hst]; simp [h0]
      rcases hs with ⟨rfl, rfl⟩ | ⟨hne, rfl⟩
      · have e : k9 st (x :: t) ((P.length + ([] : List Int).length : Nat) : Int) (-1) = k9 st t (((P ++ [x]).length + ([] : List Int).length : Nat) : Int) (-1) := by
          simp only [k9, hsx]
          simp
        have ih := zS3 hst hf t [] (P ++ [x]) (-1) (by simp only [List.length_append, List.length_singleton, List.length_nil]; simp at hl'; omega) (.inl ⟨rfl, rfl⟩)
        rw [e, show P ++ [] ++ x :: t = P ++ [x] ++ [] ++ t by simp, ih]
        have e2 : srt key [] = [] := rfl
        simp [rsE, h0, e2]
      · have h00 : (0 : Int) ≤ (P.length : Int) := by omega
        have hpos : 0 < run.length := List.length_pos_iff.2 hne
        have e : k9 st (x :: t) ((P.length + run.length : Nat) : Int) (P.length : Int) = { Lo := (P.length : Int), Hi := ((P.length + run.length : Nat) : Int) } :: k9 st t (((P ++ srt key run ++ [x]).length + ([] : List Int).length : Nat) : Int) (-1) := by
          have e3 : (((P ++ srt key run ++ [x]).length + ([] : List Int).length : Nat) : Int) = ((P.length + run.length : Nat) : Int) + 1 := by simp [zS1]; omega
          rw [e3]
          simp only [k9, hsx, Bool.not_true, Bool.false_and, Bool.false_eq_true, if_false, Bool.true_and, h00, decide_true, if_true]
        have ih := zS3 hst hf t [] (P ++ srt key run ++ [x]) (-1) (by simp [zS1]; omega) (.inl ⟨rfl, rfl⟩)
        have e4 : zEH f (P ++ run ++ x :: t) (P.length : Int) ((P.length + run.length : Nat) : Int) = some (P ++ srt key run ++ [x] ++ [] ++ t) := by
          rw [zP7 hpos (hf run (by omega))]
          simp
        have e5 : wJ f Range.Lo Range.Hi (P ++ run ++ x :: t) ({ Lo := (P.length : Int), Hi := ((P.length + run.length : Nat) : Int) } :: k9 st t (((P ++ srt key run ++ [x]).length + ([] : List Int).length : Nat) : Int) (-1)) = wJ f Range.Lo Range.Hi (P ++ srt key run ++ [x] ++ [] ++ t) (k9 st t (((P ++ srt key run ++ [x]).length + ([] : List Int).length : Nat) : Int) (-1)) := by
          unfold wJ
          rw [List.foldl_cons, zA, e4]
        rw [e, e5, ih]
        simp [rsE, h0]
    · have hsx : st x = false := by rw [hst]; simp [h0]
      have e : k9 st (x :: t) ((P.length + run.length : Nat) : Int) s = k9 st t ((P.length + (run ++ [x]).length : Nat) : Int) (P.length : Int) := by
        have e3 : ((P.length + (run ++ [x]).length : Nat) : Int) = ((P.length + run.length : Nat) : Int) + 1 := by simp; omega
        rw [e3]
        rcases hs with ⟨rfl, rfl⟩ | ⟨hne, rfl⟩
        · simp [k9, hsx]
        · have : ¬ ((P.length : Int) < 0) := by omega
          simp only [k9, hsx, Bool.not_false, Bool.true_and, this, decide_false, Bool.false_eq_true, if_false, Bool.false_and]
      have ih := zS3 hst hf t (run ++ [x]) P (P.length : Int) (by simp; omega) (.inr ⟨by simp, rfl⟩)
      rw [e, show P ++ run ++ x :: t = P ++ (run ++ [x]) ++ t by simp, ih]
      simp [rsE, h0]
end
theorem zYK {l:List Span} (h:CV l) (hl:l.length≤2000) (x y:Int):jX x y l=some (sg (clE l x) (clE l y)):=by
 unfold jX
 simp only [zCN h hl,zA,zUO]
 unfold sg
 rfl
theorem z4W {l:List Span} (h:CV l) (hl:l.length≤2000) (hok:∀x∈l,okSpan x) {text:List Int} (ht:text.length≤2000):vG l text=some (csE (clE l) text):=by
 have hnn:∀x,0≤clE l x:=z6Y h
 unfold vG w9
 have hst:∀x,(yW l x==some 0)=decide (clE l x=0):=fun x=>by rw [zCN h hl];by_cases hx:clE l x=0 <;> simp [hx]
 rw [zMC hl hok h,zA,z8J ht,zA,zPZ h hl ht hst rfl,zA]
 have:=zS3 (key:=clE l) (f:=fun p=>yQ p (fun x0 x1=>jX x0 x1 l)) (st:=fun c=>yW l c==some 0) hst (fun p hp=>by
  obtain ⟨r,r1,r2,r3⟩:=zUT (key:=clE l) (f:=fun x0 x1=>jX x0 x1 l) (fun x y=>zYK h hl x y) p hp
  rw [r1]
  have:=zP5 (key:=clE l) r2 (zH1 (key:=clE l) p) (r3.symm.trans (zS0 p))
  rw [this]
  rfl) text [] [] (-1) (by simpa using ht) (.inl ⟨rfl,rfl⟩)
 rw [z4V hnn]
 exact this
noncomputable def zGM (n:Norm) (b:Bool) (text:List Int):List Int:=csE (clE (usN n).Classes) (zGA n b text)
theorem zP8 (n:Norm) (b:Bool) (text:List Int):(zGM n b text).length=(zGA n b text).length:=z1F _
theorem zP9 {n:Norm} (hs:NSm n) (hok:zC9 n) {text:List Int} {b:Bool} (ht:text.length≤2000) (hf:(zGA n b text).length≤2000):jT n text b=some (zGM n b text):=by
 have h:=zYG hs hok
 rw [z1E hs hok ht,z4W h.cv (by have:=h.cl;omega) h.ok hf]
 rfl
end Go.M
namespace Go.M
open Go.AV
noncomputable def wkE (c:Collation) (l:List Span):Nat→List Int→List Element×Bool
 | 0,_=>([],true)
 | k+1,text=>if text= [] then ([],true) else ((stE c l text).2.2++(wkE c l k (stE c l text).2.1).1,decide (uY (kQ c).Entries text≠0)&&(wkE c l k (stE c l text).2.1).2)
theorem z4X {c:Collation} {l:List Span} {text:List Int} (h0:text≠[]):1≤(stE c l text).1∧(stE c l text).1+((stE c l text).2.1.length:Int)=(text.length:Int):=by
 have hpos:0 < text.length:=List.length_pos_iff.2 h0
 unfold stE
 split
 refine ⟨by simp,?_⟩
 show (1:Int)+((text.drop 1).length:Int)=_
 rw [List.length_drop];omega
 rename_i hz
 have hle:uY (kQ c).Entries text≤text.length:=zKH _ _
 have hinv:=zKI (fd:=fun q=>(zB3 (kQ c).Entries q).2) (cl:=clE l) (text.drop (uY (kQ c).Entries text)) (text.take (uY (kQ c).Entries text)) [] 0
 generalize zBO (fun q=>(zB3 (kQ c).Entries q).2) (clE l) (text.drop (uY (kQ c).Entries text)) (text.take (uY (kQ c).Entries text)) [] 0=q at*
 obtain ⟨i1,i2,_⟩:=hinv
 rw [List.length_take,Nat.min_eq_left hle] at i1 i2
 rw [List.length_drop] at i2
 simp only [List.length_nil] at i2
 constructor
 show (1:Int)≤(q.1.length:Int);omega
 show (q.1.length:Int)+(q.2.length:Int)=_;omega
theorem zS4 {c:Collation} {l:List Span} {text:List Int} (h0:text≠[]):(stE c l text).2.1.length < text.length:=by
 have:=z4X (c:=c) (l:=l) h0
 omega
theorem z2U {c:Collation} (hs:Sm c) {l:List Span} (text:List Int):(stE c l text).2.2.length≤2000:=by
 unfold stE
 split
 exact z0V _ _
 exact z0U (zXP hs) _
theorem zS5 {c:Collation} {l:List Span}:∀(k j:Nat) (text:List Int),text.length≤k→text.length≤j→wkE c l k text=wkE c l j text
 | 0,j,text,h,_=>by
  have:text= []:=List.eq_nil_of_length_eq_zero (by omega)
  subst this
  cases j with
  | zero=>rfl
  | succ j=>simp [wkE]
 | k+1,j,text,h,hj=>by
  by_cases h0:text= []
  subst h0
  cases j <;> simp [wkE]
  have hpos:0 < text.length:=List.length_pos_iff.2 h0
  cases j with
  | zero=>omega
  | succ j=>
   have hlt:=zS4 (c:=c) (l:=l) h0
   simp only [wkE,h0,if_false]
   rw [zS5 k j _ (by omega) (by omega)]
noncomputable def wk (c:Collation) (l:List Span) (text:List Int):List Element×Bool:=wkE c l text.length text
theorem zNK (c:Collation) (l:List Span):wk c l []=([],true):=rfl
theorem zS6 {c:Collation} {l:List Span} {text:List Int} (h0:text≠[]):wk c l text=((stE c l text).2.2++(wk c l (stE c l text).2.1).1,decide (uY (kQ c).Entries text≠0)&&(wk c l (stE c l text).2.1).2):=by
 have hlt:=zS4 (c:=c) (l:=l) h0
 unfold wk
 obtain ⟨k,hk⟩:∃k,text.length=k+1:=⟨text.length - 1,by have:=List.length_pos_iff.2 h0;omega⟩
 rw [hk]
 simp only [wkE,h0,if_false]
 rw [zS5 k (stE c l text).2.1.length _ (by omega) (by omega)]
theorem z4Y {c:Collation} (hs:Sm c) {l:List Span}:∀(k:Nat) (text:List Int),text.length≤k→(wk c l text).1.length≤2000*text.length:=by
 intro k
 induction k with
 | zero=>
  intro text h
  have:text= []:=List.eq_nil_of_length_eq_zero (by omega)
  subst this;rw [zNK];simp
 | succ k ih=>
  intro text h
  by_cases h0:text= []
  subst h0;rw [zNK];simp
  have hlt:=zS4 (c:=c) (l:=l) h0
  have h1:=ih _ (show (stE c l text).2.1.length≤k by omega)
  have h2:=z2U hs (l:=l) text
  rw [zS6 h0]
  show ((stE c l text).2.2++(wk c l (stE c l text).2.1).1).length≤_
  rw [List.length_append]
  omega
section
variable {c:Collation} (hs:Sm c) {l:List Span} (hcv:CV l) (hl:l.length≤2000)
include hs hcv hl
theorem z1H:∀(k:Nat) (text:List Int) (acc:List Element),text.length≤k→text.length≤2000→acc.length+2000*text.length≤100000000→zD (fun (x:(List Element)×(List Int))=>k6 (zFF c l) x.1 x.2) (acc,text)=some (acc++(wk c l text).1):=by
 intro k
 induction k with
 | zero=>
  intro text acc h _ _
  have:text= []:=List.eq_nil_of_length_eq_zero (by omega)
  subst this
  refine zL ?_
  simp [k6,zNK]
 | succ k ih=>
  intro text acc h ht ha
  by_cases h0:text= []
  subst h0
  refine zL ?_
  simp [k6,zNK]
  have hpos:0 < text.length:=List.length_pos_iff.2 h0
  have hlt:=zS4 (c:=c) (l:=l) h0
  have h2:=z2U hs (l:=l) text
  obtain ⟨seq,m1,m2⟩:=zYE hs hcv hl ht h0
  have e0:decide ((0:Int) < (text.length:Int))=true:=by simp;omega
  have ea:app acc (stE c l text).2.2=some (acc++(stE c l text).2.2):=uX (by omega)
  rw [zR (x':=(acc++(stE c l text).2.2,(stE c l text).2.1)) (by simp only [k6,e0,cond_true,m1,zA,ea,m2])]
  rw [ih _ _ (by omega) (by omega) (by rw [List.length_append];omega),zS6 h0,List.append_assoc]
end
theorem zYL (n:Norm):zAV n=(usN n).Classes:=by
 unfold zAV usN
 split <;> rfl
section
variable {n:Norm} {c:Collation} (hn:NSm n) (hok:zC9 n) (hs:Sm c) (hg:∀g∈c.Groups,g.Name.length≤MX) {text:List Int} (ht:text.length≤2000) (hf:(zGA n false text).length≤2000)
include hn hok hs hg ht hf
theorem zQA:wM n c text=some (wk c (zAV n) (zGM n false text)).1:=by
 unfold wM
 have hl:(zAV n).length≤2000:=by have:=zME hn;omega
 have hd:(zGM n false text).length≤2000:=by rw [zP8];exact hf
 rw [z0S hs hg,zA,z1C hn hok,zA,zP9 hn hok ht hf,zA,z1H hs (zYB n) hl _ _ [] (Nat.le_refl _) hd (by simp;omega)]
 rfl
end
theorem z4Z {n:Norm} {c:Collation} (hs:Sm c) {text:List Int} (hd:(zGM n false text).length≤2000):(wk c (zAV n) (zGM n false text)).1.length≤1000000000:=by
 have:=z4Y hs (l:=zAV n) _ (zGM n false text) (Nat.le_refl _)
 omega
end Go.M
namespace Go.M
open Go.AV
end Go.M
namespace Go.M
open Go.AV
end Go.M
namespace Go.M
open Go.AV
end Go.M
namespace Go.M
open Go.AV
end Go.M
namespace Go.M
open Go.AV
def pM (c:Int) (b:Bool) (k:Nat) (m:Mapping):Option Nat:=if m.From=c∧(b ||(m.Tag== []))=true then some k else none
def fi (l:List Mapping) (c:Int) (b:Bool):Option Nat:=chk (pM c b) l 0
end Go.M
namespace Go.M
open Go.AV
section
variable {l:List Mapping} (hd:DS l) (hD:∀c,DD l l.length c) {b:Bool}
def lenOf (l:List Mapping) (b:Bool) (out:List Int) (e:Int):Int:=match fi l e b with
 | some m=>nth out m
 | none=>((hdE e).length:Int)
def updL (l:List Mapping) (b:Bool) (out:List Int) (i:Nat):Int:=if (b ||((nth l i).Tag== []))=true then min (max (((nth l i).To.map (lenOf l b out)).sum) 1) 65 else 1
include hd hD
end
end Go.M
namespace Go.M
open Go.AV
end Go.M
namespace Go.M
open Go.AV
end Go.M
namespace Go.M
open Go.AV
end Go.M
namespace Go.M
open Go.AV
end Go.M
namespace Go.M
open Go.AV
end Go.M
namespace Go.M
open Go.AV
end Go.M
namespace Go.M
open Go.AV
end Go.M
namespace Go.M
open Go.AV
def ckO (o:Options):Int:=if o.Strength < 1∨4 < o.Strength then 1 else if o.Variable < 1∨3 < o.Variable then 8 else 0
def zBP (o:Options):Options:=if ckO o=0 then o else {Strength:=3,Variable:=1,Backward:=false,Identical:=false}
theorem zRM (o:Options):xH o=some (ckO o):=by
 unfold xH ckO
 rw [z4]
 by_cases h1:o.Strength < 1∨4 < o.Strength
 have:(decide (o.Strength < 1) ||decide (4 < o.Strength))=true:=by simpa using h1
 rw [this,if_pos h1];rfl
 have:(decide (o.Strength < 1) ||decide (4 < o.Strength))=false:=by simpa using h1
 rw [this,if_neg h1,cond_false]
 by_cases v1:o.Variable=1
 simp [v1]
 by_cases v2:o.Variable=2
 simp [v2]
 by_cases v3:o.Variable=3
 simp [v3]
 rw [if_pos (by omega)]
 simp [v1,v2,v3]
theorem zS7 (o:Options):xU o=some (zBP o):=by
 unfold xU zBP
 rw [zRM,zA]
 by_cases h:ckO o=0 <;> simp [h]
theorem zYM (o:Options):ckO (zBP o)=0:=by
 unfold zBP
 split
 assumption
 rfl
theorem z61 {o:Options} (h:ckO o=0):zBP o=o:=by unfold zBP;rw [if_pos h]
theorem z8U {o:Options} (h:ckO o=0):1≤o.Strength∧o.Strength≤4∧1≤o.Variable∧o.Variable≤3:=by
 unfold ckO at h
 split at h
 cases h
 split at h
 cases h
 omega
def nz (x:Int):List Int:=if x=0 then [] else [x]
def col:Nat→A4Int→Int
 | 0,w=>w.x0
 | 1,w=>w.x1
 | 2,w=>w.x2
 | _,w=>w.x3
def row (k:Nat) (L:List A4Int):List Int:=L.flatMap fun w=>nz (col k w)
def zNL (f:Bool) (e:Element):Bool:=if e.Variable=true∨e.Primary≠0 then e.Variable else f
def zQB (e:Element):Prop:=e.Primary=0∧e.Secondary=0∧e.Tertiary=0
instance (e:Element):Decidable (zQB e):=by unfold zQB;infer_instance
def tr1 (v:Int) (f:Bool) (e:Element):A4Int:=
 if v=1 then {x0:=e.Primary,x1:=e.Secondary,x2:=e.Tertiary,x3:=if zQB e then 0 else 65535}
 else if zNL f e=true then {x0:=0,x1:=0,x2:=0,x3:=if v=3∧e.Variable=true then e.Primary else 0}
 else {x0:=e.Primary,x1:=e.Secondary,x2:=e.Tertiary,x3:=if v=3∧¬zQB e then 65535 else 0}
def trL (v:Int):Bool→List Element→List A4Int
 | _,[]=>[]
 | f,e::l=>tr1 v f e::trL v (zNL f e) l
theorem zNM (v:Int):∀(l:List Element) (f:Bool),(trL v f l).length=l.length
 | [],_=>rfl
 | e::l,f=>by simp [trL,zNM v l]
theorem zYO {v:Int} (hv:1≤v∧v≤3) (e:Element) (f:Bool):xW e v f=some (tr1 v f e,if v=1 then f else zNL f e):=by
 obtain ⟨p,s,t,va⟩:=e
 unfold xW tr1 zNL zQB
 rcases (by omega:v=1∨v=2∨v=3) with rfl | rfl | rfl <;> cases va <;> cases f <;> by_cases hp:p=0 <;> by_cases hs:s=0 <;> by_cases ht:t=0 <;> simp [hp,hs,ht]
theorem z62 (f g:Bool) (e:Element):tr1 1 f e=tr1 1 g e:=rfl
theorem z2W:∀(l:List Element) (f g:Bool),trL 1 f l=trL 1 g l
 | [],_,_=>rfl
 | e::l,f,g=>by
  show tr1 1 f e::trL 1 _ l=tr1 1 g e::trL 1 _ l
  rw [z62 f g,z2W l (zNL f e) (zNL g e)]
theorem zYP (x:Int):(nz x).length≤1:=by unfold nz;split <;> simp
theorem zNN {r:List Int} {x:Int} (h:r.length+1≤4294967296):(cond (!decide (x=0)) ((app r [x]).bind fun q=>some q) (some r))=some (r++nz x):=by
 unfold nz
 by_cases hx:x=0
 simp [hx]
 simp only [hx,decide_false,Bool.not_false,cond_true,if_false]
 rw [uX (by simpa using h)];rfl
theorem wl1 (t : A4Int × Bool) {r0 r1 r2 r3 : List Int} {n : Nat} (hn : n + 1 ≤ 4294967296) (h0 : r0.length ≤ n) (h1 : r1.length ≤ n) (h2 : r2.length ≤ n) (h3 : r3.length ≤ n) :
    zD (fun (x : Int × (List Int) × (List Int) × (List Int) × (List Int)) => kU t x.1 x.2.1 x.2.2.1 x.2.2.2.1 x.2.2.2.2) (0, r0, r1, r2, r3) = some (r0 ++ nz t.1.x0, r1 ++ nz t.1.x1, r2 ++ nz t.1.x2, r3 ++ nz t.1.x3) := by
  have i0 : kJ [t.1.x0, t.1.x1, t.1.x2, t.1.x3] (0 : Int) = some t.1.x0 := rfl
  have i1 : kJ [t.1.x0, t.1.x1, t.1.x2, t.1.x3] (1 : Int) = some t.1.x1 := rfl
  have i2 : kJ [t.1.x0, t.1.x1, t.1.x2, t.1.x3] (2 : Int) = some t.1.x2 := rfl
  have i3 : kJ [t.1.x0, t.1.x1, t.1.x2, t.1.x3] (3 : Int) = some t.1.x3 := rfl
  rw [zR (x' := (1, r0 ++ nz t.1.x0, r1, r2, r3)) (by
    simp only [kU, i0, zA, zNN (x := t.1.x0) (show r0.length + 1 ≤ 4294967296 by omega)]; rfl)]
  rw [zR (x' := (2, r0 ++ nz t.1.x0, r1 ++ nz t.1.x1, r2, r3)) (by
    simp only [kU, i1, zA, zNN (x := t.1.x1) (show r1.length + 1 ≤ 4294967296 by omega)]; rfl)]
  rw [zR (x' := (3, r0 ++ nz t.1.x0, r1 ++ nz t.1.x1, r2 ++ nz t.1.x2, r3)) (by
    simp only [kU, i2, zA, zNN (x := t.1.x2) (show r2.length + 1 ≤ 4294967296 by omega)]; rfl)]
  rw [zR (x' := (4, r0 ++ nz t.1.x0, r1 ++ nz t.1.x1, r2 ++ nz t.1.x2, r3 ++ nz t.1.x3)) (by
    simp only [kU, i3, zA, zNN (x := t.1.x3) (show r3.length + 1 ≤ 4294967296 by omega)]; rfl)]
  exact zL (by simp only [kU]; rfl)
theorem wl0 {l : List Element} {o : Options} (hv : 1 ≤ o.Variable ∧ o.Variable ≤ 3) (hl : l.length ≤ 4000000000) : ∀ (m k : Nat) (f : Bool) (r0 r1 r2 r3 : List Int), k + m = l.length → r0.length ≤ k → r1.length ≤ k → r2.length ≤ k → r3.length ≤ k →
    zD (fun (x : Int × Bool × (List Int) × (List Int) × (List Int) × (List Int)) => xE l o x.1 x.2.1 x.2.2.1 x.2.2.2.1 x.2.2.2.2.1 x.2.2.2.2.2) ((k : Int), f, r0, r1, r2, r3) =
      some (r0 ++ row 0 (trL o.Variable f (l.drop k)), r1 ++ row 1 (trL o.Variable f (l.drop k)), r2 ++ row 2 (trL o.Variable f (l.drop k)), r3 ++ row 3 (trL o.Variable f (l.drop k)))
  | 0, k, f, r0, r1, r2, r3, h, _, _, _, _ => by
    rw [List.drop_of_length_le (by omega)]
    refine zL ?_
    simp only [xE, jR (show l.length ≤ k by omega), cond_false, trL, row, List.flatMap_nil, List.append_nil]
  | m + 1, k, f, r0, r1, r2, r3, h, h0, h1, h2, h3 => by
    have hk : k < l.length := by omega
    have q : ∀ {r : List Int} (x : Int), r.length ≤ k → (r ++ nz x).length ≤ k + 1 := fun x hr => by rw [List.length_append]; have := zYP x; omega
    rw [zR (x' := (((k + 1 : Nat) : Int), (if o.Variable = 1 then f else zNL f l[k]), r0 ++ nz (tr1 o.Variable f l[k]).x0, r1 ++ nz (tr1 o.Variable f l[k]).x1, r2 ++ nz (tr1 o.Variable f l[k]).x2, r3 ++ nz (tr1 o.Variable f l[k]).x3)) (by
      simp only [xE, jL hk, cond_true, yH hk, zA, zYO hv, wl1 _ (n := k) (by omega) h0 h1 h2 h3, zU (k := k) (by omega)])]
    rw [wl0 hv hl m (k + 1) _ _ _ _ _ (by omega) (q _ h0) (q _ h1) (q _ h2) (q _ h3), List.drop_eq_getElem_cons hk]
    have e : trL o.Variable (if o.Variable = 1 then f else zNL f l[k]) (l.drop (k + 1)) = trL o.Variable (zNL f l[k]) (l.drop (k + 1)) := by
      by_cases h1 : o.Variable = 1
      · rw [h1]; exact z2W _ _ _
      · rw [if_neg h1]
    rw [e]
    simp [trL, row, col]
theorem zYQ : ∀ (n : Nat) (a m b : List Int), m.length = n → a.length = b.length → a.length + m.length + b.length ≤ 9000000000000000000 →
    zD (fun (x : Int × Int × (List Int)) => kR x.1 x.2.1 x.2.2) ((a.length : Int), ((a.length + m.length : Nat) : Int) - 1, a ++ m ++ b) = some (a ++ m.reverse ++ b) := by
  intro n
  induction n using Nat.strongRecOn with
  | ind n ih =>
    intro a m b hn hab hb
    by_cases h2 : m.length ≤ 1
    · have e : decide ((a.length : Int) < ((a.length + m.length : Nat) : Int) - 1) = false := by simp; omega
      refine zL ?_
      have hr : m.reverse = m := by
        match m, h2 with
        | [], _ => rfl
        | [x], _ => rfl
      simp only [kR, e, cond_false, hr]
    · obtain ⟨x, m1, rfl⟩ := List.exists_cons_of_ne_nil (l := m) (fun e => by rw [e] at h2; simp at h2)
      have hm1 : m1 ≠ [] := fun e => by rw [e] at h2; simp at h2
      obtain ⟨m2, y, rfl⟩ : ∃ m2 y, m1 = m2 ++ [y] := ⟨m1.dropLast, m1.getLast hm1, (List.dropLast_concat_getLast hm1).symm⟩
      simp only [List.length_cons, List.length_append, List.length_nil] at hn hb h2
      have e : decide ((a.length : Int) < ((a.length + (x :: (m2 ++ [y])).length : Nat) : Int) - 1) = true := by simp; omega
      have ej : ((a.length + (x :: (m2 ++ [y])).length : Nat) : Int) - 1 = ((a.length + 1 + m2.length : Nat) : Int) := by simp; omega
      have g1 : kJ (a ++ (x :: (m2 ++ [y])) ++ b) (((a.length + 1 + m2.length : Nat) : Int)) = some y := by
        rw [yH (by simp; omega)]; congr 1
        rw [List.getElem_append_left (by simp; omega), List.getElem_append_right (by omega)]
        simp only [show a.length + 1 + m2.length - a.length = m2.length + 1 by omega, List.getElem_cons_succ]
        rw [List.getElem_append_right (by omega)]; simp
      have g2 : kJ (a ++ (x :: (m2 ++ [y])) ++ b) ((a.length : Nat) : Int) = some x := by
        rw [yH (by simp)]; congr 1
        rw [List.getElem_append_left (by simp), List.getElem_append_right (by omega)]; simp
      have s1 : uN (a ++ (x :: (m2 ++ [y])) ++ b) ((a.length : Nat) : Int) y = some (a ++ (y :: (m2 ++ [y])) ++ b) := by
        rw [zJ9 (by simp)]; congr 1; simp
      have g3 : kJ (a ++ (y :: (m2 ++ [y])) ++ b) (((a.length + 1 + m2.length : Nat) : Int)) = some y := by
        rw [yH (by simp; omega)]; congr 1
        rw [List.getElem_append_left (by simp; omega), List.getElem_append_right (by omega)]
        simp only [show a.length + 1 + m2.length - a.length = m2.length + 1 by omega, List.getElem_cons_succ]
        rw [List.getElem_append_right (by omega)]; simp
      have s2 : uN (a ++ (y :: (m2 ++ [y])) ++ b) (((a.length + 1 + m2.length : Nat) : Int)) x = some ((a ++ [y]) ++ m2 ++ (x :: b)) := by
        rw [zJ9 (by simp; omega)]; congr 1
        have e1 : a ++ (y :: (m2 ++ [y])) ++ b = (a ++ y :: m2) ++ y :: b := by simp
        rw [e1, show a.length + 1 + m2.length = (a ++ y :: m2).length by simp; omega, List.set_append_right _ _ (Nat.le_refl _)]
        simp
      rw [zR (x' := (((a ++ [y]).length : Int), (((a ++ [y]).length + m2.length : Nat) : Int) - 1, (a ++ [y]) ++ m2 ++ (x :: b))) (by
        simp only [kR, e, cond_true]
        rw [ej]
        simp only [g1, g2, s1, g3, s2, zA]
        rw [zU (k := a.length) (by omega), vT (by omega) (by omega)]
        simp only [List.length_append, List.length_cons, List.length_nil])]
      rw [ih m2.length (by omega) (a ++ [y]) m2 (x :: b) rfl (by simp; omega) (by simp; omega)]
      simp
theorem z40 {l:List Int} (h:l.length≤4294967296):jG l=some l.reverse:=by
 unfold jG
 have:=zYQ l.length [] l [] rfl rfl (by simp;omega)
 simp only [List.nil_append,List.append_nil,List.length_nil,Nat.zero_add] at this
 rw [vT (by omega) (by omega)]
 rw [show ((0:Nat):Int)=0 from rfl] at this
 rw [this];rfl
def z1I (b:Bool) (l:List Int):List Int:=if b=true then l.reverse else l
def rows (b:Bool) (L:List A4Int):List (List Int):=[row 0 L,z1I b (row 1 L),row 2 L,row 3 L]
def wts (l:List Element) (o:Options):List (List Int):=(rows o.Backward (trL o.Variable false l)).take o.Strength.toNat
theorem zNO (k:Nat):∀(L:List A4Int),(row k L).length≤L.length
 | []=>by simp [row]
 | w::L=>by
  have:=zNO k L
  have h2:=zYP (col k w)
  simp only [row,List.flatMap_cons,List.length_append,List.length_cons] at this ⊢
  omega
theorem zKJ {l:List Element} (hl:l.length≤4000000000) (o:Options):wX l o=some (wts l (zBP o)):=by
 have hb:=z8U (zYM o)
 unfold wX wts
 have e0:({Strength:=o.Strength,Variable:=o.Variable,Backward:=o.Backward,Identical:=o.Identical}:Options)=o:=rfl
 rw [e0,zS7,zA]
 generalize zBP o=q at*
 have hw:=wl0 (l:=l) (o:=q) hb.2.2 hl l.length 0 false [] [] [] [] (by omega) (by simp) (by simp) (by simp) (by simp)
 simp only [List.drop_zero,List.nil_append] at hw
 rw [show ((0:Nat):Int)=0 from rfl] at hw
 unfold uL
 rw [zA,hw,zA]
 have hr:(cond q.Backward ((jG (row 1 (trL q.Variable false l))).bind fun t45=>some t45) (some (row 1 (trL q.Variable false l))))=some (z1I q.Backward (row 1 (trL q.Variable false l))):=by
  cases q.Backward with
  | false=>rfl
  | true=>
   have:=zNO 1 (trL q.Variable false l)
   rw [zNM] at this
   rw [cond_true,z40 (by omega)];rfl
 simp only [hr,zA]
 have hs:q.Strength=((q.Strength.toNat:Nat):Int):=by omega
 have hsl:slc [row 0 (trL q.Variable false l),z1I q.Backward (row 1 (trL q.Variable false l)),row 2 (trL q.Variable false l),row 3 (trL q.Variable false l)] 0 q.Strength=some ((rows q.Backward (trL q.Variable false l)).take q.Strength.toNat):=by
  rw [hs,zFC (by simp;omega)];rfl
 rw [hsl,zA,uX (by simp [rows];omega)]
 rfl
end Go.M
namespace Go.M
open Go.AV
theorem z41 {l:List Element} {o:Options} {x:List Int} (h:x∈wts l o):x.length≤l.length:=by
 unfold wts at h
 have h:=List.mem_of_mem_take h
 have key:∀k,(row k (trL o.Variable false l)).length≤l.length:=fun k=>by have:=zNO k (trL o.Variable false l);rwa [zNM] at this
 simp only [rows,List.mem_cons,List.not_mem_nil,or_false] at h
 rcases h with rfl | rfl | rfl | rfl
 exact key 0
 unfold z1I;split
 rw [List.length_reverse];exact key 1
 exact key 1
 exact key 2
 exact key 3
end Go.M
namespace Go.M
open Go.AV
def jn:Nat→List Int→List (List Int)→List Int
 | _,acc,[]=>acc
 | k,acc,x::xs=>jn (k+1) ((if 0 < k then acc++ [0] else acc)++x) xs
theorem zYR {N:Nat}:∀(l:List (List Int)) (k:Nat) (acc:List Int),(∀x∈l,x.length≤N)→(jn k acc l).length≤acc.length+l.length*(N+1)
 | [],_,acc,_=>by simp [jn]
 | x::xs,k,acc,h=>by
  have h1:=h x (by simp)
  have h2:=zYR xs (k+1) ((if 0 < k then acc++ [0] else acc)++x) (fun y hy=>h y (by simp [hy]))
  have h3:((if 0 < k then acc++ [0] else acc)++x).length≤acc.length+1+N:=by
   split <;> simp <;> omega
  simp only [jn,List.length_cons,Nat.add_mul]
  omega
theorem z8W {acc:List Int} {k:Nat} (h:acc.length+1≤4294967296):(cond (decide ((0:Int) < (k:Int))) ((app acc [0]).bind fun q=>some q) (some acc))=some (if 0 < k then acc++ [0] else acc):=by
 by_cases hk:0 < k
 have e:decide ((0:Int) < (k:Int))=true:=by simp;omega
 rw [e,cond_true,uX (by simpa using h),if_pos hk];rfl
 have e:decide ((0:Int) < (k:Int))=false:=by simp;omega
 rw [e,cond_false,if_neg hk]
section
variable {l:List (List Int)} {N:Nat} (hN:∀x∈l,x.length≤N) (hl:l.length≤1000000)
include hN hl
theorem z63:∀(m k:Nat) (acc:List Int),k+m=l.length→acc.length+m*(N+1)≤4294967296→zD (fun (x:Int×(List Int))=>vQ l x.1 x.2) ((k:Int),acc)=some (jn k acc (l.drop k))
 | 0,k,acc,h,_=>by
  rw [List.drop_of_length_le (by omega)]
  refine zL ?_
  simp only [vQ,jR (show l.length≤k by omega),cond_false,jn]
 | m+1,k,acc,h,ha=>by
  have hk:k < l.length:=by omega
  have hx:=hN _ (List.getElem_mem hk)
  rw [Nat.add_mul] at ha
  have h3:(if 0 < k then acc++ [0] else acc).length≤acc.length+1:=by split <;> simp
  rw [zR (x':=(((k+1:Nat):Int),(if 0 < k then acc++ [0] else acc)++l[k])) (by
   simp only [vQ,jL hk,cond_true,yH hk,zA,z8W (k:=k) (show acc.length+1≤4294967296 by omega),uX (show (if 0 < k then acc++ [0] else acc).length+l[k].length≤4294967296 by omega),zU (k:=k) (by omega)])]
  rw [z63 m (k+1) _ (by omega) (by rw [List.length_append];omega),List.drop_eq_getElem_cons hk]
  rfl
end
def idn (t:List Int):List Int:=t.flatMap fun c=>if 0≤c∧c≤1114111 then [c+1] else []
theorem z42 (c : Int) {acc : List Int} (h : acc.length + 1 ≤ 4294967296) : (cond (decide (0 ≤ c) && decide (c ≤ 1114111)) ((app acc [wi (c + 1)]).bind fun q => some q) (some acc)) = some (acc ++ if 0 ≤ c ∧ c ≤ 1114111 then [c + 1] else []) := by
  by_cases hc : 0 ≤ c ∧ c ≤ 1114111
  · have e : (decide (0 ≤ c) && decide (c ≤ 1114111)) = true := by simpa using hc
    rw [e, cond_true, uX (by simpa using h), if_pos hc, vT (by omega) (by omega)]; rfl
  · have e : (decide (0 ≤ c) && decide (c ≤ 1114111)) = false := by
      cases h : (decide (0 ≤ c) && decide (c ≤ 1114111)) with
      | false => rfl
      | true => exact absurd (by simpa using h) hc
    rw [e, cond_false, if_neg hc, List.append_nil]
theorem z1J (c:Int):(if 0≤c∧c≤1114111 then [c+1] else ([]:List Int)).length≤1:=by split <;> simp
theorem z64 {t:List Int} (hl:t.length≤1000000):∀(m k:Nat) (acc:List Int),k+m=t.length→acc.length+m≤4294967296→zD (fun (x:Int×(List Int))=>vR t x.1 x.2) ((k:Int),acc)=some (acc++idn (t.drop k))
 | 0,k,acc,h,_=>by
  rw [List.drop_of_length_le (by omega)]
  refine zL ?_
  simp only [vR,jR (show t.length≤k by omega),cond_false,idn,List.flatMap_nil,List.append_nil]
 | m+1,k,acc,h,ha=>by
  have hk:k < t.length:=by omega
  have h1:=z1J t[k]
  rw [zR (x':=(((k+1:Nat):Int),acc++if 0≤t[k]∧t[k]≤1114111 then [t[k]+1] else [])) (by
   simp only [vR,jL hk,cond_true,yH hk,zA,z4,z42 t[k] (show acc.length+1≤4294967296 by omega),zU (k:=k) (by omega)])]
  rw [z64 hl m (k+1) _ (by omega) (by rw [List.length_append];omega),List.drop_eq_getElem_cons hk]
  simp only [idn,List.flatMap_cons,List.append_assoc]
def z43 (o:Options) (el:List Element) (t:List Int):List Int:=jn 0 [] (wts el o)++if o.Identical=true then [0]++idn t else []
theorem z1K (l:List Element) (o:Options):(wts l o).length≤4:=by unfold wts;simp [rows];omega
theorem z1L (o:Options):zBP (zBP o)=zBP o:=z61 (zYM o)
section
variable {n:Norm} {c:Collation} (hn:NSm n) (hok:zC9 n) (hs:Sm c) (hg:∀g∈c.Groups,g.Name.length≤MX) {text:List Int} (ht:text.length≤2000) (hf:(zGA n false text).length≤2000)
include hn hok hs hg ht hf
theorem z44 (o:Options):zAS n c o text=some (z43 (zBP o) (wk c (zAV n) (zGM n false text)).1 (zGM n false text)):=by
 unfold zAS z43
 have hd:(zGM n false text).length≤2000:=by rw [zP8];exact hf
 have hel:=z4Z (n:=n) hs (text:=text) hd
 rw [show ({Strength:=o.Strength,Variable:=o.Variable,Backward:=o.Backward,Identical:=o.Identical}:Options)=o from rfl,zS7,zA,zQA hn hok hs hg ht hf,zA,show ({Strength:=(zBP o).Strength,Variable:=(zBP o).Variable,Backward:=(zBP o).Backward,Identical:=(zBP o).Identical}:Options)=zBP o from rfl,zKJ (by omega),z1L,zA]
 generalize (wk c (zAV n) (zGM n false text)).1=el at*
 have h4:=z1K el (zBP o)
 have hN:∀x∈wts el (zBP o),x.length≤1000000000:=fun x hx=>Nat.le_trans (z41 hx) hel
 have hk0:=z63 hN (by omega) (wts el (zBP o)).length 0 [] (by omega) (by simp;omega)
 rw [show ((0:Nat):Int)=0 from rfl,List.drop_zero] at hk0
 have hjl:=zYR (wts el (zBP o)) 0 [] hN
 simp only [List.length_nil] at hjl
 rw [hk0,zA]
 cases hi:(zBP o).Identical with
 | false=>simp
 | true=>
  have h5:(jn 0 [] (wts el (zBP o))).length≤4000000004:=by omega
  rw [Bool.not_true,cond_false,uX (by simp;omega),zA,zP9 hn hok ht hf,zA]
  have hk1:=z64 (t:=zGM n false text) (by omega) (zGM n false text).length 0 (jn 0 [] (wts el (zBP o))++ [0]) (by omega) (by simp;omega)
  rw [show ((0:Nat):Int)=0 from rfl,List.drop_zero] at hk1
  rw [hk1,zA,if_pos rfl,List.append_assoc]
end
def nZ:Norm:={Classes:=[],Decomp:=[],Excluded:={Ranges:=[]}}
def cZ:Collation:={Entries:=[{Codes:=[97],Elements:=[{Primary:=16,Secondary:=32,Tertiary:=2,Variable:=false}]},{Codes:=[98],Elements:=[{Primary:=17,Secondary:=32,Tertiary:=2,Variable:=false}]}],Groups:=[],Base:=100,Second:=32,Third:=2}
theorem z8X:NSm nZ:=⟨by decide,by decide,fun m hm=>(by cases hm),fun m hm=>(by cases hm),by decide⟩
theorem z65:zC9 nZ:=by unfold zC9 okSpan z1X nZ;simp
theorem z8Y:Sm cZ:=⟨by decide,by decide,by decide,by decide⟩
theorem zYS:usN nZ=nZ:=by unfold usN;split <;> rfl
theorem z66:zAV nZ= []:=by rw [zYL,zYS];rfl
theorem zS8:zGA nZ false [97,98]= [97,98]:=by unfold zGA;rw [zYS];decide
theorem z45:zGM nZ false [97,98]= [97,98]:=by unfold zGM;rw [zS8,zYS];decide
theorem z67:(wk cZ [] [97,98]).1= [{Primary:=16,Secondary:=32,Tertiary:=2,Variable:=false},{Primary:=17,Secondary:=32,Tertiary:=2,Variable:=false}]:=by decide
end Go.M
namespace Go.M
open Go.AV
theorem z46:xI [258]=some [0,0,1,2]:=by
 unfold xI
 have h0:zD (fun (x:Int×(List Int))=>xF [258] x.1 x.2) (0,[])=some [0,0,1,2]:=by
  rw [zR (x':=(1,[0,0,1,2])) (by rfl)]
  exact zL (by rfl)
 rw [h0];decide
theorem zS9:uW=some true:=by
 unfold uW
 have hw:=zKJ (l:=[({Primary:=16,Secondary:=32,Tertiary:=2,Variable:=false}:Element),({Primary:=17,Secondary:=32,Tertiary:=2,Variable:=false}:Element)]) (by simp) ({Strength:=2,Variable:=1,Backward:=false,Identical:=false}:Options)
 rw [hw,zA]
 have hk:=z44 z8X z65 z8Y (fun g hg=>by cases hg) (text:=[97,98]) (by simp) (by rw [zS8];simp) ({Strength:=2,Variable:=1,Backward:=false,Identical:=false}:Options)
 rw [z66,z45,z67] at hk
 have hv:z43 (zBP ({Strength:=2,Variable:=1,Backward:=false,Identical:=false}:Options)) [{Primary:=16,Secondary:=32,Tertiary:=2,Variable:=false},{Primary:=17,Secondary:=32,Tertiary:=2,Variable:=false}] [97,98]= [16,17,0,32,32]:=by decide
 rw [hv] at hk
 have s1:slc [({Primary:=16,Secondary:=32,Tertiary:=2,Variable:=false}:Element),({Primary:=17,Secondary:=32,Tertiary:=2,Variable:=false}:Element)] 0 1=some [{Primary:=16,Secondary:=32,Tertiary:=2,Variable:=false}]:=by decide
 have s2:slc [({Primary:=16,Secondary:=32,Tertiary:=2,Variable:=false}:Element),({Primary:=17,Secondary:=32,Tertiary:=2,Variable:=false}:Element)] 1 ([({Primary:=16,Secondary:=32,Tertiary:=2,Variable:=false}:Element),({Primary:=17,Secondary:=32,Tertiary:=2,Variable:=false}:Element)].length)=some [{Primary:=17,Secondary:=32,Tertiary:=2,Variable:=false}]:=by decide
 rw [s1,zA,s2,zA]
 have hk':zAS ({Classes:=[],Decomp:=[],Excluded:=(({Ranges:=[]}):Set)}:Norm) ({Entries:=[({Codes:=[97],Elements:=[{Primary:=16,Secondary:=32,Tertiary:=2,Variable:=false}]}:Entry),({Codes:=[98],Elements:=[{Primary:=17,Secondary:=32,Tertiary:=2,Variable:=false}]}:Entry)],Groups:=[],Base:=100,Second:=32,Third:=2}:Collation) ({Strength:=2,Variable:=1,Backward:=false,Identical:=false}:Options) [97,98]=some [16,17,0,32,32]:=hk
 have c1:xH ({Strength:=0,Variable:=0,Backward:=false,Identical:=false}:Options)=some 1:=by rw [zRM];decide
 have c2:xH ({Strength:=1,Variable:=0,Backward:=false,Identical:=false}:Options)=some 8:=by rw [zRM];decide
 have w2:(wts [({Primary:=16,Secondary:=32,Tertiary:=2,Variable:=false}:Element),({Primary:=17,Secondary:=32,Tertiary:=2,Variable:=false}:Element)] (zBP ({Strength:=2,Variable:=1,Backward:=false,Identical:=false}:Options))).length=2:=by decide
 have e1:zAR [16,17,0,32,32] [16,17,0,32,32]=some true:=by rw [zXR (by simp)];simp
 rw [hk',zA,z4,w2]
 simp only [e1,z46,c1,c2,z4,zDO,zA,Bool.and_self,decide_true,BEq.rfl,show decide (((2:Nat):Int)=2)=true from rfl]
end Go.M
namespace Go.M
open Go.AV
theorem z1M {x y:Int} (hx:0≤x∧x < 256) (hy:0≤y∧y < 256):(UInt8.ofNat x.toNat < UInt8.ofNat y.toNat)↔x < y:=by
 rw [UInt8.lt_iff_toNat_lt,UInt8.toNat_ofNat',UInt8.toNat_ofNat',Nat.mod_eq_of_lt (by omega),Nat.mod_eq_of_lt (by omega)]
 omega
theorem zTA {x y:Int} (hx:0≤x∧x < 256) (hy:0≤y∧y < 256) (h:UInt8.ofNat x.toNat=UInt8.ofNat y.toNat):x=y:=by
 have:=congrArg UInt8.toNat h
 rw [UInt8.toNat_ofNat',UInt8.toNat_ofNat',Nat.mod_eq_of_lt (by omega),Nat.mod_eq_of_lt (by omega)] at this
 omega
theorem zTB:∀(a b:List Int),(∀v∈a,0≤v∧v < 256)→(∀v∈b,0≤v∧v < 256)→(Op.bytesLess (zC8 a) (zC8 b)=true↔lx a b)
 | [],[],_,_=>by simp [Op.bytesLess,zC8,lx]
 | [],y::ys,_,_=>by simp [Op.bytesLess,zC8,lx]
 | x::xs,[],_,_=>by simp [Op.bytesLess,zC8,lx]
 | x::xs,y::ys,hx,hy=>by
  have hx0:=hx x (by simp)
  have hy0:=hy y (by simp)
  have ih:=zTB xs ys (fun v hv=>hx v (by simp [hv])) (fun v hv=>hy v (by simp [hv]))
  have e1:=z1M hx0 hy0
  have e2:UInt8.ofNat x.toNat=UInt8.ofNat y.toNat↔x=y:=⟨zTA hx0 hy0,fun e=>by rw [e]⟩
  simp only [zC8,List.map_cons,Op.bytesLess,Bool.or_eq_true,decide_eq_true_eq,Bool.and_eq_true,beq_iff_eq] at ih ⊢
  rw [e1,e2,ih]
  rfl
theorem zTC:∀(a b:List Int),(∀v∈a,0≤v∧v < 256)→(∀v∈b,0≤v∧v < 256)→(zC8 a=zC8 b↔a=b)
 | [],[],_,_=>by simp [zC8]
 | [],y::ys,_,_=>by simp [zC8]
 | x::xs,[],_,_=>by simp [zC8]
 | x::xs,y::ys,hx,hy=>by
  have ih:=zTC xs ys (fun v hv=>hx v (by simp [hv])) (fun v hv=>hy v (by simp [hv]))
  have e2:UInt8.ofNat x.toNat=UInt8.ofNat y.toNat↔x=y:=⟨zTA (hx x (by simp)) (hy y (by simp)),fun e=>by rw [e]⟩
  simp only [zC8,List.map_cons,List.cons.injEq] at ih ⊢
  rw [e2,ih]
def b4 (t:Int):List Int:=[t / 16777216 % 256,t / 65536 % 256,t / 256 % 256,t % 256]
theorem z8Z (t:Int):IntKind.u32.wrap t=t % 4294967296:=by
 unfold IntKind.wrap
 exact if_neg (fun h=>by rw [show IntKind.u32.signed=false from rfl] at h;cases h)
theorem u8w (t:Int):IntKind.u8.wrap t=t % 256:=by
 unfold IntKind.wrap
 exact if_neg (fun h=>by rw [show IntKind.u8.signed=false from rfl] at h;cases h)
theorem z80 (t:Int):wu t=t % 18446744073709551616:=by
 unfold wu IntKind.wrap
 exact if_neg (fun h=>by rw [show IntKind.u64.signed=false from rfl] at h;cases h)
theorem z1N {x:Int} (h:0≤x∧x≤2147483648):x=16777216*(x / 16777216 % 256)+65536*(x / 65536 % 256)+256*(x / 256 % 256)+x % 256:=by omega
theorem b4p (t:Int): [(IntKind.u8.wrap) (((IntKind.u32.wrap) t) / 2 ^ 24),(IntKind.u8.wrap) (((IntKind.u32.wrap) t) / 2 ^ 16),(IntKind.u8.wrap) (((IntKind.u32.wrap) t) / 2 ^ 8),(IntKind.u8.wrap) ((IntKind.u32.wrap) t)]=b4 t:=by
 simp only [z8Z,u8w,b4,show (2:Int) ^ 24=16777216 from rfl,show (2:Int) ^ 16=65536 from rfl,show (2:Int) ^ 8=256 from rfl,List.cons.injEq,and_true]
 refine ⟨?_,?_,?_,?_⟩ <;> omega
theorem b4r (t:Int): [(IntKind.u8.wrap) ((wu t) / 2 ^ 24),(IntKind.u8.wrap) ((wu t) / 2 ^ 16),(IntKind.u8.wrap) ((wu t) / 2 ^ 8),(IntKind.u8.wrap) (wu t)]=b4 t:=by
 simp only [z80,u8w,b4,show (2:Int) ^ 24=16777216 from rfl,show (2:Int) ^ 16=65536 from rfl,show (2:Int) ^ 8=256 from rfl,List.cons.injEq,and_true]
 refine ⟨?_,?_,?_,?_⟩ <;> omega
theorem bl0 {l:List Int} (hl:l.length≤1000000):∀(m k:Nat) (acc:List Int),k+m=l.length→acc.length≤4*k→zD (fun (x:Int×(List Int))=>xF l x.1 x.2) ((k:Int),acc)=some (acc++(l.drop k).flatMap b4)
 | 0,k,acc,h,_=>by
  rw [List.drop_of_length_le (by omega)]
  refine zL ?_
  simp only [xF,jR (show l.length≤k by omega),cond_false,List.flatMap_nil,List.append_nil]
 | m+1,k,acc,h,ha=>by
  have hk:k < l.length:=by omega
  rw [zR (x':=(((k+1:Nat):Int),acc++b4 l[k])) (by
   simp only [xF,jL hk,cond_true,yH hk,zA,b4p,uX (show acc.length+(b4 l[k]).length≤4294967296 by simp [b4];omega),zU (k:=k) (by omega)])]
  rw [bl0 hl m (k+1) _ (by omega) (by simp [b4];omega),List.drop_eq_getElem_cons hk]
  simp only [List.flatMap_cons,List.append_assoc]
theorem bl1 {l:List Int} (hl:l.length≤1000000):∀(m k:Nat) (acc:List Int),k+m=l.length→acc.length≤4*k→zD (fun (x:Int×(List Int))=>vS l x.1 x.2) ((k:Int),acc)=some (acc++(l.drop k).flatMap b4)
 | 0,k,acc,h,_=>by
  rw [List.drop_of_length_le (by omega)]
  refine zL ?_
  simp only [vS,jR (show l.length≤k by omega),cond_false,List.flatMap_nil,List.append_nil]
 | m+1,k,acc,h,ha=>by
  have hk:k < l.length:=by omega
  rw [zR (x':=(((k+1:Nat):Int),acc++b4 l[k])) (by
   simp only [vS,jL hk,cond_true,yH hk,zA,b4r,uX (show acc.length+(b4 l[k]).length≤4294967296 by simp [b4];omega),zU (k:=k) (by omega)])]
  rw [bl1 hl m (k+1) _ (by omega) (by simp [b4];omega),List.drop_eq_getElem_cons hk]
  simp only [List.flatMap_cons,List.append_assoc]
theorem zQC {l:List Int} (hl:l.length≤1000000):xI l=some (zC8 (l.flatMap b4)):=by
 unfold xI
 have:=bl0 hl l.length 0 [] (by omega) (by simp)
 rw [show ((0:Nat):Int)=0 from rfl] at this
 rw [this];simp
theorem zIL {l:List Int} (hl:l.length≤1000000):zAT l=some (zC8 (l.flatMap b4)):=by
 unfold zAT
 have:=bl1 hl l.length 0 [] (by omega) (by simp)
 rw [show ((0:Nat):Int)=0 from rfl] at this
 rw [this];simp
theorem zTD (l:List Int):∀v∈l.flatMap b4,0≤v∧v < 256:=by
 intro v hv
 obtain ⟨t,_,h⟩:=List.mem_flatMap.1 hv
 simp only [b4,List.mem_cons,List.not_mem_nil,or_false] at h
 rcases h with rfl | rfl | rfl | rfl <;> omega
theorem z2X:∀(a b:List Int),(∀v∈a,0≤v∧v≤2147483648)→(∀v∈b,0≤v∧v≤2147483648)→(lx (a.flatMap b4) (b.flatMap b4)↔lx a b)
 | [],[],_,_=>by simp [lx]
 | [],y::ys,_,_=>by simp [lx,b4]
 | x::xs,[],_,_=>by simp [lx,b4]
 | x::xs,y::ys,hx,hy=>by
  have hx0:=hx x (by simp)
  have hy0:=hy y (by simp)
  have ih:=z2X xs ys (fun v hv=>hx v (by simp [hv])) (fun v hv=>hy v (by simp [hv]))
  simp only [List.flatMap_cons,b4,List.cons_append,List.nil_append,lx]
  rw [ih]
  have d1:=z1N hx0
  have d2:=z1N hy0
  have q1:0≤x / 16777216 % 256∧x / 16777216 % 256 < 256∧0≤x / 65536 % 256∧x / 65536 % 256 < 256∧0≤x / 256 % 256∧x / 256 % 256 < 256∧0≤x % 256∧x % 256 < 256:=by omega
  have q2:0≤y / 16777216 % 256∧y / 16777216 % 256 < 256∧0≤y / 65536 % 256∧y / 65536 % 256 < 256∧0≤y / 256 % 256∧y / 256 % 256 < 256∧0≤y % 256∧y % 256 < 256:=by omega
  generalize x / 16777216 % 256=x3 at*
  generalize x / 65536 % 256=x2 at*
  generalize x / 256 % 256=x1 at*
  generalize x % 256=x0 at*
  generalize y / 16777216 % 256=y3 at*
  generalize y / 65536 % 256=y2 at*
  generalize y / 256 % 256=y1 at*
  generalize y % 256=y0 at*
  by_cases hL:lx xs ys
  simp only [hL,and_true];omega
  simp only [hL,and_false,or_false];omega
theorem zYT:∀(a b:List Int),(∀v∈a,0≤v∧v≤2147483648)→(∀v∈b,0≤v∧v≤2147483648)→(a.flatMap b4=b.flatMap b4↔a=b)
 | [],[],_,_=>by simp
 | [],y::ys,_,_=>by simp [b4]
 | x::xs,[],_,_=>by simp [b4]
 | x::xs,y::ys,hx,hy=>by
  have hx0:=hx x (by simp)
  have hy0:=hy y (by simp)
  have ih:=zYT xs ys (fun v hv=>hx v (by simp [hv])) (fun v hv=>hy v (by simp [hv]))
  simp only [List.flatMap_cons,b4,List.cons_append,List.nil_append,List.cons.injEq]
  rw [ih]
  have d1:=z1N hx0
  have d2:=z1N hy0
  by_cases hL:xs=ys
  simp only [hL,and_true]
  exact ⟨fun h=>by rw [d1,d2,h.1,h.2.1,h.2.2.1,h.2.2.2],fun h=>by rw [h];simp⟩
  simp only [hL,and_false]
theorem bys {a b : List Int} (ha : a.length ≤ 100) (hb : b.length ≤ 100) : ∀ (m k : Nat), k + m = a.length + b.length → ∃ y, zD (fun (x : Int) => k7 a b x) (k : Int) = some y ∧ (y = .inr true ∨ (y = .inl () ∧ ∀ v ∈ (a ++ b).drop k, 0 ≤ v ∧ v ≤ 2147483648))
  | 0, k, h => by
    refine ⟨.inl (), zL ?_, .inr ⟨rfl, by rw [List.drop_of_length_le (by simp; omega)]; intro v hv; cases hv⟩⟩
    rw [k7, vT (by omega) (by omega)]
    have e : decide ((k : Int) < (a.length : Int) + (b.length : Int)) = false := by simp; omega
    rw [e, cond_false]
  | m + 1, k, h => by
    have hk : k < (a ++ b).length := by simp; omega
    have e : decide ((k : Int) < wi ((a.length : Int) + (b.length : Int))) = true := by rw [vT (by omega) (by omega)]; simp; omega
    have hv : (cond (decide ((k : Int) < (a.length : Int))) ((kJ a (k : Int)).bind fun t48 => some t48) ((kJ b (wi ((k : Int) - (a.length : Int)))).bind fun t55 => some t55)) = some (a ++ b)[k] := by
      by_cases h1 : k < a.length
      · rw [jL h1, cond_true, yH h1, zA, List.getElem_append_left h1]
      · have e1 : wi ((k : Int) - (a.length : Int)) = ((k - a.length : Nat) : Int) := by rw [vT (by omega) (by omega)]; omega
        rw [jR (by omega), cond_false, e1, yH (by omega), zA, List.getElem_append_right (by omega)]
    by_cases h1 : (a ++ b)[k] < 0 ∨ 2147483648 < (a ++ b)[k]
    · have e1 : (decide ((a ++ b)[k] < 0) || decide (2147483648 < (a ++ b)[k])) = true := by simpa using h1
      refine ⟨.inr true, zL ?_, .inl rfl⟩
      simp only [k7, e, cond_true, hv, zA, z4, e1, zS9]
    · have e1 : (decide ((a ++ b)[k] < 0) || decide (2147483648 < (a ++ b)[k])) = false := by
        cases hh : (decide ((a ++ b)[k] < 0) || decide (2147483648 < (a ++ b)[k])) with
        | false => rfl
        | true => exact absurd (by simpa using hh) h1
      obtain ⟨y, h2, h3⟩ := bys ha hb m (k + 1) (by omega)
      refine ⟨y, ?_, ?_⟩
      · rw [zR (x' := ((k + 1 : Nat) : Int)) (by simp only [k7, e, cond_true, hv, zA, z4, e1, cond_false, zU (k := k) (by omega)])]
        exact h2
      · rcases h3 with h3 | ⟨h3, h4⟩
        · exact .inl h3
        · refine .inr ⟨h3, ?_⟩
          rw [List.drop_eq_getElem_cons hk]
          intro v hv
          rcases List.mem_cons.1 hv with rfl | hv
          · omega
          · exact h4 v hv
theorem law44_SortkeyBytes_true (a b:List Int) {q:Prop} (_:q) {q2:Prop} (_:q2):uA a b=some true:=by
 unfold uA
 rw [zS9]
 by_cases h1:100 < a.length
 have e:decide ((100:Int) < (a.length:Int))=true:=by simp;omega
 simp only [e,z4,Bool.true_or,cond_true,zA]
 by_cases h2:100 < b.length
 have e:decide ((100:Int) < (b.length:Int))=true:=by simp;omega
 simp only [e,z4,Bool.or_true,cond_true,zA]
 have e1:decide ((100:Int) < (a.length:Int))=false:=by simp;omega
 have e2:decide ((100:Int) < (b.length:Int))=false:=by simp;omega
 obtain ⟨y,hy,hp⟩:=bys (a:=a) (b:=b) (by omega) (by omega) (a.length+b.length) 0 (by omega)
 rw [show ((0:Nat):Int)=0 from rfl] at hy
 simp only [e1,e2,z4,Bool.or_self,cond_false,zQC (l:=a) (by omega),zQC (l:=b) (by omega),zIL (l:=a) (by omega),zIL (l:=b) (by omega),zA,BEq.rfl,Bool.not_true,Bool.not_false,zDO,hy]
 rcases hp with rfl | ⟨rfl,hp⟩
 rfl
 rw [List.drop_zero] at hp
 have pa:∀v∈a,0≤v∧v≤2147483648:=fun v hv=>hp v (by simp [hv])
 have pb:∀v∈b,0≤v∧v≤2147483648:=fun v hv=>hp v (by simp [hv])
 have r1:Op.bytesLess (zC8 (a.flatMap b4)) (zC8 (b.flatMap b4))=decide (zK5 a b < 0):=by
  rw [Bool.eq_iff_iff,zTB _ _ (zTD a) (zTD b),z2X a b pa pb,decide_eq_true_eq,zNB]
  exact (zDP a b 0).1.symm
 have r2:(zC8 (a.flatMap b4)==zC8 (b.flatMap b4))=decide (zK5 a b=0):=by
  rw [Bool.eq_iff_iff,beq_iff_eq,zTC _ _ (zTD a) (zTD b),zYT a b pa pb,decide_eq_true_eq,zNB]
  exact (zDP a b 0).2.symm
 simp only [Sum.elim_inl,zF9 (a:=a) (b:=b) (by omega),zA,r1,r2,BEq.rfl,Bool.and_self,zDO]
end Go.M


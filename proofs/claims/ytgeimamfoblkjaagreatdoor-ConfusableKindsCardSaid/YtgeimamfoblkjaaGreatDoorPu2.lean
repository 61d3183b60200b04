/- What the plain counterparts answer. Conditions: none. -/
import Derived.Test.YtgeimamfoblkjaaGreatDoorPu1
set_option linter.unusedSimpArgs false
set_option linter.unusedVariables false
set_option linter.unnecessarySimpa false
namespace Go.M
open Go.AV
section
variable {β:Type} [Inhabited β] (upd:List β→Nat→β)
def zL2:Nat→Nat→List β→List β
 | 0,_,out=>out
 | d+1,i,out=>zL2 d (i+1) (out.set i (upd out i))
def zG6 (n:Nat):Nat→List β→List β
 | 0,out=>out
 | k+1,out=>zG6 n k (zL2 upd n 0 out)
end
section
variable {β:Type} [Inhabited β] {upd:List β→Nat→β} {n:Nat} {Inv:List β→Prop}
theorem zN6 {out:List β} {i j:Nat} {x: β} (hi:i<out.length):nth (out.set i x) j=if j=i then x else nth out j:=by unfold nth;rw[List.getD_eq_getElem?_getD,List.getD_eq_getElem?_getD,List.getElem?_set];by_cases h:i=j;subst h;simp[hi];rw[if_neg h,if_neg (fun e=>h e.symm)]
theorem z6F {out:List β} {i:Nat} (hi:i<out.length):out.set i (nth out i)=out:=by rw[vU hi];simp
omit [Inhabited β] in
theorem zN7:∀(d i:Nat) (out:List β),(zL2 upd d i out).length=out.length
 | 0,_,_=>rfl
 | d+1,i,out=>by rw[zL2,zN7 d];simp
omit [Inhabited β] in
theorem zN8 (hi:∀i out,i<n→out.length=n→Inv out→Inv (out.set i (upd out i))):∀(d i:Nat) (out:List β),i+d=n→out.length=n→Inv out→Inv (zL2 upd d i out)
 | 0,_,_,_,_,h=>h
 | d+1,i,out,hd,hl,h=>by
  rw[zL2];exact zN8 hi d (i+1) _ (by omega) (by simp[hl]) (hi i out (by omega) hl h)
omit [Inhabited β] in
theorem zTM (hi:∀i out,i<n→out.length=n→Inv out→Inv (out.set i (upd out i))):∀(k:Nat) (out:List β),out.length=n→Inv out→Inv (zG6 upd n k out)∧(zG6 upd n k out).length=n
 | 0,_,hl,h=>⟨h,hl⟩
 | k+1,out,hl,h=>by
  rw[zG6];exact zTM hi k _ (by rw[zN7,hl]) (zN8 hi n 0 out (by omega) hl h)
theorem z3O {R R':Nat→Prop} {t:Nat→β} (hm:∀j,R j→R' j) (hi:∀i out,i<n→out.length=n→Inv out→Inv (out.set i (upd out i)))
  (hs:∀out i,i<n→out.length=n→Inv out→(∀j,j<n→R j→nth out j=t j)→R' i→upd out i=t i):
  ∀(d i:Nat) (out:List β),i+d=n→out.length=n→Inv out→(∀j,j<n→R j→nth out j=t j)→(∀j,j<i→R' j→nth out j=t j)→∀j,j<n→R' j→nth (zL2 upd d i out) j=t j
 | 0,i,out,hd,hl,h,h1,h2,j,hj,hr=>h2 j (by omega) hr
 | d+1,i,out,hd,hl,h,h1,h2,j,hj,hr=>by
  have hin:i<n:=by omega
  have hu:R' i→upd out i=t i:=hs out i hin hl h h1;rw[zL2];refine z3O hm hi hs d (i+1) _ (by omega) (by simp[hl]) (hi i out hin hl h) (fun j hj hr=>?_) (fun j hj hr=>?_) j hj hr
  ·rw[zN6 (by omega)]
   split
   ·rename_i e;subst e;exact hu (hm _ hr)
   ·exact h1 j hj hr
  ·rw[zN6 (by omega)]
   split
   ·rename_i e;subst e;exact hu hr
   ·exact h2 j (by omega) hr
theorem zTN {R:Nat→Nat→Prop} {t:Nat→β} (hm:∀r j,R r j→R (r+1) j) (hi:∀i out,i<n→out.length=n→Inv out→Inv (out.set i (upd out i)))
  (hs:∀r out i,i<n→out.length=n→Inv out→(∀j,j<n→R r j→nth out j=t j)→R (r+1) i→upd out i=t i):
  ∀(k r:Nat) (out:List β),out.length=n→Inv out→(∀j,j<n→R r j→nth out j=t j)→∀j,j<n→R (r+k) j→nth (zG6 upd n k out) j=t j
 | 0,_,_,_,_,h,j,hj,hr=>h j hj hr
 | k+1,r,out,hl,h,h1,j,hj,hr=>by
  rw[zG6];have:=z3O (R:=R r) (R':=R (r+1)) (hm r) hi (hs r) n 0 out (by omega) hl h h1 (fun j hj=>by omega);refine zTN hm hi hs k (r+1) _ (by rw[zN7,hl]) (zN8 hi n 0 out (by omega) hl h) this j hj ?_;rw[show r+1+k=r+(k+1) by omega];exact hr
omit [Inhabited β] in
theorem zL3 {X Y:Type} (mk:Nat→List β→X) {body:X→Option (Stp X Y)} (fin:List β→Y)
  (hb:∀i out,i<n→out.length=n→Inv out→body (mk i out)=some (.next (mk (i+1) (out.set i (upd out i)))))
  (hi:∀i out,i<n→out.length=n→Inv out→Inv (out.set i (upd out i)))
  (he:∀out,body (mk n out)=some (.done (fin out))):∀(d i:Nat) (out:List β),i+d=n→out.length=n→Inv out→zX body (mk i out)=some (fin (zL2 upd d i out))
 | 0,i,out,hd,hl,h=>by
  have:i=n:=by omega
  subst this;exact yI (he out)
 | d+1,i,out,hd,hl,h=>by
  rw[yQ (hb i out (by omega) hl h),zL2];exact zL3 mk fin hb hi he d (i+1) _ (by omega) (by simp[hl]) (hi i out (by omega) hl h)
omit [Inhabited β] in
theorem zL4 {X Y:Type} (mk:Nat→List β→X) {body:X→Option (Stp X Y)} (fin:List β→Y) {N:Nat}
  (hb:∀r out,r<N→out.length=n→Inv out→body (mk r out)=some (.next (mk (r+1) (zL2 upd n 0 out))))
  (hi:∀i out,i<n→out.length=n→Inv out→Inv (out.set i (upd out i)))
  (he:∀out,body (mk N out)=some (.done (fin out))):∀(k r:Nat) (out:List β),r+k=N→out.length=n→Inv out→zX body (mk r out)=some (fin (zG6 upd n k out))
 | 0,r,out,hd,hl,h=>by
  have:r=N:=by omega
  subst this;exact yI (he out)
 | k+1,r,out,hd,hl,h=>by
  rw[yQ (hb r out (by omega) hl h),zG6];exact zL4 mk fin hb hi he k (r+1) _ (by omega) (by rw[zN7,hl]) (zN8 hi n 0 out (by omega) hl h)
end
theorem zWB {A Y:Type} {p:Nat→A→Option Y}:∀{l:List A} {k:Nat} {y:Y},chk p l k=some y→∃j,∃h:j<l.length,p (k+j) l[j]=some y
 | [],_,_,h=>by cases h
 | x::l,k,y,h=>by
  unfold chk at h;cases hp:p k x with
  | some z=>
   rw[hp] at h;exact⟨0,by simp,by simpa[hp] using h⟩
  | none=>
   rw[hp] at h;obtain⟨j,hj,e⟩:=zWB h;exact⟨j+1,by simpa using hj,by rw[show k+(j+1)=k+1+j by omega];simpa using e⟩
theorem zRZ {A Y:Type} {p:Nat→A→Option Y}:∀{l:List A} {k j:Nat} (h:j<l.length),p (k+j) l[j]≠none→∃i,∃hi:i<l.length,i≤j∧chk p l k=p (k+i) l[i]
 | [],_,_,h,_=>by cases h
 | x::l,k,j,h,hp=>by
  unfold chk;cases hx:p k x with
  | some z=>exact⟨0,by simp,Nat.zero_le _,by simp[hx]⟩
  | none=>
   cases j with
   | zero=>exact absurd (by simpa using hx) hp
   | succ j=>
    obtain⟨i,hi,hij,e⟩:=zRZ (p:=p) (l:=l) (k:=k+1) (j:=j) (by simpa using h) (by rw[show k+1+j=k+(j+1) by omega];simpa using hp)
    exact⟨i+1,by simpa using hi,by omega,by rw[show k+(i+1)=k+1+i by omega];simpa using e⟩
def pM (c:Int) (b:Bool) (k:Nat) (m:Mapping):Option Nat:=if m.From=c∧(b ||(m.Tag== []))=true then some k else none
def fi (l:List Mapping) (c:Int) (b:Bool):Option Nat:=chk (pM c b) l 0
theorem zHN {l:List Mapping} {c:Int} {b:Bool} {i:Nat} (h:fi l c b=some i):i<l.length∧(nth l i).From=c∧(b ||((nth l i).Tag== []))=true:=by
 obtain⟨j,hj,e⟩:=zWB h;unfold pM at e;split at e;rename_i hp;injection e with e;have:i=j:=by omega
 subst this;rw[vU hj];exact⟨hj,hp⟩;cases e
theorem zY1 {l:List Mapping} {c:Int} {b:Bool} (h:fi l c b=none):∀m∈l,¬(m.From=c∧(b ||(m.Tag== []))=true):=by intro m hm hp;obtain⟨j,hj,rfl⟩:=List.getElem_of_mem hm;have:=zPE h j hj;unfold pM at this;rw[if_pos hp] at this;cases this
theorem zR0 {l:List Mapping} (hd:DS l) (c:Int) (b:Bool):(∃i,fi l c b=some i∧i<l.length∧(nth l i).From=c∧fnB l b c=some (nth l i).To)∨(fi l c b=none∧fnB l b c=none):=by
 cases hf:fi l c b with
 | some i=>
  obtain⟨h1,h2,h3⟩:=zHN hf;refine .inl ⟨i,rfl,h1,h2,?_⟩;have:=zDH hd (wC h1);rw[h2] at this;unfold fnB;rw[this];simp only[h3,if_true]
 | none=>
  refine .inr ⟨rfl,?_⟩;cases hn:fnB l b c with
  | none=>rfl
  | some to=>
   obtain⟨m,h1,_,h3⟩:=zG4 hn;obtain⟨h4,h5⟩:=zEL h1;exact absurd ⟨h5,h3⟩ (zY1 hf m h4)
def fiI (l:List Mapping) (c:Int) (b:Bool):Int:=match fi l c b with
 | some i=>(i:Int)
 | none=> -1
end Go.M
namespace Go.M
open Go.AV
section
variable {l:List Mapping} (hd:DS l)
def zK0 (l:List Mapping) (out:List Bool) (i:Nat):Bool:=(nth l i).To.all fun e=>match fi l e true with
 | some m=>nth out m
 | none=>true
def z0P (l:List Mapping) (out:List Bool):Prop:= ∀j,j<l.length→nth out j=true→WW l (nth l j).From
include hd
theorem z6H {out:List Bool} (h:z0P l out) {i:Nat} (hi:i<l.length) (hu:zK0 l out i=true):WW l (nth l i).From:=by
 refine zV2 fun e he=>?_;rw[zV1 hd (wC hi)] at he;have:=List.all_eq_true.1 hu e he;rcases zR0 hd e true with ⟨m,h1,h2,h3,_⟩ | ⟨h1,h2⟩
 rw[h1] at this;have:=h m h2 this;rw[h3] at this;exact this;cases hs:syl e with
 | true=>exact z8Y hd hs
 | false=>
  refine zTG ?_;unfold dep;rw[if_neg (by simp[hs])];rw[zPN] at h2;cases hf:l.find? (isF e) with
  | none=>rfl
  | some m=>rw[hf] at h2;cases h2
theorem zR1 (i:Nat) (out:List Bool) (hi:i<l.length) (hl:out.length=l.length) (h:z0P l out):z0P l (out.set i (zK0 l out i)):=by intro j hj hn;rw[zN6 (by omega)] at hn;split at hn;rename_i e;subst e;exact z6H hd h hi hn;exact h j hj hn
theorem z6I (r:Nat) (out:List Bool) (i:Nat) (hi:i<l.length) (_hl:out.length=l.length) (h1:∀j,j<l.length→DD l r (nth l j).From→nth out j=true) (hr:DD l (r+1) (nth l i).From):zK0 l out i=true:=by
 refine List.all_eq_true.2 fun e he=>?_;have:=hr (nth l i) (zDH hd (wC hi)) e he;rcases zR0 hd e true with ⟨m,e1,e2,e3,_⟩ | ⟨e1,_⟩
 rw[e1];exact h1 m e2 (by rw[e3];exact this)
 rw[e1]
theorem z3P:(∀j,j<l.length→nth (zG6 (zK0 l) l.length l.length (List.replicate l.length false)) j=true)↔∀m∈l,WW l m.From:=by
 have h0:z0P l (List.replicate l.length false):=by
  intro j hj hn;rw[vU (by simpa using hj)] at hn;simp at hn
 constructor;intro h;have hv:=(zTM (upd:=zK0 l) (n:=l.length) (Inv:=z0P l) (zR1 hd) l.length _ (by simp) h0).1;rw[←zAK (p:=fun m:Mapping=>WW l m.From)];exact fun k hk=>hv k hk (h k hk);intro H j hj;have hp:=z27 hd H;refine zTN (upd:=zK0 l) (n:=l.length) (Inv:=z0P l) (R:=fun r j=>j<l.length∧DD l r (nth l j).From) (t:=fun _=>true) (fun r j h=>⟨h.1,zIU h.2⟩) (zR1 hd) (fun r out i hi hl _ h1 hr=>z6I hd r out i hi hl (fun j hj hr=>h1 j hj ⟨hj,hr⟩) hr.2) l.length 0 _ (by simp) h0 (fun j hj hr=>?_) j hj ⟨hj,by rw[Nat.zero_add];exact hp _ (wC hj)⟩
 have:l.find? (isF (nth l j).From)=none:=hr.2;rw[zDH hd (wC hj)] at this;cases this
end
section
variable {l:List Mapping} (hd:DS l) (hD:∀c,DD l l.length c) {b:Bool}
def lenOf (l:List Mapping) (b:Bool) (out:List Int) (e:Int):Int:=match fi l e b with
 | some m=>nth out m
 | none=>((hdE e).length:Int)
def updL (l:List Mapping) (b:Bool) (out:List Int) (i:Nat):Int:=if (b ||((nth l i).Tag== []))=true then min (max (((nth l i).To.map (lenOf l b out)).sum) 1) 65 else 1
def zTO (out:List Int):Prop:= ∀x∈out,0≤x∧x≤65
theorem z6J (out:List Int) (i:Nat):0≤updL l b out i∧updL l b out i≤65:=by unfold updL;split<;>omega
theorem zMZ (i:Nat) (out:List Int) (_hi:i<l.length) (_hl:out.length=l.length) (h:zTO out):zTO (out.set i (updL l b out i)):=by
 intro x hx;rcases List.mem_or_eq_of_mem_set hx with hx | rfl
 exact h x hx;exact z6J out i
include hd hD
theorem z6K {i:Nat} (hi:i<l.length):wt l b (nth l i).From=if (b ||((nth l i).Tag== []))=true then min (max (((nth l i).To.map (wt l b)).sum) 1) 65 else 1:=by
 rw[zRX hD];unfold fnB;rw[zDH hd (wC hi)];by_cases ht:(b ||((nth l i).Tag== []))=true;simp only[ht,if_true];have hs:=zPL hd (wC hi);have e1:hdE (nth l i).From= [(nth l i).From]:=by unfold hdE;rw[if_neg (by simp[hs])]
 rw[if_neg ht];simp only[e1];rw[if_neg ht];rfl
omit hD in
theorem z3Q {out:List Int} {e:Int} (hD':fnB l b e=none→wt l b e=((hdE e).length:Int)) (h:∀m,m<l.length→(nth l m).From=e→nth out m=wt l b e):lenOf l b out e=wt l b e:=by
 unfold lenOf;rcases zR0 hd e b with ⟨m,e1,e2,e3,_⟩ | ⟨e1,e2⟩
 rw[e1];exact h m e2 e3;rw[e1,hD' e2]
theorem z6L (r:Nat) (out:List Int) (i:Nat) (hi:i<l.length) (h1:∀j,j<l.length→DD l r (nth l j).From→nth out j=wt l b (nth l j).From) (hr:DD l (r+1) (nth l i).From):updL l b out i=wt l b (nth l i).From:=by
 rw[z6K hd hD hi];unfold updL;split
 ·have:(nth l i).To.map (lenOf l b out)=(nth l i).To.map (wt l b):=List.map_congr_left fun e he=>by
   have hde:=hr (nth l i) (zDH hd (wC hi)) e he;exact z3Q hd (fun hn=>by rw[zRX hD,hn]) fun m hm hf=>by rw[←hf];exact h1 m hm (by rw[hf];exact hde)
  rw[this]
 ·rfl
theorem zY2 (j:Nat) (hj:j<l.length):nth (zG6 (updL l b) l.length l.length (List.replicate l.length 0)) j=wt l b (nth l j).From:=by
 have h0:zTO (List.replicate l.length 0):=fun x hx=>by rw[(List.mem_replicate.1 hx).2];omega
 refine zTN (upd:=updL l b) (n:=l.length) (Inv:=zTO) (R:=fun r j=>j<l.length∧DD l r (nth l j).From) (t:=fun j=>wt l b (nth l j).From) (fun r j h=>⟨h.1,zIU h.2⟩) zMZ (fun r out i hi hl _ h1 hr=>z6L hd hD r out i hi (fun j hj hr=>h1 j hj ⟨hj,hr⟩) hr.2) l.length 0 _ (by simp) h0 (fun j hj hr=>?_) j hj ⟨hj,by rw[Nat.zero_add];exact hD _⟩
 have:l.find? (isF (nth l j).From)=none:=hr.2;rw[zDH hd (wC hj)] at this;cases this
end
section
variable {l:List Mapping} (hd:DS l) (hD:∀c,DD l l.length c) {b:Bool}
def zFQ (l:List Mapping) (b:Bool) (out:List (List Int)) (e:Int):List Int:=match fi l e b with
 | some m=>nth out m
 | none=>hdE e
def zPP (l:List Mapping) (b:Bool) (out:List (List Int)) (i:Nat):List Int:=if (b ||((nth l i).Tag== []))=true then (nth l i).To.flatMap (zFQ l b out) else nth out i
def zQS (l:List Mapping) (b:Bool) (out:List (List Int)):Prop:= ∀j,j<l.length→(nth out j).length≤(fu l b (nth l j).From).length
include hd hD
theorem zY3 {i:Nat} (hi:i<l.length) (ht:(b ||((nth l i).Tag== []))=true):fu l b (nth l i).From=(nth l i).To.flatMap (fu l b):=by rw[zNF hD];unfold fnB;rw[zDH hd (wC hi)];simp only[ht,if_true]
theorem zY4 {out:List (List Int)} (h:zQS l b out) (e:Int):(zFQ l b out e).length≤(fu l b e).length:=by
 unfold zFQ;rcases zR0 hd e b with ⟨m,e1,e2,e3,_⟩ | ⟨e1,e2⟩
 rw[e1];have:=h m e2;rw[e3] at this;exact this;rw[e1,zNF hD,e2];exact Nat.le_refl _
omit hd hD in
theorem zWC {f g:Int→List Int} (h:∀e,(f e).length≤(g e).length):∀L:List Int,(L.flatMap f).length≤(L.flatMap g).length
 | []=>Nat.le_refl _
 | x::L=>by have:=zWC h L;have:=h x;simp only[List.flatMap_cons,List.length_append];omega
theorem z3R {out:List (List Int)} (h:zQS l b out) {i:Nat} (hi:i<l.length):(zPP l b out i).length≤(fu l b (nth l i).From).length:=by unfold zPP;split;rename_i ht;rw[zY3 hd hD hi ht];exact zWC (zY4 hd hD h) _;exact h i hi
theorem zM0 (i:Nat) (out:List (List Int)) (hi:i<l.length) (hl:out.length=l.length) (h:zQS l b out):zQS l b (out.set i (zPP l b out i)):=by intro j hj;rw[zN6 (by omega)];split;rename_i e;subst e;exact z3R hd hD h hi;exact h j hj
omit hD in
theorem z6M (hD:∀c,DD l l.length c) (r:Nat) (out:List (List Int)) (i:Nat) (hi:i<l.length) (h1:∀j,j<l.length→(b ||((nth l j).Tag== []))=true→DD l r (nth l j).From→nth out j=fu l b (nth l j).From) (ht:(b ||((nth l i).Tag== []))=true) (hr:DD l (r+1) (nth l i).From):zPP l b out i=fu l b (nth l i).From:=by
 rw[zY3 hd hD hi ht];unfold zPP;rw[if_pos ht];refine zKZ fun e he=>?_;have hde:=hr (nth l i) (zDH hd (wC hi)) e he;unfold zFQ;cases hf:fi l e b with
 | some m=>
  obtain⟨e1,e2,e3⟩:=zHN hf;show nth out m=_;rw[h1 m e1 e3 (by rw[e2];exact hde),e2]
 | none=>
  rcases zR0 hd e b with ⟨m,e1,_⟩ | ⟨_,e2⟩;rw[hf] at e1;cases e1;show hdE e=_;rw[zNF hD,e2]
def zWD (l:List Mapping) (b:Bool):List (List Int):=zG6 (zPP l b) l.length l.length (List.replicate l.length [])
omit hd hD in
theorem z7M:zQS l b (List.replicate l.length []):=by intro j hj;rw[vU (by simpa using hj)];simp
theorem z9F (j:Nat) (hj:j<l.length) (ht:(b ||((nth l j).Tag== []))=true):nth (zWD l b) j=fu l b (nth l j).From:=by
 refine zTN (upd:=zPP l b) (n:=l.length) (Inv:=zQS l b) (R:=fun r j=>j<l.length∧(b ||((nth l j).Tag== []))=true∧DD l r (nth l j).From) (t:=fun j=>fu l b (nth l j).From) (fun r j h=>⟨h.1,h.2.1,zIU h.2.2⟩) (zM0 hd hD) (fun r out i hi hl _ h1 hr=>z6M hd hD r out i hi (fun j hj ht hr=>h1 j hj ⟨hj,ht,hr⟩) hr.2.1 hr.2.2) l.length 0 _ (by simp) z7M (fun j hj hr=>?_) j hj ⟨hj,ht,by rw[Nat.zero_add];exact hD _⟩
 have:l.find? (isF (nth l j).From)=none:=hr.2.2;rw[zDH hd (wC hj)] at this;cases this
theorem z6N (e:Int):zFQ l b (zWD l b) e=fu l b e:=by
 unfold zFQ;cases hf:fi l e b with
 | some m=>
  obtain⟨e1,e2,e3⟩:=zHN hf;show nth (zWD l b) m=_;rw[z9F hd hD m e1 e3,e2]
 | none=>
  rcases zR0 hd e b with ⟨m,e1,_⟩ | ⟨_,e2⟩;rw[hf] at e1;cases e1;show hdE e=_;rw[zNF hD,e2]
end
end Go.M
namespace Go.M
open Go.AV
def plF (n:Int):Bool→List Int→Bool×List Int
 | true,l=>(true,l)
 | false,[]=>(false,[])
 | false,x::l=>if n≤x then (true,if n<x then n::x::l else x::l) else ((plF n false l).1,x::(plF n false l).2)
def plE (n:Int):List Int→List Int
 | []=>[n]
 | x::l=>if n≤x then (if n<x then n::x::l else x::l) else x::plE n l
theorem z7N (n:Int):∀l:List Int,(if (plF n false l).1=true then (plF n false l).2 else (plF n false l).2++ [n])=plE n l
 | []=>rfl
 | x::l=>by
  have:=z7N n l;unfold plF plE;by_cases h:n≤x;simp[h];simp only[h,if_false];rw[←this];split<;>simp
theorem zXN {l:List Int} {n:Int} (hl:l.length≤30000):∀(d k:Nat) (b:Bool) (out:List Int),l.length-k=d→k≤l.length→out.length≤2*k→
  zX (fun (x:Bool×Int×(List Int))=>j8 l n x.1 x.2.1 x.2.2) (b,(k:Int),out)=some ((plF n b (l.drop k)).1,out++(plF n b (l.drop k)).2):=by
 intro d
 induction d with
 | zero=>
  intro k b out h1 h2 h3;rw[List.drop_of_length_le (show l.length≤k by omega)];refine yI ?_;simp only[j8,jM (show l.length≤k by omega),cond_false];cases b<;>simp[plF]
 | succ d ih=>
  intro k b out h1 h2 h3;have hk:k<l.length:=by omega
  have ha:∀{o:List Int} (x:Int),o.length≤2*k+1→app o [x]=some (o++ [x]):=fun {o} x ho=>zAO (by simp;omega)
  rw[List.drop_eq_getElem_cons hk];have nx:∀(b':Bool) (o':List Int),o'.length≤2*(k+1)→j8 l n b (k:Int) out=some (.next (b',((k+1:Nat):Int),o'))→(plF n b' (l.drop (k+1))).1=(plF n b (l[k]::l.drop (k+1))).1→o'++(plF n b' (l.drop (k+1))).2=out++(plF n b (l[k]::l.drop (k+1))).2→
    zX (fun (x:Bool×Int×(List Int))=>j8 l n x.1 x.2.1 x.2.2) (b,(k:Int),out)=some ((plF n b (l[k]::l.drop (k+1))).1,out++(plF n b (l[k]::l.drop (k+1))).2):=by
   intro b' o' ho hb e1 e2;rw[yQ (body:=fun (x:Bool×Int×(List Int))=>j8 l n x.1 x.2.1 x.2.2) (x:=(b,(k:Int),out)) hb,ih (k+1) b' o' (by omega) (by omega) ho,e1,e2]
  cases b with
  | true=>
   refine nx true (out++ [l[k]]) (by simp;omega) ?_ ?_ ?_
   ·simp only[j8,k6 hk,cond_true,yE,Bool.not_true,zBC,zH,Bool.false_and,cond_false,yW hk,ha _ (show out.length≤2*k+1 by omega),yB (k:=k) (by omega)]
   ·simp[plF]
   ·simp[plF]
  | false=>
   by_cases h4:n≤l[k]
   ·by_cases h5:n<l[k]
    ·refine nx true (out++ [n]++ [l[k]]) (by simp;omega) ?_ ?_ ?_
     ·simp only[j8,k6 hk,cond_true,yE,Bool.not_false,wO,zH,Bool.true_and,yW hk,h4,h5,decide_true,ha _ (show out.length≤2*k+1 by omega),ha _ (show (out++ [n]).length≤2*k+1 by simp;omega),yB (k:=k) (by omega)]
     ·simp[plF,h4]
     ·simp[plF,h4,h5]
    ·refine nx true (out++ [l[k]]) (by simp;omega) ?_ ?_ ?_
     ·simp only[j8,k6 hk,cond_true,yE,Bool.not_false,wO,zH,Bool.true_and,yW hk,h4,h5,decide_true,decide_false,cond_false,ha _ (show out.length≤2*k+1 by omega),yB (k:=k) (by omega)]
     ·simp[plF,h4]
     ·simp[plF,h4,h5]
   ·refine nx false (out++ [l[k]]) (by simp;omega) ?_ ?_ ?_
    ·simp only[j8,k6 hk,cond_true,yE,Bool.not_false,wO,zH,Bool.true_and,yW hk,h4,decide_false,cond_false,ha _ (show out.length≤2*k+1 by omega),yB (k:=k) (by omega)]
    ·simp[plF,h4]
    ·simp[plF,h4]
theorem zY5 (n:Int):∀l:List Int,(plF n false l).2.length≤l.length+1
 | []=>by simp[plF]
 | x::l=>by
  have:=zY5 n l;unfold plF;by_cases h:n≤x;by_cases h5:n<x<;>simp[h,h5];simp only[h,if_false,List.length_cons];omega
theorem zL5 {l:List Int} (hl:l.length≤30000) (n:Int):zCZ l n=some (plE n l):=by
 unfold zCZ;have h:=zXN (n:=n) hl l.length 0 false [] (by omega) (by omega) (by simp);have hlen:=zY5 n l;rw[List.drop_zero,List.nil_append] at h;have h':zX (fun (x:Bool×Int×(List Int))=>j8 l n x.1 x.2.1 x.2.2) (false,0,[])=some ((plF n false l).1,(plF n false l).2):=h;rw[h',zH,←z7N];cases (plF n false l).1 with
 | true=>rfl
 | false=>simp only[Bool.not_false,cond_true,zAO (show (plF n false l).2.length+ [n].length≤4294967296 by simp;omega),zH];rfl
def Gd (l:List Int):Prop:=l.Pairwise (· < ·)∧∀x∈l,0≤x∧x≤1114111
theorem zTP (n:Int):∀{l:List Int} {x:Int},x∈plE n l→x=n∨x∈l
 | [],x,h=>by simp[plE] at h;exact .inl h
 | y::l,x,h=>by
  unfold plE at h;split at h;split at h;rcases List.mem_cons.1 h with h | h
  exact .inl h;exact .inr h;exact .inr h;rcases List.mem_cons.1 h with h | h
  exact .inr (by simp[h]);rcases zTP n h with h | h
  exact .inl h;exact .inr (by simp[h])
theorem zY6 (n:Int):∀{l:List Int},l.Pairwise (· < ·)→(plE n l).Pairwise (· < ·)
 | [],_=>by simp[plE]
 | y::l,h=>by
  obtain⟨h1,h2⟩:=List.pairwise_cons.1 h;unfold plE;split;split;rename_i hn;refine List.pairwise_cons.2 ⟨fun z hz=>?_,h⟩;rcases List.mem_cons.1 hz with rfl | hz;exact hn;have:=h1 z hz;omega;exact h;rename_i hn;refine List.pairwise_cons.2 ⟨fun z hz=>?_,zY6 n h2⟩;rcases zTP n hz with rfl | hz;omega;exact h1 z hz
theorem zM1 {n:Int} (hn:0≤n∧n≤1114111) {l:List Int} (h:Gd l):Gd (plE n l):=by
 refine⟨zY6 n h.1,fun x hx=>?_⟩;rcases zTP n hx with rfl | hx
 exact hn;exact h.2 x hx
theorem zJ3 (n:Int):∀l:List Int,(plE n l).length≤l.length+1
 | []=>by simp[plE]
 | x::l=>by
  have:=zJ3 n l;unfold plE;split;split<;>simp;simp only[List.length_cons];omega
theorem zTQ {n:Int}:∀{l:List Int},(∀x∈l,x<n)→plE n l=l++ [n]
 | [],_=>rfl
 | y::l,h=>by
  have hy:=h y (by simp);unfold plE;rw[if_neg (by omega),zTQ fun x hx=>h x (by simp[hx])];rfl
def cuS (c:List Int) (r:Range):List Int:=if 0≤r.Hi∧r.Hi<1114111 then plE (r.Hi+1) (if vld r.Lo=true then plE r.Lo c else c) else (if vld r.Lo=true then plE r.Lo c else c)
theorem zY7 (c:List Int) (r:Range):(cuS c r).length≤c.length+2:=by
 have h1:=zJ3 r.Lo c;unfold cuS;split
 ·
  have h2:=zJ3 (r.Hi+1) (if vld r.Lo=true then plE r.Lo c else c);split at h2<;>split<;>simp_all<;>omega
 · split<;>omega
theorem z9G {c:List Int} {r:Range} (h:Gd c):Gd (cuS c r):=by
 have h1:Gd (if vld r.Lo=true then plE r.Lo c else c):=by
  split;rename_i hv;unfold vld at hv;simp only[Bool.and_eq_true,decide_eq_true_eq] at hv;exact zM1 hv h;exact h
 unfold cuS;split;exact zM1 (by omega) h1;exact h1
def cuE (l:List Range) (c:List Int):List Int:=l.foldl cuS c
theorem zTR:∀(l:List Range) {c:List Int},Gd c→Gd (cuE l c)
 | [],_,h=>h
 | r::l,_,h=>zTR l (z9G h)
theorem zTS:∀(l:List Range) (c:List Int),(cuE l c).length≤c.length+2*l.length
 | [],c=>by simp[cuE]
 | r::l,c=>by
  have h1:=zTS l (cuS c r);have h2:=zY7 c r;show (cuE l (cuS c r)).length≤_;simp only[List.length_cons];omega
theorem z0R {s:Set} (hl:s.Ranges.length≤12):∀(d k:Nat) (c:List Int),s.Ranges.length-k=d→k≤s.Ranges.length→c.length≤100+2*k→
  zX (fun (x:(List Int)×Int)=>vC s x.1 x.2) (c,(k:Int))=some (cuE (s.Ranges.drop k) c):=by
 intro d
 induction d with
 | zero=>
  intro k c h1 h2 h3;rw[List.drop_of_length_le (show s.Ranges.length≤k by omega)];refine yI ?_;simp only[vC,jM (show s.Ranges.length≤k by omega),cond_false];rfl
 | succ d ih=>
  intro k c h1 h2 h3;have hk:k<s.Ranges.length:=by omega
  have hs:=zY7 c s.Ranges[k];have hb:vC s c (k:Int)=some (.next (cuS c s.Ranges[k],((k+1:Nat):Int))):=by
   have hp:=zJ3 s.Ranges[k].Lo c;simp only[vC,k6 hk,cond_true,yW hk,zH,zFO,yE,yB (k:=k) (by omega),zL5 (show c.length≤30000 by omega)];unfold cuS;by_cases hv:vld s.Ranges[k].Lo=true
   ·simp only[hv,cond_true,zH,if_true]
    by_cases ha:0≤s.Ranges[k].Hi
    ·by_cases hc:s.Ranges[k].Hi<1114111
     ·simp only[ha,hc,decide_true,Bool.and_self,cond_true,and_self,if_true]
      rw[wN (n:=s.Ranges[k].Hi+1) (by omega) (by omega),zL5 (by omega)];rfl
     ·simp[ha,hc]
    ·simp[ha]
   ·simp only[hv,Bool.false_eq_true,if_false,cond_false,zH]
    by_cases ha:0≤s.Ranges[k].Hi
    ·by_cases hc:s.Ranges[k].Hi<1114111
     ·simp only[ha,hc,decide_true,Bool.and_self,cond_true,and_self,if_true]
      rw[wN (n:=s.Ranges[k].Hi+1) (by omega) (by omega),zL5 (by omega)];rfl
     ·simp[ha,hc]
    ·simp[ha]
  rw[yQ (body:=fun (x:(List Int)×Int)=>vC s x.1 x.2) (x:=(c,(k:Int))) hb,ih (k+1) _ (by omega) (by omega) (by omega),List.drop_eq_getElem_cons hk];rfl
theorem zY8 {s:Set} (hl:s.Ranges.length≤12) {c:List Int} (hc:c.length≤100):zES c s=some (plE 0 (cuE s.Ranges c)):=by unfold zES;have h:=z0R hl s.Ranges.length 0 c (by omega) (by omega) (by omega);rw[List.drop_zero] at h;have h':zX (fun (x:(List Int)×Int)=>vC s x.1 x.2) (c,0)=some (cuE s.Ranges c):=h;have:=zTS s.Ranges c;rw[h',zH,zL5 (by omega)];rfl
def zE0 (l:List Range) (c:Int):Bool:=l.any fun r=>vld c&&decide (r.Lo≤c)&&decide (c≤r.Hi)
theorem z3S {s:Set} (hl:s.Ranges.length≤30000) (c:Int):zET s c=some (zE0 s.Ranges c):=by
 unfold zET;have h:=jD (body:=fun (x:Int)=>zDD s c x) s.Ranges.length (fun k=> ¬(vld c&&decide ((nth s.Ranges k).Lo≤c)&&decide (c≤(nth s.Ranges k).Hi))=true) (fun y=>y=true) (fun k hk=>by
  simp only[zDD,k6 hk,cond_true,zFO,zH,yE,yR hk,yB (k:=k) (by omega)];cases hv:vld c with
  | false=>simp only[zBC,zH,Bool.false_and,cond_false];exact .inl ⟨by simp,trivial⟩
  | true=>
   simp only[wO,zH,Bool.true_and];by_cases h1:(nth s.Ranges k).Lo≤c;simp only[h1,decide_true,wO,zH,Bool.true_and];exact wP (by simp) rfl;simp only[h1,decide_false,zBC,zH,Bool.false_and,cond_false];exact .inl ⟨by simp,trivial⟩) (fun k hk=>by simp only[zDD,jM hk,cond_false])
 rw[zAK (p:=fun r:Range=> ¬(vld c&&decide (r.Lo≤c)&&decide (c≤r.Hi))=true)] at h;rcases h with ⟨h,p⟩ | ⟨y,rfl,h,p⟩
 rw[h];have:zE0 s.Ranges c=false:=by unfold zE0;rw[List.any_eq_false];exact p
 rw[this];rfl;rw[h];have:zE0 s.Ranges c=true:=by
  cases he:zE0 s.Ranges c with
  | true=>rfl
  | false=>exfalso;apply p;unfold zE0 at he;rw[List.any_eq_false] at he;exact he
 rw[this];rfl
def nxt:List Int→Int
 | []=>1114111
 | d::_=>d-1
def coF (has:Int→Bool):List Int→Bool→List Range→List Range
 | [],_,o=>o
 | c::cs,op,o=>if has c=true then (if op=true then coF has cs true (match o with
   | q::o'=>{q with Hi:=nxt cs}::o'
   | []=>[]) else coF has cs true ({Lo:=c,Hi:=nxt cs}::o)) else coF has cs false o
theorem z6O {C:List Int} {s:Set} (hl:s.Ranges.length≤12) (hC:C.length≤200) (hg:Gd C):∀(d k:Nat) (op:Bool) (o:List Range),C.length-k=d→k≤C.length→o.length≤k→(op=true→o≠[])→
  zX (fun (x:Bool×Int×(List Range))=>jW C s {Ranges:=[]} 1 x.1 x.2.1 x.2.2) (op,(k:Int),o.reverse)=some (coF (zE0 s.Ranges) (C.drop k) op o).reverse:=by
 intro d
 induction d with
 | zero=>
  intro k op o h1 h2 h3 h4;rw[List.drop_of_length_le (show C.length≤k by omega)];refine yI ?_;simp only[jW,jM (show C.length≤k by omega),cond_false];rfl
 | succ d ih=>
  intro k op o h1 h2 h3 h4;have hk:k<C.length:=by omega
  have he:zET {Ranges:=[]} C[k]=some false:=by rw[z3S (by simp)];rfl
  have hnx:(cond (decide (((k+1:Nat):Int)<(C.length:Int))) ((kV C ((k+1:Nat):Int)).bind fun t31=>some (wi (t31-1))) (some 1114111):Option Int)=some (nxt (C.drop (k+1))):=by
   by_cases hk1:k+1<C.length
   ·have:=hg.2 _ (List.getElem_mem hk1)
    rw[k6 hk1,cond_true,yW hk1,zH,wN (by omega) (by omega),List.drop_eq_getElem_cons hk1];rfl
   ·rw[jM (by omega),cond_false,List.drop_of_length_le (by omega)]
    rfl
  rw[List.drop_eq_getElem_cons hk];have nx:∀(op':Bool) (o':List Range),o'.length≤k+1→(op'=true→o'≠[])→jW C s {Ranges:=[]} 1 op (k:Int) o.reverse=some (.next (op',((k+1:Nat):Int),o'.reverse))→coF (zE0 s.Ranges) (C.drop (k+1)) op' o'=coF (zE0 s.Ranges) (C[k]::C.drop (k+1)) op o→
    zX (fun (x:Bool×Int×(List Range))=>jW C s {Ranges:=[]} 1 x.1 x.2.1 x.2.2) (op,(k:Int),o.reverse)=some (coF (zE0 s.Ranges) (C[k]::C.drop (k+1)) op o).reverse:=by
   intro op' o' ho hne hb e;rw[yQ (body:=fun (x:Bool×Int×(List Range))=>jW C s {Ranges:=[]} 1 x.1 x.2.1 x.2.2) (x:=(op,(k:Int),o.reverse)) hb,ih (k+1) op' o' (by omega) (by omega) ho hne,e]
  have hb0:jW C s {Ranges:=[]} 1 op (k:Int) o.reverse=((cond (zE0 s.Ranges C[k]&&op) ((kV o.reverse (wi ((o.reverse.length:Int)-1))).bind fun t59=>(zBE o.reverse (wi ((o.reverse.length:Int)-1)) ({t59 with Hi:=nxt (C.drop (k+1))})).bind fun r4160_4=>some r4160_4) (some o.reverse)).bind fun (y3:List Range)=>
    (cond (zE0 s.Ranges C[k]&& !op) ((app y3 [({Lo:=C[k],Hi:=nxt (C.drop (k+1))}:Range)]).bind fun r=>some r) (some y3)).bind fun (y5:List Range)=>some (Stp.next (zE0 s.Ranges C[k],((k+1:Nat):Int),y5))):=by
   unfold jW;simp only[yB (k:=k) (show k+1≤9223372036854775807 by omega),k6 hk,cond_true,hnx,zH,yW hk,z3S (show s.Ranges.length≤30000 by omega),he,zHJ,decide_true,yE,Bool.or_false]
  cases hh:zE0 s.Ranges C[k] with
  | false=>
   refine nx false o (by omega) (fun h=>by cases h) ?_ ?_
   ·rw[hb0,hh];rfl
   ·simp[coF,hh]
  | true=>
   cases op with
   | false=>
    refine nx true ({Lo:=C[k],Hi:=nxt (C.drop (k+1))}::o) (by simp;omega) (fun _=>by simp) ?_ ?_
    ·rw[hb0,hh]
     simp only[Bool.and_false,cond_false,zH,Bool.not_false,Bool.and_self,cond_true,zAO (show o.reverse.length+ [({Lo:=C[k],Hi:=nxt (C.drop (k+1))}:Range)].length≤4294967296 by simp;omega)]
     simp
    ·simp[coF,hh]
   | true=>
    cases o with
    | nil=>exact absurd rfl (h4 rfl)
    | cons q o=>
     refine nx true ({q with Hi:=nxt (C.drop (k+1))}::o) (by simp only[List.length_cons] at h3 ⊢;omega) (fun _=>by simp) ?_ ?_
     ·rw[hb0,hh]
      have e1:wi (((q::o).reverse.length:Int)-1)=((o.length:Nat):Int):=by
       simp only[List.length_cons] at h3;have hL:((q::o).reverse.length:Int)=(o.length:Int)+1:=by simp
       rw[hL,wN (by omega) (by omega)];omega
      have e2:(q::o).reverse=o.reverse++q:: []:=by simp
      rw[e1,e2,wQ (by simp),zH,zA3 (by simp)];simp
     ·simp[coF,hh]
theorem z3T {l:List Range} (hl:l.length≤12):zGM l=some {Ranges:=(coF (zE0 l) (plE 0 (plE 0 (cuE l []))) false []).reverse}:=by unfold zGM zE3;have h1:=zTS l [];have h2:=zJ3 0 (cuE l []);have h3:=zJ3 0 (plE 0 (cuE l []));simp only[List.length_nil] at h1;have e0:cuE ([]:List Range) (plE 0 (cuE l []))=plE 0 (cuE l []):=rfl;have hg:Gd (plE 0 (plE 0 (cuE l []))):=zM1 (by omega) (zM1 (by omega) (zTR l ⟨.nil,fun x hx=>by cases hx⟩));rw[zY8 (s:={Ranges:=l}) hl (by simp),zH,zY8 (s:={Ranges:=[]}) (by simp) (show (plE 0 (cuE l [])).length≤100 by omega)];rw[zH];have h:=z6O (s:={Ranges:=l}) hl (by omega) hg _ 0 false [] rfl (by omega) (by simp) (fun h=>by cases h);rw[List.drop_zero] at h;have h':zX (fun (x:Bool×Int×(List Range))=>jW (plE 0 (plE 0 (cuE l []))) {Ranges:=l} {Ranges:=[]} 1 x.1 x.2.1 x.2.2) (false,0,[])=some (coF (zE0 l) (plE 0 (plE 0 (cuE l []))) false []).reverse:=h;change ((zX (fun (x:Bool×Int×(List Range))=>jW (plE 0 (plE 0 (cuE l []))) {Ranges:=l} {Ranges:=[]} 1 x.1 x.2.1 x.2.2) (false,0,[])).bind fun y1=>some ({Ranges:=y1}:Set)).bind (fun t6=>some t6)=_;rw[h'];rfl
end Go.M
namespace Go.M
open Go.AV
theorem zOA {has:Int→Bool}:∀(C:List Int) (op:Bool) (o:List Range),Gd C→CanR o→(op=true→∀c,C.head? =some c→∃q o',o=q::o'∧q.Hi=c-1∧q.Lo≤c)→(op=false→∀c q,C.head? =some c→o.head? =some q→q.Hi+1<c)→(op=true→o≠[])→CanR (coF has C op o)
 | [],_,_,_,h,_,_,_=>h
 | c::cs,op,o,hg,ho,h1,h2,h3=>by
  obtain⟨ha,hb⟩:=List.pairwise_cons.1 hg.1;have hgs:Gd cs:=⟨hb,fun x hx=>hg.2 x (by simp[hx])⟩;have hc:=hg.2 c (by simp);have hnx:c≤nxt cs∧nxt cs≤1114111∧∀d,cs.head? =some d→nxt cs=d-1∧c<d:=by
   cases cs with
   | nil=>exact⟨hc.2,Int.le_refl _,fun d hd=>by cases hd⟩
   | cons d cs=>
    have h5:=ha d (by simp);have h6:=hg.2 d (by simp);refine⟨show c≤d-1 by omega,show d-1≤1114111 by omega,fun e he=>?_⟩;simp only[List.head?_cons,Option.some.injEq] at he;subst he;exact⟨rfl,h5⟩
  unfold coF;split;split;rename_i hop;obtain⟨q,o',rfl,e1,e2⟩:=h1 hop c rfl;refine zOA cs true _ hgs ?_ (fun _ d hd=>⟨_,_,rfl,(hnx.2.2 d hd).1,?_⟩) (fun h=>by cases h) (fun _=>by simp);have hq:=ho.head;unfold zB7 at hq;cases o' with
  | nil=>show zB7 _;unfold zB7;simp only;omega
  | cons z o'=>exact⟨by unfold zB7;simp only;omega,ho.2.1,ho.2.2⟩
  have:=(hnx.2.2 d hd).2;show q.Lo≤d;omega;rename_i hop;simp only[Bool.not_eq_true] at hop;refine zOA cs true _ hgs ?_ (fun _ d hd=>⟨_,_,rfl,(hnx.2.2 d hd).1,?_⟩) (fun h=>by cases h) (fun _=>by simp);cases o with
  | nil=>show zB7 _;unfold zB7;simp only;omega
  | cons z o'=>exact⟨by unfold zB7;simp only;omega,h2 hop c z rfl rfl,ho⟩
  have:=(hnx.2.2 d hd).2;show c≤d;omega;refine zOA cs false o hgs ho (fun h=>by cases h) (fun _ d q hd hq=>?_) (fun h=>by cases h);have h7:=(hnx.2.2 d hd).2;cases op with
  | true=>
   obtain⟨q',o',rfl,e1,_⟩:=h1 rfl c rfl;simp only[List.head?_cons,Option.some.injEq] at hq;subst hq;omega
  | false=>
   have:=h2 rfl c q rfl hq;omega
def zI7 (l:List Range):List Int:=l.flatMap fun r=>r.Lo::if r.Hi<1114111 then [r.Hi+1] else []
theorem z3U:∀(l:List Range) (c:List Int),Can l→(∀x∈c,∀r,l.head? =some r→x<r.Lo)→cuE l c=c++zI7 l
 | [],c,_,_=>by simp[cuE,zI7]
 | r::l,c,h,hc=>by
  have hr:=h.head;unfold zB7 at hr;have hv:vld r.Lo=true:=by unfold vld;simp;omega
  have e1:plE r.Lo c=c++ [r.Lo]:=zTQ fun x hx=>hc x hx r rfl;have e2:cuS c r=c++(r.Lo::if r.Hi<1114111 then [r.Hi+1] else []):=by
   unfold cuS;rw[if_pos hv,e1];by_cases hm:r.Hi<1114111;rw[if_pos ⟨by omega,hm⟩,if_pos hm,zTQ];simp;intro x hx;rcases List.mem_append.1 hx with hx | hx
   have:=hc x hx r rfl;omega;simp only[List.mem_singleton] at hx;omega;rw[if_neg (fun h=>hm h.2),if_neg hm]
  show cuE l (cuS c r)=_;rw[z3U l (cuS c r) h.tail,e2];simp[zI7];intro x hx q hq;have hg:r.Hi+1<q.Lo:=h.gap q (by cases l with | nil=>cases hq | cons a l=>simp only[List.head?_cons,Option.some.injEq] at hq;simp[hq])
  rw[e2] at hx;rcases List.mem_append.1 hx with hx | hx
  have:=hc x hx r rfl;omega;rcases List.mem_cons.1 hx with rfl | hx
  omega;split at hx;simp only[List.mem_singleton] at hx;omega;cases hx
theorem z9H {l:List Range} (h:Can l) {r:Range} (hr:r∈l):zE0 l r.Lo=true:=by have:=h.ok r hr;unfold zB7 at this;unfold zE0;refine List.any_eq_true.2 ⟨r,hr,?_⟩;unfold vld;simp;omega
theorem z3V:∀{l:List Range},Can l→∀{r:Range},r∈l→zE0 l (r.Hi+1)=false
 | [],_,r,hr=>by cases hr
 | a::l,h,r,hr=>by
  unfold zE0;rw[List.any_eq_false];intro q hq;have no:∀(c:Int) (q:Range),(c<q.Lo∨q.Hi<c)→¬(vld c&&decide (q.Lo≤c)&&decide (c≤q.Hi))=true:=by
   intro c q hc;simp only[Bool.and_eq_true,decide_eq_true_eq];omega
  rcases List.mem_cons.1 hr with rfl | hr';refine no _ _ ?_;rcases List.mem_cons.1 hq with rfl | hq;omega;have:=h.gap q hq;omega;rcases List.mem_cons.1 hq with rfl | hq;refine no _ _ ?_;have h1:=h.gap r hr';have h2:=h.tail.ok r hr';unfold zB7 at h2;omega;have:=z3V h.tail hr';unfold zE0 at this;rw[List.any_eq_false] at this;exact this q hq
theorem zY9 {has:Int→Bool}:∀(l:List Range) (o:List Range),Can l→(∀r∈l,has r.Lo=true∧(r.Hi<1114111→has (r.Hi+1)=false))→coF has (zI7 l) false o=l.reverse++o
 | [],o,_,_=>by simp[zI7,coF]
 | r::l,o,h,hh=>by
  obtain⟨h1,h2⟩:=hh r (by simp);have ih:=zY9 (has:=has) l (r::o) h.tail fun q hq=>hh q (by simp[hq]);have hr:=h.head;unfold zB7 at hr;by_cases hm:r.Hi<1114111
  ·have e:zI7 (r::l)=r.Lo::(r.Hi+1)::zI7 l:=by simp[zI7,hm]
   have en:nxt ((r.Hi+1)::zI7 l)=r.Hi:=by show r.Hi+1-1=r.Hi;omega
   rw[e];unfold coF;rw[if_pos h1,if_neg (by simp),en];unfold coF;rw[if_neg (by rw[h2 hm];simp),ih]
   simp
  ·have hl:l= []:=by
    cases l with
    | nil=>rfl
    | cons q l=>
     have:=h.2.1;have h3:=h.tail.head;unfold zB7 at h3;omega
   subst hl;have e:zI7 [r]= [r.Lo]:=by simp[zI7,hm]
   rw[e];unfold coF;rw[if_pos h1,if_neg (by simp)];unfold coF;have:nxt []=r.Hi:=by show (1114111:Int)=r.Hi;omega
   rw[this];rfl
theorem z3W {l:List Int} (h:Gd l):plE 0 (plE 0 l)=plE 0 l:=by
 cases l with
 | nil=>rfl
 | cons x l=>
  have:=h.2 x (by simp);by_cases hx:0<x;have e:plE 0 (x::l)=0::x::l:=by unfold plE;rw[if_pos (by omega),if_pos hx]
  rw[e];unfold plE;rw[if_pos (by omega),if_neg (by omega)];have e:plE 0 (x::l)=x::l:=by unfold plE;rw[if_pos (by omega),if_neg hx]
  rw[e,e]
theorem z3X {l:List Range} (h:Can l):(coF (zE0 l) (plE 0 (plE 0 (cuE l []))) false []).reverse=l:=by
 rw[z3W (zTR l ⟨.nil,fun x hx=>by cases hx⟩),z3U l [] h (fun x hx=>by cases hx),List.nil_append];have hw:=zY9 (has:=zE0 l) l [] h fun r hr=>⟨z9H h hr,fun _=>z3V h hr⟩;rw[List.append_nil] at hw;have h0:plE 0 (zI7 l)=zI7 l∨(plE 0 (zI7 l)=0::zI7 l∧zE0 l 0=false):=by
  cases l with
  | nil=>exact .inr ⟨rfl,rfl⟩
  | cons r l=>
   have hr:=h.head;unfold zB7 at hr;have e:zI7 (r::l)=r.Lo::((if r.Hi<1114111 then [r.Hi+1] else [])++zI7 l):=by simp[zI7]
   rw[e];by_cases hx:0<r.Lo;refine .inr ⟨by unfold plE;rw[if_pos (by omega),if_pos hx],?_⟩
   unfold zE0;rw[List.any_eq_false];intro q hq;simp only[Bool.and_eq_true,decide_eq_true_eq];rcases List.mem_cons.1 hq with rfl | hq
   omega;have:=h.gap q hq;omega;exact .inl (by unfold plE;rw[if_pos (by omega),if_neg hx])
 rcases h0 with h0 | ⟨h0,h1⟩;rw[h0,hw,List.reverse_reverse];rw[h0];unfold coF;rw[if_neg (by rw[h1];simp),hw,List.reverse_reverse]
theorem z0T (l:List Range):Can (coF (zE0 l) (plE 0 (plE 0 (cuE l []))) false []).reverse:=by have hg:Gd (plE 0 (plE 0 (cuE l []))):=zM1 (by omega) (zM1 (by omega) (zTR l ⟨.nil,fun x hx=>by cases hx⟩));have:=zOA (has:=zE0 l) _ false [] hg trivial (fun h=>by cases h) (fun _ c q _ hq=>by cases hq) (fun h=>by cases h);have h2:=zTD _ [] this trivial (fun _ _ _ h=>by cases h);simpa using h2
theorem z6P {a b:Set} (ha:a.Ranges.length≤30000):zGN a b=some (decide (a.Ranges=b.Ranges)):=by
 unfold zGN;by_cases hl:a.Ranges.length=b.Ranges.length;have e:(!decide ((a.Ranges.length:Int)=(b.Ranges.length:Int)))=false:=by simp[hl]
 rw[e,cond_false];have h:=jD (body:=fun (x:Int)=>zCF a b x) a.Ranges.length (fun k=>nth a.Ranges k=nth b.Ranges k) (fun y=>y=false) (fun k hk=>by
  simp only[zCF,k6 hk,cond_true,yR hk,yR (show k<b.Ranges.length by omega),zH,yB (k:=k) (by omega)];exact wP (by simp) rfl) (fun k hk=>by simp only[zCF,jM hk,cond_false])
 have he:(∀j,j<a.Ranges.length→nth a.Ranges j=nth b.Ranges j)↔a.Ranges=b.Ranges:=by
  constructor;intro h;refine List.ext_getElem hl fun i h1 h2=>?_;have:=h i h1
  rwa [vU h1,vU h2] at this
  intro h j _;rw[h]
 rw[he] at h;rcases h with ⟨h,p⟩ | ⟨y,rfl,h,p⟩
 rw[h];simp[p];rw[h];simp[p];have e:(!decide ((a.Ranges.length:Int)=(b.Ranges.length:Int)))=true:=by simp;omega
 rw[e,cond_true];have:a.Ranges≠b.Ranges:=fun h=>hl (by rw[h]);simp[this]
theorem z9I {s:Set} (hl:s.Ranges.length≤12):∃b,zFC s=some b∧(b=true↔Can s.Ranges):=by unfold zFC;rw[z3T hl,zH,z6P (by omega),zH];refine⟨_,rfl,?_⟩;simp only[decide_eq_true_eq];constructor;intro h;rw[h];exact z0T _;intro h;rw[z3X h]
end Go.M
namespace Go.M
open Go.AV
theorem zTT {l:List Mapping} (hl:l.length≤30000) (c:Int) (b:Bool):zC0 l c b=some (fiI l c b):=by
 unfold zC0;have h:zX (fun (x:Int)=>zCG l c b x) 0=some (toS (chk (fun k m=>(pM c b k m).map fun (i:Nat)=>(i:Int)) l 0)):=by
  refine zIA l _ (fun k hk=>?_) (fun k hk=>?_);simp only[zCG,k6 hk,cond_true,yW hk,zH,yE,yB (k:=k) (by omega),pM];by_cases h1:l[k].From=c;cases b with
  | true=>simp[h1,zBC,stp]
  | false=>
   cases ht:(l[k].Tag== []) with
   | true=>simp only[h1,decide_true,Bool.not_false,Bool.and_self,wO,zH,Bool.false_or,ht,Bool.true_and,cond_true,and_self,if_true,Option.map_some,stp]
   | false=>simp only[h1,decide_true,Bool.not_false,Bool.and_self,wO,zH,Bool.false_or,ht,Bool.true_and,cond_false,Bool.false_eq_true,and_false,if_false,Option.map_none,stp]
  simp[h1,zBC,stp];simp only[zCG,jM hk,cond_false]
 rw[h,zH,zLX];have e:∀(L:List Mapping) (k:Nat),chk (fun k m=>(pM c b k m).map fun (i:Nat)=>(i:Int)) L k=(chk (pM c b) L k).map fun (i:Nat)=>(i:Int):=by
  intro L
  induction L with
  | nil=>intro k;rfl
  | cons x L ih=>
   intro k;unfold chk;cases pM c b k x with
   | none=>exact ih (k+1)
   | some y=>rfl
 rw[e];unfold fiI fi;cases chk (pM c b) l 0<;>rfl
theorem z3Y (c:Int):zEU c=some (hkE c):=by
 unfold zEU hkE;simp only[yE];by_cases h1:4352≤c∧c<4371;rw[if_pos h1];have:(decide (4352≤c)&&decide (c≤4370))=true:=by simp;omega
 rw[this];rfl;rw[if_neg h1];have e1:(decide (4352≤c)&&decide (c≤4370))=false:=by simp only[Bool.and_eq_false_iff,decide_eq_false_iff_not];omega
 rw[e1,cond_false];by_cases h2:4449≤c∧c<4470;rw[if_pos h2];have:(decide (4449≤c)&&decide (c≤4469))=true:=by simp;omega
 rw[this];rfl;rw[if_neg h2];have e2:(decide (4449≤c)&&decide (c≤4469))=false:=by simp only[Bool.and_eq_false_iff,decide_eq_false_iff_not];omega
 rw[e2,cond_false];by_cases h3:4520≤c∧c<4547;rw[if_pos h3];have:(decide (4520≤c)&&decide (c≤4546))=true:=by simp;omega
 rw[this];rfl;rw[if_neg h3];have e3:(decide (4520≤c)&&decide (c≤4546))=false:=by simp only[Bool.and_eq_false_iff,decide_eq_false_iff_not];omega
 rw[e3,cond_false];by_cases h4:c<44032∨55204≤c;rw[if_pos h4];have:(decide (44032≤c)&&decide (c≤55203))=false:=by simp only[Bool.and_eq_false_iff,decide_eq_false_iff_not];omega
 rw[this];rfl;rw[if_neg h4];have e4:(decide (44032≤c)&&decide (c≤55203))=true:=by simp;omega
 rw[e4,cond_true,wN (n:=c-44032) (by omega) (by omega)];have er:zI3 (c-44032) 28=some ((c-44032)%28):=by
  unfold zI3;rw[if_neg (by decide),Int.tmod_eq_emod_of_nonneg (by omega)]
 rw[er,zH];by_cases h5:(c-44032)%28=0<;>simp[h5]
theorem z7O (c:Int):zAQ c=some (hdE c):=by
 unfold zAQ;rw[z3Y,zH];cases hs:syl c with
 | false=>
  have:decide (hkE c<4)=true:=by
   simp only[decide_eq_true_eq];have:¬4≤hkE c:=fun h=>by have:=(zF7 c).2 h;rw[hs] at this;cases this
   omega
  rw[this,cond_true];unfold hdE;rw[if_neg (by simp[hs])]
 | true=>
  have h4:=(zF7 c).1 hs;have:decide (hkE c<4)=false:=by simp only[decide_eq_false_iff_not];omega
  rw[this,cond_false];have hr:44032≤c∧c≤55203:=by unfold syl at hs;simpa using hs
  rw[wN (n:=c-44032) (by omega) (by omega)];have d1:zME wi (c-44032) 28=some ((c-44032)/28):=by
   unfold zME;rw[if_neg (by decide),Int.tdiv_eq_ediv_of_nonneg (by omega),wN (by omega) (by omega)]
  have d2:zME wi ((c-44032)/28) 21=some ((c-44032)/28/21):=by
   unfold zME;rw[if_neg (by decide),Int.tdiv_eq_ediv_of_nonneg (by omega),wN (by omega) (by omega)]
  have d3:zI3 ((c-44032)/28) 21=some ((c-44032)/28%21):=by
   unfold zI3;rw[if_neg (by decide),Int.tmod_eq_emod_of_nonneg (by omega)]
  have d4:zI3 (c-44032) 28=some ((c-44032)%28):=by
   unfold zI3;rw[if_neg (by decide),Int.tmod_eq_emod_of_nonneg (by omega)]
  simp only[d1,d2,d3,d4,zH];unfold hdE;rw[if_pos hs,wN (n:=4352+(c-44032)/28/21) (by omega) (by omega),wN (n:=4449+(c-44032)/28%21) (by omega) (by omega)];by_cases h0:0<(c-44032)%28;rw[if_pos h0,wN (n:=4520+(c-44032)%28) (by omega) (by omega),wN (n:=4520+(c-44032)%28-1) (by omega) (by omega)];simp only[h0,decide_true,cond_true];rw[zAO (by simp)];rfl;rw[if_neg h0];simp only[h0,decide_false,cond_false];rfl
section
variable {l:List Mapping} (hl:l.length≤30000) (hto:∀m∈l,m.To.length≤30000)
include hl hto
theorem z6Q {out:List Bool} (ho:out.length=l.length) {i:Nat} (hi:i<l.length):∀(d k:Nat) (b:Bool),(nth l i).To.length-k=d→k≤(nth l i).To.length→
  zX (fun (x:Bool×Int)=>vD l (i:Int) out x.1 x.2) (b,(k:Int))=some (b&&((nth l i).To.drop k).all fun e=>match fi l e true with | some m=>nth out m | none=>true):=by
 have hlen:=hto _ (wC hi);intro d
 induction d with
 | zero=>
  intro k b h1 h2;rw[List.drop_of_length_le (show (nth l i).To.length≤k by omega)];refine yI ?_;simp only[vD,yR hi,zH,jM (show (nth l i).To.length≤k by omega),cond_false,List.all_nil,Bool.and_true]
 | succ d ih=>
  intro k b h1 h2;have hk:k<(nth l i).To.length:=by omega
  have hb:vD l (i:Int) out b (k:Int)=some (.next (b&&(match fi l (nth l i).To[k] true with | some m=>nth out m | none=>true),((k+1:Nat):Int))):=by
   simp only[vD,yR hi,zH,k6 hk,cond_true,yW hk,zTT hl,yE,yB (k:=k) (by omega)];unfold fiI;cases hf:fi l (nth l i).To[k] true with
   | none=>simp[zBC]
   | some m=>
    obtain⟨h3,_,_⟩:=zHN hf;have e:decide (((m:Nat):Int)<0)=false:=by simp
    simp only[e,Bool.not_false,Bool.and_true,Bool.false_or];cases b with
    | false=>simp[zBC]
    | true=>simp only[wO,yR (show m<out.length by omega),zH,Bool.true_and]
  rw[yQ (body:=fun (x:Bool×Int)=>vD l (i:Int) out x.1 x.2) (x:=(b,(k:Int))) hb,ih (k+1) _ (by omega) (by omega),List.drop_eq_getElem_cons hk,List.all_cons,Bool.and_assoc]
theorem z6R:zGO l=some (zG6 (zK0 l) l.length l.length (List.replicate l.length false)):=by
 unfold zGO;rw[zTB (by omega),zH];have h1:∀(out:List Bool),out.length=l.length→zX (fun (x:Int×(List Bool))=>zA4 l x.1 x.2) (0,out)=some (zL2 (zK0 l) l.length 0 out):=fun out ho=>
  zL3 (upd:=zK0 l) (n:=l.length) (Inv:=fun _=>True) (body:=fun (x:Int×(List Bool))=>zA4 l x.1 x.2) (fun i out=>((i:Int),out)) id (fun i out hi ho _=>by
   have:=z6Q hl hto ho hi _ 0 true rfl (by omega);rw[List.drop_zero,Bool.true_and] at this;have h':zX (fun (x:Bool×Int)=>vD l (i:Int) out x.1 x.2) (true,0)=some (zK0 l out i):=this;simp only[zA4,k6 hi,cond_true,h',zH,yR (show i<out.length by omega),zG2 (show i<out.length by omega),yB (k:=i) (by omega)]) (fun _ _ _ _ _=>trivial) (fun out=>by simp only[zA4,jM (Nat.le_refl _),cond_false];rfl) l.length 0 out (by omega) ho trivial
 have h2:=zL4 (upd:=zK0 l) (n:=l.length) (Inv:=fun _=>True) (body:=fun (x:Int×(List Bool))=>zA5 l x.1 x.2) (fun i out=>((i:Int),out)) id (N:=l.length) (fun r out hr ho _=>by
  simp only[zA5,k6 hr,cond_true,h1 out ho,zH,yB (k:=r) (by omega)]) (fun _ _ _ _ _=>trivial) (fun out=>by simp only[zA5,jM (Nat.le_refl _),cond_false];rfl) l.length 0 (List.replicate l.length false) (by omega) (by simp) trivial
 have h3:zX (fun (x:Int×(List Bool))=>zA5 l x.1 x.2) (0,List.replicate l.length false)=some (zG6 (zK0 l) l.length l.length (List.replicate l.length false)):=h2;rw[h3];rfl
theorem z6S {b:Bool} {out:List Int} (ho:out.length=l.length) (hv:zTO out) {i:Nat} (hi:i<l.length):∀(d k:Nat) (n:Int),(nth l i).To.length-k=d→k≤(nth l i).To.length→0≤n→n≤100*(k:Int)→
  zX (fun (x:Int×Int)=>xT l (i:Int) b out x.1 x.2) (n,(k:Int))=some (n+(((nth l i).To.drop k).map (lenOf l b out)).sum):=by
 have hlen:=hto _ (wC hi);intro d
 induction d with
 | zero=>
  intro k n h1 h2 h3 h4;rw[List.drop_of_length_le (show (nth l i).To.length≤k by omega)];refine yI ?_;simp only[xT,yR hi,zH,jM (show (nth l i).To.length≤k by omega),cond_false,List.map_nil,List.sum_nil,Int.add_zero]
 | succ d ih=>
  intro k n h1 h2 h3 h4;have hk:k<(nth l i).To.length:=by omega
  have hbd:0≤lenOf l b out (nth l i).To[k]∧lenOf l b out (nth l i).To[k]≤65:=by
   unfold lenOf;cases hf:fi l (nth l i).To[k] b with
   | none=>have:=zKY (nth l i).To[k];simp only[];omega
   | some m=>obtain⟨h3,_,_⟩:=zHN hf;exact hv _ (wC (by omega))
  have hb:xT l (i:Int) b out n (k:Int)=some (.next (n+lenOf l b out (nth l i).To[k],((k+1:Nat):Int))):=by
   have hw:wi (n+lenOf l b out (nth l i).To[k])=n+lenOf l b out (nth l i).To[k]:=wN (by omega) (by omega);simp only[xT,yR hi,zH,k6 hk,cond_true,yW hk,zTT hl,yB (k:=k) (by omega),z7O];rw[←hw];unfold lenOf fiI;cases hf:fi l (nth l i).To[k] b with
   | none=>rfl
   | some m=>
    obtain⟨h3,_,_⟩:=zHN hf;have e:decide (0≤((m:Nat):Int))=true:=by simp
    simp only[e,cond_true,yR (show m<out.length by omega),zH]
  rw[yQ (body:=fun (x:Int×Int)=>xT l (i:Int) b out x.1 x.2) (x:=(n,(k:Int))) hb,ih (k+1) _ (by omega) (by omega) (by omega) (by omega),List.drop_eq_getElem_cons hk,List.map_cons,List.sum_cons,Int.add_assoc]
theorem zZA (b:Bool):zCH l b=some (zG6 (updL l b) l.length l.length (List.replicate l.length 0)):=by
 unfold zCH;rw[zTB (by omega),zH];have h0:zTO (List.replicate l.length 0):=fun x hx=>by rw[(List.mem_replicate.1 hx).2];omega
 have h1:∀(out:List Int),out.length=l.length→zTO out→zX (fun (x:Int×(List Int))=>wS l b x.1 x.2) (0,out)=some (zL2 (updL l b) l.length 0 out):=fun out ho hv=>
  zL3 (upd:=updL l b) (n:=l.length) (Inv:=zTO) (body:=fun (x:Int×(List Int))=>wS l b x.1 x.2) (fun i out=>((i:Int),out)) id (fun i out hi ho hv=>by
   have:=z6S hl hto (b:=b) ho hv hi _ 0 0 rfl (by omega) (by omega) (by omega);rw[List.drop_zero,Int.zero_add] at this;have h':zX (fun (x:Int×Int)=>xT l (i:Int) b out x.1 x.2) (0,0)=some (((nth l i).To.map (lenOf l b out)).sum):=this;simp only[wS,k6 hi,cond_true,h',zH,yR (show i<out.length by omega),zG2 (show i<out.length by omega),yR hi,yE,yB (k:=i) (by omega)];unfold updL;cases b with
   | true=>simp
   | false=>
    cases ht:((nth l i).Tag== []) with
    | true=>simp
    | false=>simp[yR (show i<(out.set i (min (max (List.map (lenOf l false out) (nth l i).To).sum 1) 65)).length by simp;omega),zG2 (show i<(out.set i (min (max (List.map (lenOf l false out) (nth l i).To).sum 1) 65)).length by simp;omega)]) zMZ (fun out=>by simp only[wS,jM (Nat.le_refl _),cond_false];rfl) l.length 0 out (by omega) ho hv
 have h2:=zL4 (upd:=updL l b) (n:=l.length) (Inv:=zTO) (body:=fun (x:Int×(List Int))=>wT l b x.1 x.2) (fun i out=>((i:Int),out)) id (N:=l.length) (fun r out hr ho hv=>by
  simp only[wT,k6 hr,cond_true,h1 out ho hv,zH,yB (k:=r) (by omega)]) zMZ (fun out=>by simp only[wT,jM (Nat.le_refl _),cond_false];rfl) l.length 0 (List.replicate l.length 0) (by omega) (by simp) h0
 have h3:zX (fun (x:Int×(List Int))=>wT l b x.1 x.2) (0,List.replicate l.length 0)=some (zG6 (updL l b) l.length l.length (List.replicate l.length 0)):=h2;rw[h3];rfl
end
end Go.M
namespace Go.M
open Go.AV
theorem zOB {β:Type} [Inhabited β] {upd:List β→Nat→β} {n k:Nat} {out:List β} (h:out.length=n):(zG6 upd n k out).length=n:=
 (zTM (upd:=upd) (n:=n) (Inv:=fun _=>True) (fun _ _ _ _ _=>trivial) k out h trivial).2
theorem zWE {l:List Mapping} (h:∀k,k+1<l.length→(nth l k).From<(nth l (k+1)).From):∀(d i:Nat),i+d+1<l.length→(nth l i).From<(nth l (i+d+1)).From
 | 0,i,hi=>h i hi
 | d+1,i,hi=>by
  have h1:=zWE h d i (by omega);have h3:=h (i+d+1) (by omega);have:i+(d+1)+1=i+d+1+1:=by omega
  rw[this];omega
theorem z0U {l:List Mapping} (hlt:∀k,k+1<l.length→mlt (nth l k) (nth l (k+1))):(∀k,k<l.length→¬fiI l (nth l k).From true<(k:Int))↔∀k,k+1<l.length→(nth l (k+1)).From≠(nth l k).From:=by
 constructor;intro h k hk e;have hk':k<l.length:=by omega
 have hp:pM (nth l (k+1)).From true (0+k) l[k]≠none:=by
  unfold pM;rw[if_pos ⟨by rw[e,vU hk'],rfl⟩];simp
 obtain⟨i,hi,hik,hc⟩:=zRZ (p:=pM (nth l (k+1)).From true) (l:=l) (k:=0) hk' hp;have hfi:fi l (nth l (k+1)).From true=some i:=by
  unfold fi;rw[hc];unfold pM;split;simp;rename_i hn;exfalso;have:chk (pM (nth l (k+1)).From true) l 0=none:=by rw[hc];unfold pM;rw[if_neg hn]
  exact hp (zPE this k hk')
 refine h (k+1) hk ?_;unfold fiI;rw[hfi];simp only[];omega;intro h k hk hlt';have hs:∀k,k+1<l.length→(nth l k).From<(nth l (k+1)).From:=fun k hk=>by
  have a:=hlt k hk;have b:=h k hk;unfold mlt at a;omega
 unfold fiI at hlt';cases hf:fi l (nth l k).From true with
 | none=>exact absurd ⟨rfl,rfl⟩ (zY1 hf _ (wC hk))
 | some i=>
  rw[hf] at hlt';simp only[] at hlt';obtain⟨h1,h2,_⟩:=zHN hf;have:=zWE hs (k-i-1) i (by omega);rw[show i+(k-i-1)+1=k by omega] at this;omega
theorem z9J {n:Norm} (hs:NSm n) (hok:zAM n):Ver (zFD n) (VD0 n):=by
 obtain⟨e1,he1,p1⟩:=z3K (l:=n.Classes) (by have:=hs.cl;omega)
 obtain⟨e2,he2,p2⟩:=z3N (l:=n.Decomp) (by have:=hs.de;omega) (fun m hm=>by have:=hs.to m hm;omega) (fun m hm=>by have:=hs.tg m hm;unfold MX;omega)
 obtain⟨e3,he3,p3⟩:=z9I (s:=n.Excluded) hs.ex;have hde:=hs.de;have hl:n.Decomp.length≤30000:=by omega
 have hto:∀m∈n.Decomp,m.To.length≤30000:=fun m hm=>by have:=hs.to m hm;omega
 unfold zFD;rw[he1,zH];by_cases h1:e1=0
 case neg=>
  have:(!decide (e1=0))=true:=by simp[h1]
  rw[this,cond_true];exact⟨e1,rfl,by simp only[h1,false_iff];exact fun h=>h1 (p1.2 h.cv)⟩
 rw[h1];simp only[decide_true,Bool.not_true,cond_false];have cv:=p1.1 h1;rw[he2,zH];by_cases h2:e2=0
 case neg=>
  have:(!decide (e2=0))=true:=by simp[h2]
  rw[this,cond_true];exact⟨e2,rfl,by simp only[h2,false_iff];exact fun h=>h2 (p2.2 h.mv)⟩
 rw[h2];simp only[decide_true,Bool.not_true,cond_false];have mv:=p2.1 h2;rw[he3,zH];cases e3 with
 | false=>exact⟨11,rfl,by simp only[show ((11:Int)=0)=False by simp,false_iff];exact fun h=>by have:=p3.2 h.ca;cases this⟩
 | true=>
 have ca:=p3.1 rfl;simp only[Bool.not_true,cond_false];have l0:=jD (body:=fun (x:Int)=>zBN n x) n.Decomp.length (fun k=> ¬fiI n.Decomp (nth n.Decomp k).From true<(k:Int)) (fun y=>y≠0) (fun k hk=>by
  simp only[zBN,k6 hk,cond_true,yR hk,zH,zTT hl,yB (k:=k) (by omega)];exact wP (by simp) (by decide)) (fun k hk=>by simp only[zBN,jM hk,cond_false])
 rw[z0U mv.lt] at l0;rcases l0 with ⟨l0,ne⟩ | ⟨y,hy,l0,ne⟩
 case inr=>rw[l0];exact⟨y,rfl,by simp only[hy,false_iff];exact fun h=>ne h.ne⟩
 rw[l0];simp only[zH,Sum.elim_inl];have hbt:∀m:Mapping,(m.Tag== [])=decide (m.Tag= []):=fun m=>by cases m.Tag<;>rfl
 have l1:=jD (body:=fun (x:Int)=>zBO n x) n.Decomp.length (fun k=>(nth n.Decomp k).Tag= []→(nth n.Decomp k).To.length=1∨(nth n.Decomp k).To.length=2) (fun y=>y≠0) (fun k hk=>by
  simp only[zBO,k6 hk,cond_true,yR hk,zH,yE,yB (k:=k) (by omega),hbt];by_cases ht:(nth n.Decomp k).Tag= []
  ·
   simp only[ht,decide_true,wO,zH,Bool.true_and,true_implies];by_cases h5:((nth n.Decomp k).To.length:Int)=1
   ·
    simp only[h5,decide_true,Bool.not_true,zBC,zH,Bool.false_and,cond_false];exact .inl ⟨.inl (by omega),trivial⟩
   ·
    simp only[h5,decide_false,Bool.not_false,wO,zH,Bool.true_and];exact wP (by simp only[Bool.not_eq_true',decide_eq_false_iff_not];omega) (by decide)
  ·
   simp only[ht,decide_false,zBC,zH,Bool.false_and,cond_false,false_implies];exact .inl ⟨trivial,trivial⟩) (fun k hk=>by simp only[zBO,jM hk,cond_false])
 rw[zAK (p:=fun m:Mapping=>m.Tag= []→m.To.length=1∨m.To.length=2)] at l1;rcases l1 with ⟨l1,kd⟩ | ⟨y,hy,l1,kd⟩
 case inr=>rw[l1];exact⟨y,rfl,by simp only[hy,false_iff];exact fun h=>kd h.kd⟩
 rw[l1];simp only[zH,Sum.elim_inl];have l2:=jD (body:=fun (x:Int)=>zBP n x) n.Decomp.length (fun k=>hkE (nth n.Decomp k).From=0∧((nth n.Decomp k).Tag≠[]→clE n.Classes (nth n.Decomp k).From=0)) (fun y=>y≠0) (fun k hk=>by
  simp only[zBP,k6 hk,cond_true,yR hk,zH,yE,z3Y,yB (k:=k) (by omega),hbt];by_cases h5:hkE (nth n.Decomp k).From=0
  ·
   simp only[h5,decide_true,Bool.not_true,Bool.not_false,wO,zH,Bool.true_and,Bool.false_or,true_and];by_cases ht:(nth n.Decomp k).Tag= []
   ·
    simp only[ht,decide_true,Bool.not_true,zBC,zH,Bool.false_and,cond_false];exact .inl ⟨fun h=>absurd rfl h,trivial⟩
   ·
    simp only[ht,decide_false,Bool.not_false,wO,zH,Bool.true_and,zL1 (show n.Classes.length≤30000 by have:=hs.cl;omega) cv]
    exact wP (by simp[ht]) (by decide)
  ·
   have:(!decide (hkE (nth n.Decomp k).From=0))=true:=by simp[h5]
   simp only[this,Bool.not_true,zBC,zH,Bool.false_and,Bool.true_or,cond_true];exact .inr ⟨fun h=>h5 h.1,11,by decide,rfl⟩) (fun k hk=>by simp only[zBP,jM hk,cond_false])
 rw[zAK (p:=fun m:Mapping=>hkE m.From=0∧(m.Tag≠[]→clE n.Classes m.From=0))] at l2;rcases l2 with ⟨l2,hk⟩ | ⟨y,hy,l2,hk⟩
 case inr=>rw[l2];exact⟨y,rfl,by simp only[hy,false_iff];exact fun h=>hk fun m hm=>⟨h.hk m hm,h.tc m hm⟩⟩
 rw[l2];simp only[zH,Sum.elim_inl];have hds:DS n.Decomp:=⟨fun k hk'=>by
  have a:=mv.lt k hk';have b:=ne k hk';unfold mlt at a;omega,fun m hm=>(hk m hm).1,fun m hm=>by have:=mv.sz m hm;omega⟩
 have hms:=z3B hds (by omega);rw[z6R hl hto,zH];have l3:=jD (body:=fun (x:Int)=>zBQ n (zG6 (zK0 n.Decomp) n.Decomp.length n.Decomp.length (List.replicate n.Decomp.length false)) x) n.Decomp.length (fun k=>nth (zG6 (zK0 n.Decomp) n.Decomp.length n.Decomp.length (List.replicate n.Decomp.length false)) k=true) (fun y=>y≠0) (fun k hk=>by
  simp only[zBQ,k6 hk,cond_true,yR (show k<(zG6 (zK0 n.Decomp) n.Decomp.length n.Decomp.length (List.replicate n.Decomp.length false)).length by rw[zOB (by simp)];exact hk),zH,yB (k:=k) (by omega)]
  exact wP (by simp) (by decide)) (fun k hk=>by simp only[zBQ,jM hk,cond_false])
 rw[z3P hds] at l3;rcases l3 with ⟨l3,H⟩ | ⟨y,hy,l3,H⟩
 case inr=>rw[l3];exact⟨y,rfl,by simp only[hy,false_iff];exact fun h=>H (hms.1 h.ms).1⟩
 rw[l3];simp only[zH,Sum.elim_inl];have hD:=zPM hds H;rw[zZA hl hto false,zH,zZA hl hto true,zH];have l4:=jD (body:=fun (x:Int)=>zBR n (zG6 (updL n.Decomp false) n.Decomp.length n.Decomp.length (List.replicate n.Decomp.length 0)) (zG6 (updL n.Decomp true) n.Decomp.length n.Decomp.length (List.replicate n.Decomp.length 0)) x) n.Decomp.length (fun k=>wt n.Decomp true (nth n.Decomp k).From≤64) (fun y=>y≠0) (fun k hk=>by
  have hmo:wt n.Decomp false (nth n.Decomp k).From≤wt n.Decomp true (nth n.Decomp k).From:=zYR hds _ _;simp only[zBR,k6 hk,cond_true,yR (show k<(zG6 (updL n.Decomp false) n.Decomp.length n.Decomp.length (List.replicate n.Decomp.length 0)).length by rw[zOB (by simp)];exact hk),yR (show k<(zG6 (updL n.Decomp true) n.Decomp.length n.Decomp.length (List.replicate n.Decomp.length 0)).length by rw[zOB (by simp)];exact hk),zH,yE,zY2 hds hD (b:=false) k hk,zY2 hds hD (b:=true) k hk,yB (k:=k) (by omega)]
  by_cases h6:64<wt n.Decomp false (nth n.Decomp k).From
  ·
   simp only[h6,decide_true,Bool.not_true,zBC,zH,Bool.true_or,cond_true];exact .inr ⟨by omega,13,by decide,rfl⟩
  ·
   simp only[h6,decide_false,Bool.not_false,wO,zH,Bool.false_or];exact wP (by simp) (by decide)) (fun k hk=>by simp only[zBR,jM hk,cond_false])
 rw[zAK (p:=fun m:Mapping=>wt n.Decomp true m.From≤64)] at l4;rcases l4 with ⟨l4,W⟩ | ⟨y,hy,l4,W⟩
 ·
  rw[l4];exact⟨0,rfl,by simp only[true_iff];exact⟨cv,mv,ca,ne,kd,fun m hm=>(hk m hm).1,fun m hm=>(hk m hm).2,hms.2 ⟨H,W⟩⟩⟩
 · rw[l4];exact⟨y,rfl,by simp only[hy,false_iff];exact fun h=>W (hms.1 h.ms).2⟩
theorem z9K {n:Norm} (hs:NSm n) (hok:zAM n):zGP n=some (usN n):=by obtain⟨e,he,hv⟩:=z9J hs hok;unfold zGP usN;rw[he,zH];by_cases hz:e=0;rw[if_pos (hv.1 hz)];simp[hz];rw[if_neg (fun h=>hz (hv.2 h))];simp[hz]
end Go.M
namespace Go.M
open Go.AV
theorem zZB {l:List Mapping} (hl:l.length≤30000) {b:Bool} {lists:List (List Int)} (hn:lists.length=l.length) (hb:∀e,(zFQ l b lists e).length≤64) {text:List Int} (ht:text.length≤30000):vM l lists text b=some (text.flatMap (zFQ l b lists)):=by
 have key:∀(d k:Nat) (out:List Int),text.length-k=d→k≤text.length→out.length≤64*k→zX (fun (x:Int×(List Int))=>jX text l b lists x.1 x.2) ((k:Int),out)=some (out++(text.drop k).flatMap (zFQ l b lists)):=by
  intro d
  induction d with
  | zero=>
   intro k out h1 h2 h3;rw[List.drop_of_length_le (show text.length≤k by omega)];refine yI ?_;simp only[jX,jM (show text.length≤k by omega),cond_false,List.flatMap_nil,List.append_nil]
  | succ d ih=>
   intro k out h1 h2 h3;have hk:k<text.length:=by omega
   have hbd:=hb text[k];have hb0:jX text l b lists (k:Int) out=some (.next (((k+1:Nat):Int),out++zFQ l b lists text[k])):=by
    have ha:app out (zFQ l b lists text[k])=some (out++zFQ l b lists text[k]):=zAO (by omega);simp only[jX,k6 hk,cond_true,yW hk,zH,zTT hl,yB (k:=k) (by omega),z7O];unfold zFQ at ha ⊢;unfold fiI;cases hf:fi l text[k] b with
    | none=>
     rw[hf] at ha;simp only[] at ha;simp only[show decide ((0:Int)≤ -1)=false by decide,cond_false,ha,zH]
    | some m=>
     rw[hf] at ha;simp only[] at ha;obtain⟨h4,_,_⟩:=zHN hf;have e:decide (0≤((m:Nat):Int))=true:=by simp
     simp only[e,cond_true,yR (show m<lists.length by omega),zH,ha]
   rw[yQ (body:=fun (x:Int×(List Int))=>jX text l b lists x.1 x.2) (x:=((k:Int),out)) hb0,ih (k+1) _ (by omega) (by omega) (by rw[List.length_append];omega),List.drop_eq_getElem_cons hk,List.flatMap_cons,List.append_assoc]
 unfold vM;have h:=key text.length 0 [] (by omega) (by omega) (by simp);rw[List.drop_zero,List.nil_append] at h;have h':zX (fun (x:Int×(List Int))=>jX text l b lists x.1 x.2) (0,[])=some (text.flatMap (zFQ l b lists)):=h;rw[h'];rfl
theorem z9L {n:Norm} (h:GN n) (b:Bool):zFE n.Decomp b=some (zWD n.Decomp b):=by
 have hl:n.Decomp.length≤30000:=by have:=h.de;omega
 have hbd:∀{out:List (List Int)},zQS n.Decomp b out→∀e,(zFQ n.Decomp b out e).length≤64:=fun hv e=>Nat.le_trans (zY4 h.ds h.dd hv e) (h.len b e);unfold zFE;rw[zTB (by omega),zH];have h1:∀(out:List (List Int)),out.length=n.Decomp.length→zQS n.Decomp b out→zX (fun (x:Int×(List (List Int)))=>zAC n.Decomp b x.1 x.2) (0,out)=some (zL2 (zPP n.Decomp b) n.Decomp.length 0 out):=fun out ho hv=>
  zL3 (upd:=zPP n.Decomp b) (n:=n.Decomp.length) (Inv:=zQS n.Decomp b) (body:=fun (x:Int×(List (List Int)))=>zAC n.Decomp b x.1 x.2) (fun i out=>((i:Int),out)) id (fun i out hi ho hv=>by
   have hr:=zZB hl (b:=b) ho (hbd hv) (text:=(nth n.Decomp i).To) (h.ds.len _ (wC hi));simp only[zAC,k6 hi,cond_true,yE,yR hi,yR (show i<out.length by omega),zH,hr,zG2 (show i<out.length by omega),yB (k:=i) (by omega)];unfold zPP;cases b with
   | true=>simp[zBC]
   | false=>
    simp only[Bool.not_false,wO,zH,Bool.false_or];cases ht:((nth n.Decomp i).Tag== []) with
    | true=>simp
    | false=>simp[z6F (show i<out.length by omega)]) (zM0 h.ds h.dd) (fun out=>by simp only[zAC,jM (Nat.le_refl _),cond_false];rfl) n.Decomp.length 0 out (by omega) ho hv
 have h2:=zL4 (upd:=zPP n.Decomp b) (n:=n.Decomp.length) (Inv:=zQS n.Decomp b) (body:=fun (x:Int×(List (List Int)))=>zAD n.Decomp b x.1 x.2) (fun i out=>((i:Int),out)) id (N:=n.Decomp.length) (fun r out hr ho hv=>by
  simp only[zAD,k6 hr,cond_true,h1 out ho hv,zH,yB (k:=r) (by omega)]) (zM0 h.ds h.dd) (fun out=>by simp only[zAD,jM (Nat.le_refl _),cond_false];rfl) n.Decomp.length 0 (List.replicate n.Decomp.length []) (by omega) (by simp) z7M
 have h3:zX (fun (x:Int×(List (List Int)))=>zAD n.Decomp b x.1 x.2) (0,List.replicate n.Decomp.length [])=some (zWD n.Decomp b):=h2;rw[h3];rfl
theorem z6T {n:Norm} (h:GN n) (b:Bool) {text:List Int} (ht:text.length≤30000):zGQ n text b=some (text.flatMap (fu n.Decomp b)):=by
 have hl:n.Decomp.length≤30000:=by have:=h.de;omega
 unfold zGQ;have e:∀c,zFQ n.Decomp b (zWD n.Decomp b) c=fu n.Decomp b c:=z6N h.ds h.dd;rw[z9L h,zH,zZB (lists:=zWD n.Decomp b) hl (zOB (by simp)) (fun c=>by rw[e];exact h.len b c) ht,zH,show zFQ n.Decomp b (zWD n.Decomp b)=fu n.Decomp b from funext e]
section
variable {l:List Span} (hcv:CV l) (hl:l.length≤30000)
include hcv hl
theorem sIn {text:List Int} {v:Nat} (hv:v<text.length):∀(r s:List Int),r.length≤30000→zX (fun (q:Int×(List Int))=>uQ (clE l text[v]) l text (v:Int) q.1 q.2) ((r.length:Int),r.reverse++text[v]::s)=some (vV (ltC (clE l)) r text[v] s)
 | [],s,_=>by
  refine yI ?_;simp[uQ,yE,zBC,zH,vV]
 | y::r,s,hr=>by
  simp only[List.length_cons] at hr;have e0:decide ((0:Int)<((r.length+1:Nat):Int))=true:=by simp only[decide_eq_true_eq];omega
  have e1:(y::r).reverse++text[v]::s=r.reverse++y::text[v]::s:=by simp
  have i1:kV (r.reverse++y::text[v]::s) (r.length:Int)=some y:=wQ (by simp);have i2:kV (r.reverse++y::text[v]::s) ((r.length+1:Nat):Int)=some text[v]:=by
   have:=wQ (p:=r.reverse++ [y]) (s:=s) (x:=text[v]) (k:=r.length+1) (by simp);simpa using this
  have s1:zBE (r.reverse++y::text[v]::s) ((r.length+1:Nat):Int) y=some (r.reverse++y::y::s):=by
   have:=zA3 (p:=r.reverse++ [y]) (s:=s) (x:=text[v]) (y:=y) (k:=r.length+1) (by simp);simpa using this
  have i3:kV (r.reverse++y::y::s) (r.length:Int)=some y:=wQ (by simp);have s2:zBE (r.reverse++y::y::s) (r.length:Int) text[v]=some (r.reverse++text[v]::y::s):=zA3 (by simp);rw[e1];show zX _ (((r.length+1:Nat):Int),_)=_;by_cases h0:0<clE l text[v]
  ·by_cases hlt:clE l text[v]<clE l y
   ·rw[yQ (x':=((r.length:Int),r.reverse++text[v]::(y::s))) (by
     simp only[uQ,yE,e0,h0,decide_true,Bool.and_self,zEJ (k:=r.length) (by omega),wO,i1,zH,zL1 hl hcv,hlt,cond_true,i2,s1,yW hv,i3,s2])]
    rw[sIn hv r (y::s) (by omega)];have:ltC (clE l) text[v] y=true:=by unfold ltC;simp[h0,hlt]
    simp[vV,this]
   ·refine yI ?_
    have:ltC (clE l) text[v] y=false:=by unfold ltC;simp[hlt]
    simp only[uQ,yE,e0,h0,decide_true,Bool.and_self,zEJ (k:=r.length) (by omega),wO,i1,zH,zL1 hl hcv,hlt,decide_false,Bool.and_false,cond_false,vV,this,Bool.false_eq_true,if_false,e1]
  ·refine yI ?_
   have:ltC (clE l) text[v] y=false:=by unfold ltC;simp[h0]
   simp only[uQ,yE,e0,h0,decide_false,Bool.and_false,zBC,zH,Bool.false_and,cond_false,vV,this,Bool.false_eq_true,if_false,e1]
theorem z6U {text:List Int} (ht:text.length≤30000):zEV l text=some (csE (clE l) text):=by
 have key:∀(d k:Nat) (out:List Int),text.length-k=d→k≤text.length→out.length=k→zX (fun (x:Int×(List Int))=>vE text l x.1 x.2) ((k:Int),out)=some (uT (ltC (clE l)) (text.drop k) out):=by
  intro d
  induction d with
  | zero=>
   intro k out h1 h2 h3;rw[List.drop_of_length_le (show text.length≤k by omega)];refine yI ?_;simp only[vE,jM (show text.length≤k by omega),cond_false];rfl
  | succ d ih=>
   intro k out h1 h2 h3;have hk:k<text.length:=by omega
   have hi:=sIn hcv hl hk out.reverse [] (by simp;omega)
   rw[List.reverse_reverse,List.length_reverse] at hi;have hb:vE text l (k:Int) out=some (.next (((k+1:Nat):Int),vV (ltC (clE l)) out.reverse text[k] [])):=by
    have e1:wi (((out++ [text[k]]).length:Int)-1)=(out.length:Int):=by
     have hL:((out++ [text[k]]).length:Int)=(out.length:Int)+1:=by simp
     rw[hL,wN (by omega) (by omega)];omega
    simp only[vE,k6 hk,cond_true,yW hk,zH,zAO (show out.length+ [text[k]].length≤4294967296 by simp;omega),zL1 hl hcv,e1,hi,yB (k:=k) (by omega)]
   rw[yQ (body:=fun (x:Int×(List Int))=>vE text l x.1 x.2) (x:=((k:Int),out)) hb,ih (k+1) _ (by omega) (by omega) (by rw[zPG];simp;omega),List.drop_eq_getElem_cons hk]
   rfl
 unfold zEV;have h:=key text.length 0 [] (by omega) (by omega) rfl;rw[List.drop_zero] at h;have h':zX (fun (x:Int×(List Int))=>vE text l x.1 x.2) (0,[])=some (csE (clE l) text):=h;rw[h'];rfl
end
theorem z9M {n:Norm} (hs:NSm n) (hok:zAM n) {text:List Int} {b:Bool} (ht:text.length≤30000) (hf:(zI2 n b text).length≤30000):zGR n text b=some (zEP n b text):=by
 have h:=zTJ hs hok;unfold zGR;rw[z9K hs hok,zH,z6T h b ht,zH];have e:=z6U h.cv (by have:=h.cl;omega) hf
 have e':zEV (usN n).Classes (text.flatMap (fu (usN n).Decomp b))=some (zEP n b text):=e;rw[e'];rfl
end Go.M
namespace Go.M
open Go.AV
def zIV (t:Int):Bool:=(decide (65≤t)&&decide (t≤90)) ||(decide (97≤t)&&decide (t≤122)) ||(decide (48≤t)&&decide (t≤57)) ||decide (t=95)
def zHZ (s:Str):Bool:=!(s== [])&&decide (s.length≤32)&&s.all fun b=>zIV (b.toNat:Int)
theorem z0V (s:Str):zCC s=some (zHZ s):=by
 unfold zCC;rw[yE];by_cases h1:(s== [])=true
 ·simp[h1,zHZ]
 ·by_cases h2:s.length≤32
  ·have hl:zX (fun (x:Int)=>w8 s x) ((0:Nat):Int)=some (if s.all (fun b=>zIV (b.toNat:Int)) then .inl () else .inr false):=by
    rw[zB6 (B:=Unit) s (fun k _=>(k:Int)) (fun _ x _=>if zIV (x.toNat:Int) then some (.next ()) else some (.done (.inr false))) (fun _=> .inl ()) ?_ ?_ ()]
    ·exact zLW _ _ _ _ _
    ·intro k _ hk
     simp only[w8,k6 hk,cond_true,zLY hk,zH,yE,yB (k:=k) (by omega)];generalize (s[k].toNat:Int)=t;unfold zIV;generalize decide (65≤t)=p1;generalize decide (t≤90)=p2;generalize decide (97≤t)=p3;generalize decide (t≤122)=p4;generalize decide (48≤t)=p5;generalize decide (t≤57)=p6;generalize decide (t=95)=p7;cases p1<;>cases p2<;>cases p3<;>cases p4<;>cases p5<;>cases p6<;>cases p7<;>rfl
    ·intro _
     simp only[w8,jM (Nat.le_refl _),cond_false]
   have h3:decide (32<(s.length:Int))=false:=by simp;omega
   have e0:((0:Nat):Int)=0:=rfl;rw[e0] at hl;simp only[h1,h3,Bool.or_self,cond_false,hl,zH,zHZ,h2,decide_true,Bool.not_false,Bool.true_and,Bool.not_eq_true];cases s.all (fun b=>zIV (b.toNat:Int))<;>simp[h1]
  ·have h3:decide (32<(s.length:Int))=true:=by simp;omega
   simp[h3,zHZ,h2]
theorem z3Z (s:Str):zFL s=some (zHZ s):=by
 unfold zFL;rw[yE];by_cases h1:s= []
 ·subst h1;simp[zHZ]
 ·have hpos:0<s.length:=by cases s;exact absurd rfl h1;simp
  by_cases h2:s.length≤32
  ·have hl:zX (fun (x:Int)=>zB0 s x) ((0:Nat):Int)=some (if s.all (fun b=>zIV (b.toNat:Int)) then .inl () else .inr false):=by
    rw[zB6 (B:=Unit) s (fun k _=>(k:Int)) (fun _ x _=>if zIV (x.toNat:Int) then some (.next ()) else some (.done (.inr false))) (fun _=> .inl ()) ?_ ?_ ()]
    ·exact zLW _ _ _ _ _
    ·intro k _ hk
     simp only[zB0,k6 hk,cond_true,zLY hk,zH,yE,yB (k:=k) (by omega)];generalize (s[k].toNat:Int)=t;unfold zIV;generalize decide (65≤t)=p1;generalize decide (t≤90)=p2;generalize decide (97≤t)=p3;generalize decide (t≤122)=p4;generalize decide (48≤t)=p5;generalize decide (t≤57)=p6;generalize decide (t=95)=p7;cases p1<;>cases p2<;>cases p3<;>cases p4<;>cases p5<;>cases p6<;>cases p7<;>rfl
    ·intro _
     simp only[zB0,jM (Nat.le_refl _),cond_false]
   have h3:decide (32<(s.length:Int))=false:=by simp;omega
   have h4:decide ((s.length:Int)<1)=false:=by simp;omega
   have h5:(s== [])=false:=by simpa using h1
   have e0:((0:Nat):Int)=0:=rfl;rw[e0] at hl;simp only[h3,h4,Bool.or_self,cond_false,hl,zH,zHZ,h2,decide_true,h5,Bool.not_false,Bool.true_and];cases s.all (fun b=>zIV (b.toNat:Int))<;>simp
  ·have h3:decide (32<(s.length:Int))=true:=by simp;omega
   simp[h3,zHZ,h2]
theorem zZC {s:Str} (h:zHZ s=true):s≠[]:=by intro e;subst e;simp[zHZ] at h
def zGA:List Str→List Str→Bool
 | _,[]=>true
 | seen,x::xs=>!decide (x∈seen)&&zHZ x&&zGA (seen++ [x]) xs
theorem zR2 {κ ν:Type} [DecidableEq κ] (m:List (κ×ν)) (k: κ):wK m k=true↔k∈m.map Prod.fst:=by
 induction m with
 | nil=>simp[wK,mget]
 | cons p m ih=>
  obtain⟨k',v⟩:=p;simp only[wK,mget,List.map_cons,List.mem_cons] at ih ⊢;by_cases e:k=k';simp[e];simp only[e,if_false,ih,false_or]
theorem z0W {κ ν:Type} [DecidableEq κ] {m:List (κ×ν)} {k: κ} (h:wK m k=false) (v: ν):wD m k v=m++ [(k,v)]:=by
 induction m with
 | nil=>rfl
 | cons p m ih=>
  obtain⟨k',v'⟩:=p;simp only[wK,mget,wD] at h ih ⊢;by_cases e:k=k';simp[e] at h;simp only[e,if_false] at h ⊢;rw[ih h];rfl
def zQT (l:List Str):Bool:=decide (0<l.length)&&decide (l.length≤250)&&zGA [] l
theorem z30 (l:List Str) (hl:l.length≤9223372036854775807):zC4 l=some (zQT l):=by
 unfold zC4;rw[yE];by_cases h1:l.length=0
 ·
  have:l= []:=List.eq_nil_of_length_eq_zero h1;subst this;rfl
 ·
  have h1':decide ((l.length:Int)=0)=false:=by simp;exact fun e=>h1 (by simp[e])
  by_cases h2:l.length≤250
  ·
   have h3:decide (250<(l.length:Int))=false:=by simp;omega
   have hval:∀(xs:List Str) (k:Nat) (m:List (Str×Int)),(zKX (fun (k:Nat) (x:Str) (m:List (Str×Int))=>if wK m x || !zHZ x then some (.done (Sum.inr false)) else some (Stp.next (wD m x (k:Int)))) (fun m=>(Sum.inl m:List (Str×Int)⊕Bool)) xs k m).bind (fun y=>Sum.elim (fun _=>some true) (fun y=>some y) y)=some (zGA (m.map Prod.fst) xs):=by
    intro xs
    induction xs with
    | nil=>intro k m;rfl
    | cons x xs ih=>
     intro k m;simp only[zKX,zGA];by_cases hm:wK m x=true
     ·
      have hm2:=hm;rw[zR2] at hm2;simp[hm,hm2]
     ·
      by_cases hn:zHZ x=true
      ·
       have hm':wK m x=false:=by simpa using hm
       have:=ih (k+1) (wD m x (k:Int));rw[z0W hm'] at this ⊢;simp only[hm',hn,Bool.not_true,Bool.or_self,Bool.false_eq_true,if_false];have hm2:=hm;rw[zR2] at hm2;rw[this];simp[hm2]
      · simp[hm,hn]
   have hl2:zX (fun (x:Int×(List (Str×Int)))=>uH l x.1 x.2) (((0:Nat):Int),[])=zKX (fun (k:Nat) (x:Str) (m:List (Str×Int))=>if wK m x || !zHZ x then some (.done (Sum.inr false)) else some (Stp.next (wD m x (k:Int)))) (fun m=>(Sum.inl m:List (Str×Int)⊕Bool)) l 0 []:=by
    refine zB6 l (fun k (m:List (Str×Int))=>((k:Int),m)) _ _ ?_ ?_ []
    ·
     intro k m hk;simp only[uH,k6 hk,cond_true,yW hk,zH,yE,z0V,yB (k:=k) (by omega)];cases hm:wK m l[k] with
     | true=>simp[zBC]
     | false=>simp only[Bool.not_false,wO,zH];cases zHZ l[k]<;>simp
    ·
     intro m;simp only[uH,jM (Nat.le_refl _),cond_false]
   have e0:((0:Nat):Int)=0:=rfl;rw[e0] at hl2;simp only[h1',h3,Bool.or_self,cond_false,hl2];rw[hval l 0 []];simp[zQT,h2,Nat.pos_of_ne_zero h1]
  ·
   have h3:decide (250<(l.length:Int))=true:=by simp;omega
   simp[h1',h3,zQT,h2]
end Go.M
namespace Go.M
open Go.AV
theorem zWF (l:List Str) {i:Nat} (hi:i<l.length) (hl:l.length≤250):
  zX (fun (x:Int)=>zAH (i:Int) l x) 0=some (if (l.take i).all (fun y=>!(y==l[i])) then .inl () else .inr false):=by
 have hlen:(l.take i).length=i:=by simp;omega
 have h:=zB6 (B:=Unit) (l.take i) (fun k _=>(k:Int)) (body:=fun (x:Int)=>zAH (i:Int) l x)
  (fun _ x _=>if !(x==l[i]) then some (.next ()) else some (.done (.inr false))) (fun _=> .inl ()) ?_ ?_ ()
 ·have e0:((0:Nat):Int)=0:=rfl
  rw[e0] at h;rw[h];exact zLW _ _ _ _ _
 ·intro k _ hk
  rw[hlen] at hk;have hk2:k<l.length:=by omega
  simp only[zAH,k6 hk,cond_true,yW hk2,yW hi,zH,yB (k:=k) (by omega),List.getElem_take];cases l[k]==l[i]<;>rfl
 ·intro _
  rw[hlen];simp only[zAH,jM (Nat.le_refl i),cond_false]
theorem z32 (l:List Str):zFM l=some (zQT l):=by
 unfold zFM;rw[yE];by_cases h1:l.length=0
 ·have:l= []:=List.eq_nil_of_length_eq_zero h1
  subst this;rfl
 ·have h1':decide ((l.length:Int)<1)=false:=by simp;omega
  by_cases h2:l.length≤250
  ·have h3:decide (250<(l.length:Int))=false:=by simp;omega
   have hl:=zB6 (B:=Unit) l (fun k _=>(k:Int)) (body:=fun (x:Int)=>zB1 l x)
    (fun k x _=>if zHZ x&&(l.take k).all (fun y=>!(y==x)) then some (.next ()) else some (.done (.inr false))) (fun _=> .inl ()) ?_ ?_ ()
   ·have hval:∀(xs pre:List Str),l=pre++xs→zKX (B:=Unit) (fun k x _=>if zHZ x&&(l.take k).all (fun y=>!(y==x)) then some (.next ()) else some (.done (Sum.inr false:Unit⊕Bool))) (fun _=> .inl ()) xs pre.length ()=some (if zGA pre xs then .inl () else .inr false):=by
     intro xs
     induction xs with
     | nil=>intro pre _;rfl
     | cons x xs ih=>
      intro pre e;have ht:l.take pre.length=pre:=by rw[e];simp
      have:=ih (pre++ [x]) (by simp[e]);simp only[zKX,zGA,ht];simp only[List.length_append,List.length_cons,List.length_nil,Nat.zero_add] at this;by_cases hn:zHZ x=true
      ·by_cases hm:x∈pre
       ·have:pre.all (fun y=>!(y==x))=false:=by
         rw[List.all_eq_false];exact⟨x,hm,by simp⟩
        simp[hn,hm,this]
       ·have h2:pre.all (fun y=>!(y==x))=true:=by
         rw[List.all_eq_true];intro y hy;simp;intro e;subst e;exact hm hy
        simp only[hn,h2,Bool.and_self,if_true,this,hm,decide_false,Bool.not_false,Bool.true_and]
      ·simp[hn]
    have e0:((0:Nat):Int)=0:=rfl;rw[e0] at hl;have h4:=hval l [] rfl;simp only[List.length_nil] at h4;simp only[h1',h3,Bool.or_self,cond_false,hl,h4,zH,zQT,h2,Nat.pos_of_ne_zero h1,decide_true,Bool.true_and];cases zGA [] l<;>rfl
   ·intro k _ hk
    simp only[zB1,k6 hk,cond_true,yW hk,zH,z3Z,zWF l hk h2,yB (k:=k) (by omega)];cases zHZ l[k]<;>cases (l.take k).all (fun y=>!(y==l[k]))<;>rfl
   ·intro _
    simp only[zB1,jM (Nat.le_refl _),cond_false]
  ·have h3:decide (250<(l.length:Int))=true:=by simp;omega
   simp[h1',h3,zQT,h2]
def zC9 (n:Int) (s:Span):Bool:=decide (0≤s.Lo)&&decide (s.Lo≤s.Hi)&&decide (s.Hi≤1114111)&&decide (1≤s.Value)&&decide (s.Value<n)
def zTU (a b:Span):Bool:=decide (a.Hi<b.Lo)&& !(decide (b.Lo=wi (a.Hi+1))&&decide (b.Value=a.Value))
def zG7:Option Span→Span→Bool
 | none,_=>true
 | some a,b=>zTU a b
def zHO (n:Int):Option Span→List Span→Bool
 | _,[]=>true
 | p,x::xs=>zC9 n x&&zG7 p x&&zHO n (some x) xs
def vP (p:Property):Bool:=zQT p.Names&&zHO p.Names.length none p.Spans
def zG8 (l:List Span) (k:Nat):Option Span:=if k=0 then none else l[k-1]?
theorem zR3 (n:Int) (l:List Span):∀(xs pre:List Span),l=pre++xs→zKX (B:=Unit) (fun k x _=>if zC9 n x&&zG7 (zG8 l k) x then some (.next ()) else some (.done (Sum.inr false:Unit⊕Bool))) (fun _=> .inl ()) xs pre.length ()=some (if zHO n pre.getLast? xs then .inl () else .inr false):=by
 intro xs
 induction xs with
 | nil=>intro pre _;rfl
 | cons x xs ih=>
  intro pre e;have ht:zG8 l pre.length=pre.getLast?:=by
   unfold zG8;rw[List.getLast?_eq_getElem?];cases pre with
   | nil=>rfl
   | cons a pre=>
    rw[if_neg (by simp),e,List.getElem?_append_left (by simp)]
  have:=ih (pre++ [x]) (by simp[e]);simp only[zKX,zHO,ht];simp only[List.length_append,List.length_cons,List.length_nil,Nat.zero_add,List.getLast?_append,List.getLast?_singleton,Option.some_or] at this;by_cases hs:(zC9 n x&&zG7 pre.getLast? x)=true
  · simp only[hs,if_true,this,Bool.true_and]
  ·
   have hs':(zC9 n x&&zG7 pre.getLast? x)=false:=by simpa using hs
   simp only[hs',Bool.false_and,Bool.false_eq_true,if_false]
theorem zR4 (a b:Int):decide (a≤b)= !decide (b<a):=by by_cases h:a≤b;simp[h];simp[h];omega
theorem z33 (p:Property) (hp:okProperty p):zC5 p=some (vP p):=by
 unfold zC5;rw[z30 _ hp.1.1,zH];cases hn:zQT p.Names with
 | false=>simp[vP,hn]
 | true=>
  have hlen:=hp.2.1;have hl:=zB6 (B:=Unit) p.Spans (fun k _=>(k:Int)) (body:=fun (x:Int)=>uI p x)
   (fun k x _=>if zC9 p.Names.length x&&zG7 (zG8 p.Spans k) x then some (.next ()) else some (.done (.inr false))) (fun _=> .inl ()) ?_ ?_ ()
  ·
   have e0:((0:Nat):Int)=0:=rfl;rw[e0] at hl;have h4:=zR3 p.Names.length p.Spans p.Spans [] rfl;simp only[List.length_nil,List.getLast?_nil] at h4;simp only[Bool.not_true,cond_false,hl,h4,zH,vP,hn,Bool.true_and];by_cases hs:zHO p.Names.length none p.Spans=true<;>simp[hs]
  ·
   intro k _ hk;simp only[uI,k6 hk,cond_true,yW hk,zH,yE,yB (k:=k) (by omega),zDV,wL];generalize hx:p.Spans[k]=x;by_cases hk0:k=0
   ·
    subst hk0;have hb:zC9 (p.Names.length:Int) x=(((decide (0≤x.Lo)&&decide (x.Lo≤1114111))&&(decide (0≤x.Hi)&&decide (x.Hi≤1114111))&&decide (x.Lo≤x.Hi))&& !decide (x.Value<1)&& !decide ((p.Names.length:Int)≤x.Value)):=by
     unfold zC9;rw[Bool.eq_iff_iff];simp;omega
    simp only[zG8,if_true,zG7,Bool.and_true,hb];generalize decide (x.Value<1)=q1;generalize decide ((p.Names.length:Int)≤x.Value)=q2;cases decide (0≤x.Lo)<;>cases decide (x.Lo≤1114111)<;>cases decide (0≤x.Hi)<;>cases decide (x.Hi≤1114111)<;>cases decide (x.Lo≤x.Hi)<;>cases q1<;>cases q2<;>rfl
   ·
    obtain⟨j,rfl⟩:∃j,k=j+1:=⟨k-1,by omega⟩;have hj:j<p.Spans.length:=by omega
    have hk0':decide (((j+1:Nat):Int)=0)=false:=by simp;omega
    have hpv:zG8 p.Spans (j+1)=some p.Spans[j]:=by simp[zG8,hj]
    rw[hpv];simp only[hk0',cond_false,zEJ (k:=j) (by omega),yW hj,zH,zG7];generalize p.Spans[j]=y;have hb:zC9 (p.Names.length:Int) x=(((decide (0≤x.Lo)&&decide (x.Lo≤1114111))&&(decide (0≤x.Hi)&&decide (x.Hi≤1114111))&&decide (x.Lo≤x.Hi))&& !decide (x.Value<1)&& !decide ((p.Names.length:Int)≤x.Value)):=by
     unfold zC9;rw[Bool.eq_iff_iff];simp;omega
    have hb2:decide (y.Hi<x.Lo)= !decide (x.Lo≤y.Hi):=by rw[zR4];simp
    simp only[hb,zTU,hb2];generalize decide (x.Value<1)=q1;generalize decide ((p.Names.length:Int)≤x.Value)=q2;generalize decide (x.Lo=wi (y.Hi+1))=q3;generalize decide (x.Value=y.Value)=q4;generalize decide (x.Lo≤y.Hi)=q5;generalize decide (0≤x.Lo)=q6;generalize decide (x.Lo≤1114111)=q7;generalize decide (0≤x.Hi)=q8;generalize decide (x.Hi≤1114111)=q9;generalize decide (x.Lo≤x.Hi)=q10;generalize hA:((q6&&q7)&&(q8&&q9)&&q10)=A;have hA2:((gM (q6&&q7) (some (q8&&q9))).bind fun t9=>some ((q6&&q7)&&t9&&q10))=some A:=by
     subst hA;cases q6<;>cases q7<;>simp[gM]
    cases q6<;>cases q7<;>cases q8<;>cases q9<;>cases q10<;>cases hA<;>cases q1<;>cases q2<;>cases q3<;>cases q4<;>cases q5<;>rfl
  ·
   intro _;simp only[uI,jM (Nat.le_refl _),cond_false]
theorem z0X (p:Property) (hp:okProperty p):zFN p=some (vP p):=by
 unfold zFN;rw[z32,zH];cases hn:zQT p.Names with
 | false=>simp[vP,hn]
 | true=>
  have hlen:=hp.2.1;have hl:=zB6 (B:=Unit) p.Spans (fun k _=>(k:Int)) (body:=fun (x:Int)=>zB2 p x)
   (fun k x _=>if zC9 p.Names.length x&&zG7 (zG8 p.Spans k) x then some (.next ()) else some (.done (.inr false))) (fun _=> .inl ()) ?_ ?_ ()
  ·
   have e0:((0:Nat):Int)=0:=rfl;rw[e0] at hl;have h4:=zR3 p.Names.length p.Spans p.Spans [] rfl;simp only[List.length_nil,List.getLast?_nil] at h4;simp only[Bool.not_true,cond_false,hl,h4,zH,vP,hn,Bool.true_and];by_cases hs:zHO p.Names.length none p.Spans=true<;>simp[hs]
  ·
   intro k _ hk;simp only[zB2,k6 hk,cond_true,yW hk,zH,yE,yB (k:=k) (by omega)];generalize hx:p.Spans[k]=x;have hb:zC9 (p.Names.length:Int) x=(!decide (x.Lo<0)&& !decide (x.Hi<x.Lo)&& !decide (1114111<x.Hi)&& !decide (x.Value<1)&& !decide ((p.Names.length:Int)≤x.Value)):=by
    unfold zC9;rw[Bool.eq_iff_iff];simp
   by_cases hk0:k=0
   ·
    subst hk0;simp only[zG8,if_true,zG7,Bool.and_true,hb];generalize decide (x.Value<1)=q1;generalize decide ((p.Names.length:Int)≤x.Value)=q2;have e0:decide ((0:Int)<((0:Nat):Int))=false:=rfl;simp only[e0,zBC,zH,Bool.false_and,cond_false];cases decide (x.Lo<0)<;>cases decide (x.Hi<x.Lo)<;>cases decide (1114111<x.Hi)<;>cases q1<;>cases q2<;>rfl
   ·
    obtain⟨j,rfl⟩:∃j,k=j+1:=⟨k-1,by omega⟩;have hj:j<p.Spans.length:=by omega
    have hk0':decide ((0:Int)<((j+1:Nat):Int))=true:=by rw[decide_eq_true_eq];omega
    have hpv:zG8 p.Spans (j+1)=some p.Spans[j]:=by simp[zG8,hj]
    rw[hpv];simp only[hk0',zEJ (k:=j) (by omega),yW hj,zH,zG7,wO,Bool.true_and];generalize p.Spans[j]=y;have hb2:decide (y.Hi<x.Lo)= !decide (x.Lo≤y.Hi):=by rw[zR4];simp
    simp only[hb,zTU,hb2];generalize decide (x.Value<1)=q1;generalize decide ((p.Names.length:Int)≤x.Value)=q2;cases q5:decide (x.Lo≤y.Hi) with
    | true=>
     simp only[Bool.not_true,zBC,zH,Bool.true_or,Bool.false_and];cases decide (x.Lo<0)<;>cases decide (x.Hi<x.Lo)<;>cases decide (1114111<x.Hi)<;>cases q1<;>cases q2<;>rfl
    | false=>
     simp only[Bool.not_false,wO,zH,Bool.false_or,Bool.true_and];cases q3:decide (x.Lo=wi (y.Hi+1)) with
     | false=>
      simp only[zBC,zH,Bool.false_and];cases decide (x.Lo<0)<;>cases decide (x.Hi<x.Lo)<;>cases decide (1114111<x.Hi)<;>cases q1<;>cases q2<;>rfl
     | true=>
      simp only[wO,zH,Bool.true_and];generalize decide (x.Value=y.Value)=q4;cases decide (x.Lo<0)<;>cases decide (x.Hi<x.Lo)<;>cases decide (1114111<x.Hi)<;>cases q1<;>cases q2<;>cases q4<;>rfl
  ·
   intro _;simp only[zB2,jM (Nat.le_refl _),cond_false]
def zTV:Property:={Names:=[[79,116,104,101,114]],Spans:=[]}
def cnt (p:Property):Property:=if vP p then p else zTV
theorem zPR (p:Property) (hp:okProperty p):u2 p=some (cnt p):=by unfold u2 cnt;rw[z33 p hp,zH];cases vP p<;>rfl
theorem zPS (p:Property) (hp:okProperty p):zCK p=some (cnt p):=by unfold zCK cnt;rw[z0X p hp,zH];cases vP p<;>rfl
theorem z34:vP zTV=true:=by decide
theorem z35 (p:Property):vP (cnt p)=true:=by unfold cnt;by_cases h:vP p=true;simp[h];simp[h,z34]
theorem zWG {n:Int}:∀{l:List Span} {q:Option Span},zHO n q l=true→List.Pairwise (fun a b=>a.Hi<b.Lo) l∧(∀x∈l,zC9 n x=true)∧∀a,q=some a→∀x∈l,a.Hi<x.Lo:=by
 intro l
 induction l with
 | nil=>intro q _;simp
 | cons x l ih=>
  intro q h;simp only[zHO,Bool.and_eq_true] at h;obtain⟨⟨h1,h2⟩,h3⟩:=h;obtain⟨i1,i2,i3⟩:=ih h3;refine⟨List.pairwise_cons.2 ⟨fun b hb=>i3 x rfl b hb,i1⟩,?_,?_⟩;intro y hy;cases List.mem_cons.1 hy with
  | inl e=>rw[e];exact h1
  | inr hy=>exact i2 y hy
  intro a ha y hy;subst ha;have h4:a.Hi<x.Lo:=by
   simp only[zG7,zTU,Bool.and_eq_true,decide_eq_true_eq] at h2;exact h2.1
  cases List.mem_cons.1 hy with
  | inl e=>rw[e];exact h4
  | inr hy=>
   have h5:=i3 x rfl y hy;simp only[zC9,Bool.and_eq_true,decide_eq_true_eq] at h1;omega
def inS (c:Int) (s:Span):Bool:=decide (s.Lo≤c)&&decide (c≤s.Hi)
def zNY (l:List Span) (c:Int):Int:=match l.find? (inS c) with
 | some s=>s.Value
 | none=>0
theorem z36 (c:Int) (l:List Span):∀k,zKX (B:=Unit) (fun _ x _=>if inS c x then some (.done (Sum.inr x.Value:Unit⊕Int)) else some (.next ())) (fun _=> .inl ()) l k ()=some (match l.find? (inS c) with | some s=> .inr s.Value | none=> .inl ()):=by
 induction l with
 | nil=>intro k;rfl
 | cons x l ih=>
  intro k;simp only[zKX,List.find?_cons];cases h:inS c x with
  | true=>simp
  | false=>simp[ih]
theorem yAU (p:Property) (hp:okProperty p):(cnt p).Spans.length≤9223372036854775807:=by unfold cnt;by_cases h:vP p=true;simp[h];exact hp.2.1;simp[h,zTV]
theorem z6V (p:Property) (hp:okProperty p) (c:Int):zH4 p c=some (zNY (cnt p).Spans c):=by
 unfold zH4;rw[zPS p hp,zH];generalize hq:cnt p=q;have hlen:=yAU p hp;rw[hq] at hlen;have hl:=zB6 (B:=Unit) q.Spans (fun k _=>(k:Int)) (body:=fun (x:Int)=>zDE q c x)
  (fun _ x _=>if inS c x then some (.done (.inr x.Value)) else some (.next ())) (fun _=> .inl ()) ?_ ?_ ()
 ·
  have e0:((0:Nat):Int)=0:=rfl;rw[e0] at hl;rw[hl,z36,zH];unfold zNY;cases q.Spans.find? (inS c)<;>rfl
 ·
  intro k _ hk;simp only[zDE,k6 hk,cond_true,yW hk,zH,yE,yB (k:=k) (by omega),inS];by_cases h0:q.Spans[k].Lo≤c
  · by_cases h:c≤q.Spans[k].Hi<;>simp[h,h0,gM]
  · simp[h0,gM]
 ·
  intro _;simp only[zDE,jM (Nat.le_refl _),cond_false]
theorem z0Y {n:Nat} (hn:n≤4611686018427387903) {f:Int→Option Bool} (q:Nat→Bool) (hf:∀k,k<n→f (k:Int)=some (q k)) (mono:∀i j,i≤j→j<n→q i=true→q j=true):
  ∃j,j≤n∧zFJ (n:Int) f=some (j:Int)∧(∀k,k<j→q k=false)∧(∀k,j≤k→k<n→q k=true):=by
 have key:∀(d lo hi:Nat),hi-lo≤d→lo≤hi→hi≤n→(∀k,k<lo→q k=false)→(∀k,hi≤k→k<n→q k=true)→
   ∃j,j≤n∧zX (fun (x:Int×Int)=>zAG f x.1 x.2) ((lo:Int),(hi:Int))=some (j:Int)∧(∀k,k<j→q k=false)∧(∀k,j≤k→k<n→q k=true):=by
  intro d
  induction d with
  | zero=>
   intro lo hi h1 h2 h3 h4 h5;have:lo=hi:=by omega
   subst this;refine⟨lo,h3,?_,h4,h5⟩;rw[j6];simp only[zAG,jM (Nat.le_refl _),cond_false]
  | succ d ih=>
   intro lo hi h1 h2 h3 h4 h5;by_cases e:lo=hi
   ·subst e
    refine⟨lo,h3,?_,h4,h5⟩;rw[j6];simp only[zAG,jM (Nat.le_refl _),cond_false]
   ·have hlt:lo<hi:=by omega
    have hm:wi ((wu (wi ((lo:Int)+(hi:Int))))/2 ^ 1)=(((lo+hi)/2:Nat):Int):=by
     rw[wN (n:=(lo:Int)+hi) (by omega) (by omega)];have:wu ((lo:Int)+(hi:Int))=(lo:Int)+hi:=by
      exact IntWalk.u64_in _ (by omega)
     rw[this,wN (by omega) (by omega)];omega
    have hmid:(lo+hi)/2<n:=by omega
    rw[j6];simp only[zAG,k6 hlt,cond_true,hm,hf _ hmid,zH];cases hq:q ((lo+hi)/2) with
    | true=>
     simp only[Bool.not_true,cond_false,zH];exact ih lo ((lo+hi)/2) (by omega) (by omega) (by omega) h4 (fun k hk hkn=>mono _ _ hk hkn hq)
    | false=>
     simp only[Bool.not_false,cond_true,zH,yB (k:=(lo+hi)/2) (by omega)];refine ih ((lo+hi)/2+1) hi (by omega) (by omega) h3 ?_ h5;intro k hk;cases hqk:q k with
     | false=>rfl
     | true=>
      have:=mono k ((lo+hi)/2) (by omega) hmid hqk;rw[hq] at this;cases this
 obtain⟨j,h1,h2,h3,h4⟩:=key n 0 n (by omega) (by omega) (by omega) (by intro k hk;omega) (by intro k hk hkn;omega)
 refine⟨j,h1,?_,h3,h4⟩;unfold zFJ;have e0:((0:Nat):Int)=0:=rfl;rw[e0] at h2;rw[h2];rfl
end Go.M
namespace Go.M
open Go.AV
structure Sm (p:Property):Prop where
 ok:okProperty p
 sp:p.Spans.length≤1000
theorem z6W {p:Property} (hp:Sm p):(cnt p).Spans.length≤1000:=by unfold cnt;by_cases h:vP p=true;simp[h];exact hp.sp;simp[h,zTV]
theorem z9N (p:Property) (hp:Sm p) (c:Int):zEF p c=some (zNY (cnt p).Spans c):=by
 unfold zEF;rw[zPR p hp.ok,zH];have hv:=z35 p;have hlen:=z6W hp;generalize cnt p=q at hv hlen;simp only[vP,Bool.and_eq_true] at hv;obtain⟨pw,hall,_⟩:=zWG hv.2;generalize q.Spans=l at pw hall hlen;have hge:∀i j (hi:i<l.length) (hj:j<l.length),i<j→l[i].Hi<l[j].Lo:=fun i j hi hj hij=>List.pairwise_iff_getElem.1 pw i j hi hj hij;have hlh:∀i (hi:i<l.length),l[i].Lo≤l[i].Hi:=by
  intro i hi;have:=hall l[i] (List.getElem_mem hi);simp only[zC9,Bool.and_eq_true,decide_eq_true_eq] at this;omega
 have hA:∀k,k<l.length→(fun x0=>zBY x0 l c) (k:Int)=some ((fun k=>match l[k]? with | some s=>decide (c≤s.Hi) | none=>true) k):=by
  intro k hk;simp only[zBY,yW hk,zH,List.getElem?_eq_getElem hk]
 have hB:∀i j,i≤j→j<l.length→(fun k=>match l[k]? with | some s=>decide (c≤s.Hi) | none=>true) i=true→(fun k=>match l[k]? with | some s=>decide (c≤s.Hi) | none=>true) j=true:=by
  intro i j hij hj hq;have hi:i<l.length:=by omega
  simp only[hj,List.getElem?_eq_getElem,decide_eq_true_eq,hi] at hq ⊢;by_cases e:i=j
  ·subst e;exact hq
  ·have h3:=hge i j hi hj (by omega)
   have h4:=hlh j hj;omega
 obtain⟨j,hj,hs,hlo,hhi⟩:=z0Y (n:=l.length) (by omega) (f:=fun x0=>zBY x0 l c) _ hA hB
 ·rw[hs,zH,yE]
  by_cases hjl:j<l.length
  ·have hq:=hhi j (Nat.le_refl _) hjl
   simp only[hjl,List.getElem?_eq_getElem,decide_eq_true_eq] at hq;simp only[k6 hjl,wO,yW hjl,zH,Bool.true_and];by_cases hlo2:l[j].Lo≤c
   ·have hf:l.find? (inS c)=some l[j]:=by
     rw[List.find?_eq_some_iff_getElem];refine⟨by simp[inS,hlo2,hq],j,hjl,rfl,?_⟩;intro k hk;have h2:=hlo k hk;have hkl:k<l.length:=by omega
     simp only[hkl,List.getElem?_eq_getElem,decide_eq_false_iff_not] at h2;simp[inS,h2]
    simp[zNY,hf,hlo2]
   ·have hf:l.find? (inS c)=none:=by
     rw[List.find?_eq_none];intro x hx;obtain⟨k,hk,rfl⟩:=List.getElem_of_mem hx;by_cases hkj:k<j
     ·have h2:=hlo k hkj
      simp only[hk,List.getElem?_eq_getElem,decide_eq_false_iff_not] at h2;simp[inS,h2]
     ·by_cases e:k=j
      ·subst e;simp[inS,hlo2]
      ·have h3:=hge j k hjl hk (by omega)
       have h4:=hlh j hjl;simp only[inS,Bool.and_eq_true,decide_eq_true_eq];omega
    simp[zNY,hf,hlo2]
  ·have hf:l.find? (inS c)=none:=by
    rw[List.find?_eq_none];intro x hx;obtain⟨k,hk,rfl⟩:=List.getElem_of_mem hx;have h2:=hlo k (by omega);simp only[hk,List.getElem?_eq_getElem,decide_eq_false_iff_not] at h2;simp[inS,h2]
   simp only[jM (Nat.le_of_not_lt hjl),zBC,zH,Bool.false_and,cond_false,zNY,hf]
theorem zXO {n:Int} {l:List Span} (hall:∀x∈l,zC9 n x=true) (hn:0<n) (c:Int):0≤zNY l c∧zNY l c<n:=by
 unfold zNY;cases hf:l.find? (inS c) with
 | none=>exact⟨Int.le_refl _,hn⟩
 | some s=>
  have:=hall s (List.mem_of_find?_eq_some hf);simp only[zC9,Bool.and_eq_true,decide_eq_true_eq] at this;simp only;omega
theorem zWI:∀{xs seen:List Str},zGA seen xs=true→∀x∈xs,zHZ x=true:=by
 intro xs
 induction xs with
 | nil=>intro _ _ x hx;cases hx
 | cons y ys ih=>
  intro seen h x hx;simp only[zGA,Bool.and_eq_true] at h;cases List.mem_cons.1 hx with
  | inl e=>rw[e];exact h.1.2
  | inr hx=>exact ih h.2 x hx
def zAI (p:Property) (c:Int):Str:=(cnt p).Names[(zNY (cnt p).Spans c).toNat]?.getD []
theorem zL6 (p:Property) (c:Int):kV (cnt p).Names (zNY (cnt p).Spans c)=some (zAI p c)∧zHZ (zAI p c)=true:=by
 have hv:=z35 p;unfold zAI;generalize cnt p=q at hv;simp only[vP,zQT,Bool.and_eq_true,decide_eq_true_eq] at hv;obtain⟨⟨⟨h0,h1⟩,h2⟩,h3⟩:=hv;obtain⟨_,hall,_⟩:=zWG h3;obtain⟨g0,g1⟩:=zXO hall (by omega) c;generalize zNY q.Spans c=g at g0 g1;obtain⟨k,rfl⟩:∃k:Nat,g=(k:Int):=⟨g.toNat,by omega⟩;have hk:k<q.Names.length:=by omega
 constructor;rw[yW hk];simp[hk];simp only[Int.toNat_natCast,List.getElem?_eq_getElem hk,Option.getD_some];exact zWI h2 _ (List.getElem_mem hk)
theorem z6X (p:Property) (hp:Sm p) (c:Int):zDR p c=some (zAI p c):=by unfold zDR;rw[zPR p hp.ok,zH,z9N p hp,zH,(zL6 p c).1];rfl
theorem zWJ (p:Property) (hp:Sm p) (c:Int):zGU p c=some (zAI p c):=by unfold zGU;rw[zPS p hp.ok,zH,z6V p hp.ok,zH,(zL6 p c).1];rfl
def zK1 (s:Str):Bool:=!(s== [67,111,109,109,111,110])&& !(s== [73,110,104,101,114,105,116,101,100])&& !(s== [79,116,104,101,114])
theorem zZD (s:Str):zIM s=some (zK1 s):=rfl
def uP (p:Property) (c:Int):Str:=if zK1 (zAI p c) then zAI p c else []
theorem zXP (p:Property) (c:Int):uP p c= []↔zK1 (zAI p c)=false:=by unfold uP;by_cases h:zK1 (zAI p c)=true;simp[h,zZC (zL6 p c).2];simp[h]
theorem z0Z {p:Property} {c:Int} (h:zK1 (zAI p c)=true):uP p c=zAI p c:=by simp[uP,h]
theorem zWK {κ ν:Type} [DecidableEq κ] (m:List (κ×ν)) (k k': κ) (v: ν):mget (wD m k v) k'=if k'=k then some v else mget m k':=by
 induction m with
 | nil=>simp only[wD,mget]
 | cons e m ih=>
  obtain⟨a,b⟩:=e;simp only[wD];by_cases h:k=a;subst h;by_cases h2:k'=k<;>simp[mget,h2];simp only[h,if_false,mget,ih];by_cases h2:k'=a;have:¬k'=k:=fun e=>h (e.symm.trans h2);simp[h2];intro e;exact absurd e.symm h;simp[h2]
theorem zPT (p:Property) (hp:Sm p) (t:List Int) (ht:t.length≤1000):uM p t=some (t.map (uP p)):=by
 unfold uM;rw[zTB (by omega),zH];have key:∀(n k:Nat) (m:List (Int×Str)) (r:List Str),k+n=t.length→r.length=t.length→(∀c s,mget m c=some s→s=uP p c)→
   zX (fun (x:Int×(List (Int×Str))×(List Str))=>jZ t p x.1 x.2.1 x.2.2) ((k:Int),m,r)=some (r.take k++(t.drop k).map (uP p)):=by
  intro n
  induction n with
  | zero=>
   intro k m r hk hr hm;have:k=t.length:=by omega
   subst this;rw[j6];simp only[jZ,jM (Nat.le_refl _),cond_false];simp[←hr]
  | succ n ih=>
   intro k m r hk hr hm;have hkt:k<t.length:=by omega
   have hkr:k<r.length:=by omega
   have fin:∀m',(∀c s,mget m' c=some s→s=uP p c)→zX (fun (x:Int×(List (Int×Str))×(List Str))=>jZ t p x.1 x.2.1 x.2.2) (((k+1:Nat):Int),m',r.set k (uP p t[k]))=some (r.take k++(t.drop k).map (uP p)):=by
    intro m' hm';rw[ih (k+1) m' _ (by omega) (by simp[hr]) hm'];rw[List.drop_eq_getElem_cons hkt,List.take_add_one];rw[List.take_set_of_le (Nat.le_refl _),List.getElem?_set_self hkr];simp only[Option.toList_some,List.map_cons,List.append_assoc,List.cons_append,List.nil_append]
   cases hg:mget m t[k] with
   | some s=>
    have:=hm _ _ hg;rw[yQ (x':=(((k+1:Nat):Int),m,r.set k (uP p t[k]))) (by
     simp only[jZ,k6 hkt,cond_true,yW hkt,zH,yB (k:=k) (by omega),yW hkr,wK,hg,Option.isSome_some,Bool.not_true,cond_false,xI,Option.getD_some,this,zG2 hkr])]
    exact fin m hm
   | none=>
    have hval:((cond (zAI p t[k]== [67,111,109,109,111,110]) (some (zAI p t[k]== [67,111,109,109,111,110])) (cond (zAI p t[k]== [73,110,104,101,114,105,116,101,100]) (some (zAI p t[k]== [73,110,104,101,114,105,116,101,100])) (some (zAI p t[k]== [79,116,104,101,114])))).bind fun (y4:Bool)=>
      cond y4 (some []) (some (zAI p t[k])))=some (uP p t[k]):=by
     unfold uP zK1;cases zAI p t[k]== [67,111,109,109,111,110]<;>cases zAI p t[k]== [73,110,104,101,114,105,116,101,100]<;>cases zAI p t[k]== [79,116,104,101,114]<;>rfl
    rw[yQ (x':=(((k+1:Nat):Int),wD m t[k] (uP p t[k]),r.set k (uP p t[k]))) (by
     simp only[jZ,k6 hkt,cond_true,yW hkt,zH,yB (k:=k) (by omega),yW hkr,wK,hg,Option.isSome_none,Bool.not_false,z6X p hp,hval,zG2 hkr])]
    apply fin;intro c s h;rw[zWK] at h;by_cases e:c=t[k]
    ·simp[e] at h;rw[e];exact h.symm
    ·simp[e] at h;exact hm c s h
 have:=key t.length 0 [] (List.replicate t.length []) (by omega) (by simp) (by intro c s h;cases h)
 have e0:((0:Nat):Int)=0:=rfl;rw[e0] at this;rw[this];simp
end Go.M
namespace Go.M
open Go.AV
theorem z38:∀(x y:Str),Op.bytesLess x y=decide (x<y)
 | [],[]=>by simp[Op.bytesLess]
 | _::_,[]=>by simp[Op.bytesLess]
 | [],_::_=>by simp[Op.bytesLess]
 | a::x,b::y=>by
  rw[Op.bytesLess,z38 x y];rw[Bool.eq_iff_iff];simp[List.cons_lt_cons_iff]
def SS (l:List Str):Prop:=l.Pairwise (· < ·)
theorem zZE (x:Str):¬x<x:=List.lt_irrefl x
theorem yAV {x y z:Str} (h:x<y) (h2:y<z):x<z:=List.lt_trans h h2
theorem yAW {x y:Str} (h:¬x<y) (h2:x≠y):y<x:=by by_cases h3:y<x;exact h3;exact absurd (List.le_antisymm (List.not_lt.1 h3) (List.not_lt.1 h)) h2
theorem z9O:∀{l m:List Str},SS l→SS m→(∀x,x∈l↔x∈m)→l=m:=by
 intro l
 induction l with
 | nil=>
  intro m _ _ h;cases m with
  | nil=>rfl
  | cons y m=>have:=(h y).2 (by simp);cases this
 | cons x l ih=>
  intro m hl hm h;cases m with
  | nil=>have:=(h x).1 (by simp);cases this
  | cons y m=>
   have hl':=List.pairwise_cons.1 hl;have hm':=List.pairwise_cons.1 hm;have hxy:x=y:=by
    have h1:=List.mem_cons.1 ((h x).1 (by simp));have h2:=List.mem_cons.1 ((h y).2 (by simp));cases h1 with
    | inl e=>exact e
    | inr h1=>
     cases h2 with
     | inl e=>exact e.symm
     | inr h2=>exact absurd (yAV (hl'.1 y h2) (hm'.1 x h1)) (zZE x)
   subst hxy;congr 1;apply ih hl'.2 hm'.2;intro z;constructor;intro hz;have:=List.mem_cons.1 ((h z).1 (by simp[hz]));cases this with
   | inl e=>subst e;exact absurd (hl'.1 z hz) (zZE z)
   | inr h=>exact h
   intro hz;have:=List.mem_cons.1 ((h z).2 (by simp[hz]));cases this with
   | inl e=>subst e;exact absurd (hm'.1 z hz) (zZE z)
   | inr h=>exact h
theorem z9P (l:List Str) (x:Str) (hl:l.length≤9223372036854775807):zH5 l x=some (decide (x∈l)):=by
 unfold zH5;have h:=zB6 (B:=Unit) l (fun k _=>(k:Int)) (body:=fun (i:Int)=>zDF l x i)
  (fun _ y _=>if !(y==x) then some (.next ()) else some (.done (.inr true))) (fun _=> .inl ()) ?_ ?_ ()
 ·rw[z0] at h
  rw[h,zLW,zH];by_cases hm:x∈l
  ·have:l.all (fun y=>!(y==x))=false:=by rw[List.all_eq_false];exact⟨x,hm,by simp⟩
   simp[this,hm]
  ·have:l.all (fun y=>!(y==x))=true:=by
    rw[List.all_eq_true];intro y hy;simp;intro e;subst e;exact hm hy
   rw[if_pos this];simp[hm]
 ·intro k _ hk
  simp only[zDF,k6 hk,cond_true,yW hk,zH,yB (k:=k) (by omega)];cases e:l[k]==x<;>simp
 ·intro _
  simp only[zDF,jM (Nat.le_refl _),cond_false]
theorem z6Y (l:List Str) (x:Str) (hl:l.length≤1000) (hs:SS l):∃r,zGV l x=some r∧SS r∧(∀y,y∈r↔y=x∨y∈l)∧r.length≤l.length+1:=by
 unfold zGV;rw[z9P l x (by omega),zH];by_cases hm:x∈l
 ·refine⟨l,by simp[hm],hs,?_,by omega⟩
  intro y;constructor
  ·exact Or.inr
  ·rintro (e | h)
   ·subst e;exact hm
   ·exact h
 ·simp only[hm,decide_false,cond_false]
  have key:∀(n k:Nat),k+n=l.length→(∀i (h:i<l.length),i<k→l[i]<x)→∃j,j≤l.length∧zX (fun (i:Int)=>zBB l x i) (k:Int)=some (j:Int)∧(∀i (h:i<l.length),i<j→l[i]<x)∧(∀h:j<l.length,¬l[j]<x):=by
   intro n
   induction n with
   | zero=>
    intro k hk hi;refine⟨k,by omega,?_,hi,by intro h;omega⟩
    apply yI;simp only[zBB,yE,jM (n:=l.length) (k:=k) (by omega),zBC,zH,Bool.false_and,cond_false]
   | succ n ih=>
    intro k hk hi;have hkl:k<l.length:=by omega
    by_cases hlt:l[k]<x
    ·obtain⟨j,h1,h2,h3,h4⟩:=ih (k+1) (by omega) (by
      intro i h hik;by_cases e:i=k
      ·subst e;exact hlt
      ·exact hi i h (by omega))
     refine⟨j,h1,?_,h3,h4⟩;rw[←h2];apply yQ;simp only[zBB,yE,k6 hkl,wO,yW hkl,zH,z38,hlt,decide_true,Bool.and_self,cond_true,yB (k:=k) (by omega)]
    ·refine⟨k,by omega,?_,hi,fun _=>hlt⟩
     apply yI;simp only[zBB,yE,k6 hkl,wO,yW hkl,zH,z38,hlt,decide_false,Bool.and_false,cond_false]
  obtain⟨j,hj,hloop,hlo,hhi⟩:=key l.length 0 (by omega) (by intro i h hi;omega)
  rw[z0] at hloop;have hlen1:(l.take j).length=j:=by simp;omega
  refine⟨l.take j++x::l.drop j,?_,?_,?_,?_⟩
  ·simp only[hloop,zH,z2R hj,z2S hj]
   rw[zAO (by simp;omega),zH,zAO (by simp;omega),zH,zAO (by simp;omega),zH]
   simp
  ·refine List.pairwise_append.2 ⟨List.Pairwise.sublist (List.take_sublist _ _) hs,List.pairwise_cons.2 ⟨?_,List.Pairwise.sublist (List.drop_sublist _ _) hs⟩,?_⟩
   ·intro y hy
    obtain⟨i,hi,rfl⟩:=List.getElem_of_mem hy;simp only[List.length_drop] at hi;have hjl:j<l.length:=by omega
    rw[List.getElem_drop];have h1:x<l[j]:=yAW (hhi hjl) (by intro e;exact hm (e▸List.getElem_mem hjl))
    by_cases e:i=0
    ·subst e;exact h1
    ·exact yAV h1 (List.pairwise_iff_getElem.1 hs j (j+i) hjl (by omega) (by omega))
   ·intro a ha b hb
    obtain⟨i,hi,rfl⟩:=List.getElem_of_mem ha;rw[hlen1] at hi;rw[List.getElem_take];have hil:i<l.length:=by omega
    cases List.mem_cons.1 hb with
    | inl e=>rw[e];exact hlo i hil hi
    | inr hb=>
     obtain⟨i2,hi2,rfl⟩:=List.getElem_of_mem hb;simp only[List.length_drop] at hi2;rw[List.getElem_drop];exact List.pairwise_iff_getElem.1 hs i (j+i2) hil (by omega) (by omega)
  ·intro y
   have:y∈l↔y∈l.take j∨y∈l.drop j:=by
    conv=>lhs;rw[←List.take_append_drop j l]
    exact List.mem_append
   rw[List.mem_append,List.mem_cons,this];constructor
   ·rintro (h | h | h)
    ·exact Or.inr (Or.inl h)
    ·exact Or.inl h
    ·exact Or.inr (Or.inr h)
   ·rintro (h | h | h)
    ·exact Or.inr (Or.inl h)
    ·exact Or.inl h
    ·exact Or.inr (Or.inr h)
  ·simp;omega
def z39 (rs r:List Str):Prop:=SS r∧∀y,y∈r↔y≠[]∧y∈rs
theorem yAX (p:Property) (hp:Sm p) (t:List Int) (ht:t.length≤500):∀(n k:Nat) (acc:List Str),k+n=t.length→acc.length≤k→SS acc→∃r,zX (fun (x:(List Str)×Int)=>zC7 t p x.1 x.2) (acc,(k:Int))=some r∧SS r∧(∀y,y∈r↔y∈acc∨(y≠[]∧y∈(t.drop k).map (uP p)))∧r.length≤t.length:=by
 intro n
 induction n with
 | zero=>
  intro k acc hk ha hs;have:k=t.length:=by omega
  subst this;refine⟨acc,?_,hs,by simp,ha⟩;apply yI;simp only[zC7,jM (Nat.le_refl _),cond_false]
 | succ n ih=>
  intro k acc hk ha hs;have hkt:k<t.length:=by omega
  rw[List.drop_eq_getElem_cons hkt,List.map_cons];cases hr:zK1 (zAI p t[k]) with
  | false=>
   obtain⟨r,h1,h2,h3,h4⟩:=ih (k+1) acc (by omega) (by omega) hs;have hz:=(zXP p t[k]).2 hr;refine⟨r,?_,h2,?_,h4⟩;rw[←h1];apply yQ;simp only[zC7,k6 hkt,cond_true,yW hkt,zH,zWJ p hp,zZD,hr,cond_false,yB (k:=k) (by omega)];intro y;rw[h3 y,hz,List.mem_cons];constructor
   rintro (h | ⟨h,h'⟩)
   exact Or.inl h;exact Or.inr ⟨h,Or.inr h'⟩
   rintro (h | ⟨h,h' | h'⟩)
   exact Or.inl h;exact absurd h' h;exact Or.inr ⟨h,h'⟩
  | true=>
   obtain⟨acc',a1,a2,a3,a4⟩:=z6Y acc (zAI p t[k]) (by omega) hs;obtain⟨r,h1,h2,h3,h4⟩:=ih (k+1) acc' (by omega) (by omega) a2;have hz:=z0Z hr;have hne:zAI p t[k]≠[]:=zZC (zL6 p t[k]).2;refine⟨r,?_,h2,?_,h4⟩;rw[←h1];apply yQ;simp only[zC7,k6 hkt,cond_true,yW hkt,zH,zWJ p hp,zZD,hr,a1,yB (k:=k) (by omega)];intro y;rw[h3 y,a3 y,hz,List.mem_cons];constructor
   rintro ((h | h) | ⟨h,h'⟩)
   subst h;exact Or.inr ⟨hne,Or.inl rfl⟩;exact Or.inl h;exact Or.inr ⟨h,Or.inr h'⟩
   rintro (h | ⟨h,h' | h'⟩)
   exact Or.inl (Or.inr h);exact Or.inl (Or.inl h');exact Or.inr ⟨h,h'⟩
theorem ROf (p:Property) (hp:Sm p) (t:List Int) (ht:t.length≤500):∃r,zGW p t=some r∧z39 (t.map (uP p)) r:=by obtain⟨r,h1,h2,h3,_⟩:=yAX p hp t ht t.length 0 [] (by omega) (by simp) List.Pairwise.nil;refine⟨r,?_,h2,?_⟩;unfold zGW;rw[z0] at h1;rw[h1];rfl;intro y;rw[h3 y];simp
theorem yAY (rs:List Str) (ht:rs.length≤1000):∀(n k:Nat) (m:List (Str×Bool)) (out:List Str),k+n=rs.length→out.length≤k→out.Nodup→(∀s,xI m s false=true↔s∈out)→∃r,zX (fun (x:Int×(List (Str×Bool))×(List Str))=>uS rs x.1 x.2.1 x.2.2) ((k:Int),m,out)=some r∧r.Nodup∧(∀y,y∈r↔y∈out∨(y≠[]∧y∈rs.drop k))∧r.length≤rs.length:=by
 intro n
 induction n with
 | zero=>
  intro k m out hk ho hn hm;have:k=rs.length:=by omega
  subst this;refine⟨out,?_,hn,by simp,ho⟩;apply yI;simp only[uS,jM (Nat.le_refl _),cond_false]
 | succ n ih=>
  intro k m out hk ho hn hm;have hkt:k<rs.length:=by omega
  rw[List.drop_eq_getElem_cons hkt];by_cases hz:rs[k]= []
  ·obtain⟨r,h1,h2,h3,h4⟩:=ih (k+1) m out (by omega) (by omega) hn hm
   refine⟨r,?_,h2,?_,h4⟩
   ·rw[←h1]
    apply yQ;simp[uS,yW hkt,hz,hkt,yB (k:=k) (by omega),pv]
   ·intro y
    rw[h3 y,hz,List.mem_cons];constructor
    ·rintro (h | ⟨h,h'⟩)
     ·exact Or.inl h
     ·exact Or.inr ⟨h,Or.inr h'⟩
    ·rintro (h | ⟨h,h' | h'⟩)
     ·exact Or.inl h
     ·exact absurd h' h
     ·exact Or.inr ⟨h,h'⟩
  ·have hz':(rs[k]== [])=false:=by simpa using hz
   by_cases hin:rs[k]∈out
   ·obtain⟨r,h1,h2,h3,h4⟩:=ih (k+1) m out (by omega) (by omega) hn hm
    refine⟨r,?_,h2,?_,h4⟩
    ·rw[←h1]
     apply yQ;simp only[uS,k6 hkt,cond_true,yW hkt,zH,yE,hz',(hm rs[k]).2 hin,Bool.not_true,Bool.and_false,cond_false,yB (k:=k) (by omega)]
    ·intro y
     rw[h3 y,List.mem_cons];constructor
     ·rintro (h | ⟨h,h'⟩)
      ·exact Or.inl h
      ·exact Or.inr ⟨h,Or.inr h'⟩
     ·rintro (h | ⟨h,h' | h'⟩)
      ·exact Or.inl h
      ·exact Or.inl (h'▸hin)
      ·exact Or.inr ⟨h,h'⟩
   ·have hg:xI m rs[k] false=false:=by
     cases hc:xI m rs[k] false with
     | false=>rfl
     | true=>exact absurd ((hm _).1 hc) hin
    obtain⟨r,h1,h2,h3,h4⟩:=ih (k+1) (wD m rs[k] true) (out++ [rs[k]]) (by omega) (by simp;omega) (by
      rw[List.nodup_append];refine⟨hn,by simp,?_⟩;intro a ha b hb e;simp at hb;subst hb;subst e;exact hin ha) (by
      intro s;simp only[xI,zWK,List.mem_append,List.mem_singleton];by_cases e:s=rs[k]
      ·simp[e]
      ·simp only[e,if_false,or_false];exact hm s)
    refine⟨r,?_,h2,?_,h4⟩
    ·rw[←h1]
     apply yQ;simp only[uS,k6 hkt,cond_true,yW hkt,zH,yE,hz',hg,Bool.not_false,Bool.and_self,yB (k:=k) (by omega)];rw[zAO (by simp;omega)];rfl
    ·intro y
     rw[h3 y,List.mem_cons,List.mem_append,List.mem_singleton];constructor
     ·rintro ((h | h) | ⟨h,h'⟩)
      ·exact Or.inl h
      ·exact Or.inr ⟨by rw[h];exact hz,Or.inl h⟩
      ·exact Or.inr ⟨h,Or.inr h'⟩
     ·rintro (h | ⟨h,h' | h'⟩)
      ·exact Or.inl (Or.inl h)
      ·exact Or.inl (Or.inr h')
      ·exact Or.inr ⟨h,h'⟩
theorem POf (p:Property) (hp:Sm p) (t:List Int) (ht:t.length≤500):∃r,zC6 p t=some r∧z39 (t.map (uP p)) r:=by
 obtain⟨r,h1,h2,h3,h4⟩:=yAY (t.map (uP p)) (by simp;omega) (t.map (uP p)).length 0 [] [] (by omega) (by simp) List.Pairwise.nil (by intro s;simp[xI,mget])
 rw[List.length_map] at h4;refine⟨r.mergeSort fun x y=>decide (x≤y),?_,?_,?_⟩
 ·unfold zC6
  rw[zPT p hp t (by omega),zH];rw[z0] at h1;rw[h1,zH,zYA,if_pos (by unfold LIM;omega)];rfl
 ·have hpw:=List.pairwise_mergeSort (le:=fun (x y:Str)=>decide (x≤y)) (by
   intro a b c h1 h2;simp only[decide_eq_true_eq] at h1 h2 ⊢;exact List.le_trans h1 h2) (by
   intro a b;simp only[Bool.or_eq_true,decide_eq_true_eq];exact List.le_total a b) r
  have hnd:(r.mergeSort fun x y=>decide (x≤y)).Nodup:=(List.mergeSort_perm r _).nodup_iff.2 h2;refine List.Pairwise.imp₂ ?_ hpw hnd;intro a b hab hne;simp only[decide_eq_true_eq] at hab;by_cases h:a<b
  ·exact h
  ·exact absurd (List.le_antisymm hab (List.not_lt.1 h)) hne
 ·intro y
  rw[List.mem_mergeSort,h3 y];simp
theorem zM2 {rs r r':List Str} (h:z39 rs r) (h':z39 rs r'):r=r':=z9O h.1 h'.1 (fun x=>(h.2 x).trans (h'.2 x).symm)
noncomputable def ofP (p:Property) (t:List Int):List Str:=(zC6 p t).getD []
theorem z7P (p:Property) (hp:Sm p) (t:List Int) (ht:t.length≤500):zC6 p t=some (ofP p t):=by obtain⟨r,h,_⟩:=POf p hp t ht;unfold ofP;rw[h];rfl
theorem z4A (p:Property) (hp:Sm p) (t:List Int) (ht:t.length≤500):z39 (t.map (uP p)) (ofP p t):=by obtain⟨r,h,h2⟩:=POf p hp t ht;unfold ofP;rw[h];exact h2
theorem z4B (p:Property) (hp:Sm p) (t:List Int) (ht:t.length≤500):zGW p t=some (ofP p t):=by obtain⟨r,h,h2⟩:=ROf p hp t ht;rw[h,zM2 h2 (z4A p hp t ht)]
theorem z4C {l:List Str} (h:SS l):l.Nodup:=by refine List.Pairwise.imp (S:=fun a b=>a≠b) ?_ h;intro a b hab e;subst e;exact zZE a hab
theorem z00 {l m:List Str} (h:l.Nodup) (hs:∀x∈l,x∈m):l.length≤m.length:=by
 induction l generalizing m with
 | nil=>simp
 | cons x l ih=>
  have hx:=hs x (by simp);have h':=List.nodup_cons.1 h;have:=ih (m:=m.erase x) h'.2 (by
   intro y hy;have hne:y≠x:=fun e=>h'.1 (e▸hy);exact(List.mem_erase_of_ne hne).2 (hs y (by simp[hy])))
  rw[List.length_erase_of_mem hx] at this;have hpos:=List.length_pos_of_mem hx;simp only[List.length_cons];omega
theorem zOC (p:Property) (hp:Sm p) (t:List Int) (ht:t.length≤500):(ofP p t).length≤t.length:=by have:=z00 (z4C (z4A p hp t ht).1) (m:=t.map (uP p)) (fun x hx=>(((z4A p hp t ht).2 x).1 hx).2);simpa using this
end Go.M
namespace Go.M
open Go.AV
structure SmL (l:List Mapping):Prop where
 n:l.length≤20
 to:∀m∈l,m.To.length≤65
 tag:∀m∈l,m.Tag.length≤40
theorem s22 {n:Norm} (hl:n.Decomp.length≤40):∀(m k:Nat),k+m=n.Decomp.length→∃y,zX (fun (x:Int)=>vI n x) (k:Int)=some y∧(y= .inr false∨(y= .inl ()∧∀x∈n.Decomp.drop k,x.To.length≤70∧x.Tag.length≤40))
 | 0,k,h=>⟨.inl (),yI (by simp only[vI,jM (show n.Decomp.length≤k by omega),cond_false]),.inr ⟨rfl,by rw[List.drop_of_length_le (by omega)];intro x hx;cases hx⟩⟩
 | m+1,k,h=>by
  have hk:k<n.Decomp.length:=by omega
  by_cases h1:70<n.Decomp[k].To.length;have e:decide ((70:Int)<(n.Decomp[k].To.length:Int))=true:=by simp;omega
  exact⟨.inr false,yI (by simp only[vI,k6 hk,cond_true,yW hk,zH,yE,e,Bool.not_true,zBC,Bool.true_or]),.inl rfl⟩;have e:decide ((70:Int)<(n.Decomp[k].To.length:Int))=false:=by simp;omega
  by_cases h2:40<n.Decomp[k].Tag.length;have e2:decide ((40:Int)<(n.Decomp[k].Tag.length:Int))=true:=by simp;omega
  exact⟨.inr false,yI (by simp only[vI,k6 hk,cond_true,yW hk,zH,yE,e,Bool.not_false,wO,e2,Bool.or_true]),.inl rfl⟩;have e2:decide ((40:Int)<(n.Decomp[k].Tag.length:Int))=false:=by simp;omega
  obtain⟨y,h3,h4⟩:=s22 hl m (k+1) (by omega);refine⟨y,?_,?_⟩;rw[yQ (x':=((k+1:Nat):Int)) (by simp only[vI,k6 hk,cond_true,yW hk,zH,yE,e,Bool.not_false,wO,e2,Bool.or_self,cond_false,yB (k:=k) (by omega)])];exact h3;rcases h4 with h4 | ⟨h4,h5⟩;exact .inl h4;refine .inr ⟨h4,?_⟩;rw[List.drop_eq_getElem_cons hk];intro x hx;rcases List.mem_cons.1 hx with rfl | hx;exact⟨by omega,by omega⟩;exact h5 x hx
theorem z6Z (n:Norm):∃b,zE8 n=some b∧(b=true→NSm n):=by
 unfold zE8;by_cases h:40<n.Classes.length∨40<n.Decomp.length∨12<n.Excluded.Ranges.length;have e:((decide ((40:Int)<(n.Classes.length:Int)) ||decide ((40:Int)<(n.Decomp.length:Int))) ||decide ((12:Int)<(n.Excluded.Ranges.length:Int)))=true:=by simp;omega
 simp only[yE,e,cond_true];exact⟨false,rfl,fun h=>by cases h⟩;have e:((decide ((40:Int)<(n.Classes.length:Int)) ||decide ((40:Int)<(n.Decomp.length:Int))) ||decide ((12:Int)<(n.Excluded.Ranges.length:Int)))=false:=by simp;omega
 obtain⟨y,h3,h4⟩:=s22 (n:=n) (by omega) n.Decomp.length 0 (by omega);rw[show ((0:Nat):Int)=0 from rfl] at h3;simp only[yE,e,cond_false,h3,zH];rcases h4 with rfl | ⟨rfl,h5⟩;exact⟨false,rfl,fun h=>by cases h⟩;rw[List.drop_zero] at h5;exact⟨true,rfl,fun _=>⟨by omega,by omega,fun m hm=>(h5 m hm).1,fun m hm=>(h5 m hm).2,by omega⟩⟩
theorem yAZ (d:Unicodetextlaw41_Data):∃b,zH3 d=some b∧(b=true→NSm d.Norm∧SmL d.Map):=by
 unfold zH3;obtain⟨b1,h1,p1⟩:=z6Z d.Norm;obtain⟨b2,h2,p2⟩:=z58 d.Map;rw[h1,zH,yE,h2];cases b1 with
 | false=>exact⟨false,rfl,fun h=>by cases h⟩
 | true=>exact⟨b2,by simp[wO],fun h=>⟨p1 rfl,(p2 h).1,(p2 h).2.1,(p2 h).2.2⟩⟩
open Classical in
noncomputable def vL (l:List Mapping):List Mapping:=if MV l then l else []
def z4D (m:Mapping):Mapping_key:={from_:=m.From,tag:=m.Tag}
def zEN (l:List Mapping):List (Mapping_key×List Int):=l.map fun m=>(z4D m,m.To)
def fdE (l:List Mapping) (x:Int):Option Mapping:=l.find? fun m=>decide (m.From=x)&&(m.Tag== [])
def apE (l:List Mapping) (x:Int):List Int:=match fdE l x with
 | some m=>m.To
 | none=>[x]
structure Fd (l:List Mapping):Prop where
 sm:SmL l
 mv:MV l
theorem MV.nil:MV []:=⟨by simp,by simp,by simp,fun k hk=>by simp at hk⟩
theorem z7Q {l:List Mapping} (hs:SmL l):Fd (vL l):=by unfold vL;split;rename_i h;exact⟨hs,h⟩;exact⟨⟨by simp,by simp,by simp⟩,MV.nil⟩
theorem zR5 {l:List Mapping} (h:MV l):vL l=l:=if_pos h
theorem z4E {l:List Mapping} (h:¬MV l):vL l= []:=if_neg h
theorem z9Q {l:List Mapping} {m:Mapping} (h:m∈vL l):m∈l:=by unfold vL at h;split at h;exact h;cases h
theorem SmL.ver {l:List Mapping} (h:SmL l):Ver (uR l) (MV l):=z2Y (by have:=h.n;omega) (fun m hm=>by have:=h.to m hm;omega) (fun m hm=>by have:=h.tag m hm;unfold MX;omega)
theorem SmL.verR {l:List Mapping} (h:SmL l):Ver (zCY l) (MV l):=z3N (by have:=h.n;omega) (fun m hm=>by have:=h.to m hm;omega) (fun m hm=>by have:=h.tag m hm;unfold MX;omega)
theorem z01 {m:List (Mapping_key×List Int)} {k:Mapping_key} {v:List Int} (h:∀p∈m,p.1≠k):wD m k v=m++ [(k,v)]:=by
 induction m with
 | nil=>rfl
 | cons p m ih=>
  obtain⟨q,u⟩:=p;have:k≠q:=fun e=>h (q,u) (by simp) e.symm;simp only[wD,this,if_false,List.cons_append];rw[ih fun p hp=>h p (by simp[hp])]
theorem z9R {l:List Mapping} (h:MV l) {i j:Nat} (hij:i<j) (hj:j<l.length):z4D (nth l i)≠z4D (nth l j):=by have:=zTK h.lt (j-i-1) i (by omega);rw[show i+(j-i-1)+1=j by omega] at this;intro e;unfold z4D at e;simp only[Mapping_key.mk.injEq] at e;exact zY0 this e
theorem z4F {l:List Mapping} (hl:l.length≤20) (h:MV l):∀(n k:Nat),l.length-k=n→k≤l.length→zX (fun (x:Int×(List (Mapping_key×(List Int))))=>wZ l x.1 x.2) ((k:Int),zEN (l.take k))=some (zEN l):=by
 intro n
 induction n with
 | zero=>
  intro k hk hk2;rw[yI (y:=zEN (l.take k)) (by simp only[wZ,jM (show l.length≤k by omega),cond_false])];rw[List.take_of_length_le (by omega)]
 | succ n ih=>
  intro k hk hk2;have hlt':k<l.length:=by omega
  rw[yQ (x':=(((k+1:Nat):Int),zEN (l.take (k+1)))) ?_];exact ih (k+1) (by omega) (by omega);simp only[wZ,k6 hlt',cond_true,yW hlt',zH,zA7,yB (k:=k) (by omega)];congr 3;rw[z01];unfold zEN;rw[List.take_add_one,List.getElem?_eq_getElem hlt',List.map_append];rfl;intro p hp;unfold zEN at hp;obtain⟨m,hm,rfl⟩:=List.mem_map.1 hp;obtain⟨i,hi,rfl⟩:=List.getElem_of_mem hm;rw[List.length_take] at hi;have:=z9R h (i:=i) (j:=k) (by omega) hlt';rw[vU (by omega),vU hlt'] at this;rw[List.getElem_take];exact this
section
variable {l:List Mapping}
theorem zNH (x:Int):mget (zEN l) {from_:=x,tag:=[]}=(fdE l x).map (·.To):=by
 unfold fdE
 induction l with
 | nil=>rfl
 | cons m l ih=>
  unfold zEN at ih ⊢;simp only[List.map_cons,mget,List.find?_cons,z4D,Mapping_key.mk.injEq];by_cases h:x=m.From;by_cases h2:m.Tag= [];simp[h,h2];have h3:¬([]:Str)=m.Tag:=fun e=>h2 e.symm;have h4:(m.Tag== [])=false:=by rw[zTL];simp[h2]
  simp only[h3,and_false,if_false,h4,Bool.and_false];exact ih;have h2:¬m.From=x:=fun e=>h e.symm;simp only[h,false_and,if_false,h2,decide_false,Bool.false_and];exact ih
theorem zWL (x:Int):wK (zEN l) {from_:=x,tag:=[]}=(fdE l x).isSome:=by unfold wK;rw[zNH];cases fdE l x<;>rfl
theorem zTX {x:Int} {m:Mapping} (h:fdE l x=some m):xI (zEN l) {from_:=x,tag:=[]} []=apE l x:=by unfold xI apE;rw[zNH,h];rfl
theorem zWM {x:Int} (h:fdE l x=none):apE l x= [x]:=by unfold apE;rw[h]
theorem z4G {x:Int} {m:Mapping} (h:fdE l x=some m):apE l x=m.To:=by unfold apE;rw[h]
theorem zWN {x:Int} {m:Mapping} (h:fdE l x=some m):m∈l∧m.From=x∧m.Tag= []:=by have h1:=List.find?_some h;simp only[Bool.and_eq_true,decide_eq_true_eq,zTL] at h1;exact⟨List.mem_of_find?_eq_some h,h1.1,h1.2⟩
variable (hF:Fd l)
include hF
theorem zTY (x:Int):(apE l x).length≤65:=by unfold apE;split;rename_i m h;exact hF.sm.to m (zWN h).1;simp
theorem z4H {text:List Int}:(text.flatMap (apE l)).length≤65*text.length:=by
 induction text with
 | nil=>simp
 | cons x t ih=>
  have:=zTY hF x;rw[List.flatMap_cons,List.length_append,List.length_cons];omega
theorem z4I {text:List Int} (ht:text.length≤4000):∀(n k:Nat),text.length-k=n→k≤text.length→
  zX (fun (x:Int×(List Int))=>w7 text (zEN l) [] x.1 x.2) ((k:Int),(text.take k).flatMap (apE l))=some (text.flatMap (apE l)):=by
 intro n
 induction n with
 | zero=>
  intro k hk hk2;rw[yI (y:=(text.take k).flatMap (apE l)) (by simp only[w7,jM (show text.length≤k by omega),cond_false])];rw[List.take_of_length_le (by omega)]
 | succ n ih=>
  intro k hk hk2;have hlt':k<text.length:=by omega
  have h1:=z4H hF (text:=text.take k);rw[List.length_take] at h1;have h2:=zTY hF text[k];rw[yQ (x':=(((k+1:Nat):Int),(text.take (k+1)).flatMap (apE l))) ?_]
  ·exact ih (k+1) (by omega) (by omega)
  ·have hnx:(text.take (k+1)).flatMap (apE l)=(text.take k).flatMap (apE l)++apE l text[k]:=by
    rw[List.take_add_one,List.getElem?_eq_getElem hlt',List.flatMap_append];simp
   simp only[w7,k6 hlt',cond_true,yW hlt',zH,zWL,yB (k:=k) (by omega),hnx];cases hk:fdE l text[k] with
   | some m=>rw[Option.isSome_some,cond_true,zTX hk,zAO (by omega)];rfl
   | none=>rw[Option.isSome_none,cond_false,zAO (by rw[List.length_singleton];omega),zWM hk];rfl
end
theorem z4J {l:List Mapping} (hs:SmL l) {text:List Int} (ht:text.length≤4000):zDQ l [] text=some (text.flatMap (apE (vL l))):=by unfold zDQ;obtain⟨e,he,hp⟩:=hs.ver;have h1:=z4I (z7Q hs) ht text.length 0 (by omega) (by omega);have h1':zX (fun (x:Int×(List Int))=>w7 text (zEN (vL l)) [] x.1 x.2) (0,[])=some (text.flatMap (apE (vL l))):=h1;rw[he,zH];by_cases hz:e=0;have hv:=hp.1 hz;have h0:=z4F hs.n hv l.length 0 (by omega) (by omega);have h0':zX (fun (x:Int×(List (Mapping_key×(List Int))))=>wZ l x.1 x.2) (0,[])=some (zEN l):=h0;rw[zR5 hv] at h1' ⊢;simp only[hz,decide_true,cond_true,h0',zH,h1'];have hv:¬MV l:=fun h=>hz (hp.2 h);rw[z4E hv] at h1' ⊢;have h2:(zEN [])= []:=rfl;rw[h2] at h1';simp only[hz,decide_false,cond_false,zH,h1']
theorem z4K {l:List Mapping} (hF:Fd l) (x:Int):zGS l x []=some (match fdE l x with | some m=>(m.To,true) | none=>([],false)):=by
 unfold zGS;have h:=zIA l (body:=fun (y:Int)=>zCI l x [] y) (fun _ m=>if decide (m.From=x)&&(m.Tag== []) then some (true,m.To) else none) (fun k hk=>by
  have:=hF.sm.n;have h2:=hF.sm.to _ (List.getElem_mem hk);simp only[zCI,k6 hk,cond_true,yW hk,zH,yE,yB (k:=k) (by omega)];cases h0:decide (l[k].From=x) with
  | false=>simp[zBC,stp]
  | true=>
   simp only[wO,zH,Bool.true_and];cases h1:(l[k].Tag== []) with
   | false=>simp[stp]
   | true=>rw[cond_true,zAO (by simp;omega)];simp[stp]) (fun k hk=>by simp only[zCI,jM hk,cond_false])
 rw[h,zH];have key:∀(l:List Mapping) (k:Nat),chk (fun _ (m:Mapping)=>if decide (m.From=x)&&(m.Tag== []) then some (true,m.To) else none) l k=(l.find? fun m=>decide (m.From=x)&&(m.Tag== [])).map fun m=>(true,m.To):=by
  intro l
  induction l with
  | nil=>intro _;rfl
  | cons m l ih=>
   intro k;rw[chk,List.find?_cons];cases decide (m.From=x)&&(m.Tag== []) with
   | true=>rfl
   | false=>exact ih (k+1)
 rw[key];unfold fdE;cases l.find? fun m=>decide (m.From=x)&&(m.Tag== []) with
 | none=>rfl
 | some m=>rfl
theorem z60 {l:List Mapping} (hs:SmL l):zFF l=some (vL l):=by unfold zFF vL;obtain⟨e,he,hp⟩:=hs.verR;rw[he,zH];by_cases hz:e=0;rw[if_pos (hp.1 hz)];simp[hz];rw[if_neg (fun h=>hz (hp.2 h))];simp[hz]
theorem zWO {l:List Mapping} (hF:Fd l) {text:List Int} (ht:text.length≤4000):∀(n k:Nat),text.length-k=n→k≤text.length→
  zX (fun (x:Int×(List Int))=>zAE text l [] x.1 x.2) ((k:Int),(text.take k).flatMap (apE l))=some (text.flatMap (apE l)):=by
 intro n
 induction n with
 | zero=>
  intro k hk hk2;rw[yI (y:=(text.take k).flatMap (apE l)) (by simp only[zAE,jM (show text.length≤k by omega),cond_false])];rw[List.take_of_length_le (by omega)]
 | succ n ih=>
  intro k hk hk2;have hlt':k<text.length:=by omega
  have h1:=z4H hF (text:=text.take k);rw[List.length_take] at h1;have h2:=zTY hF text[k];rw[yQ (x':=(((k+1:Nat):Int),(text.take (k+1)).flatMap (apE l))) ?_]
  ·exact ih (k+1) (by omega) (by omega)
  ·have hnx:(text.take (k+1)).flatMap (apE l)=(text.take k).flatMap (apE l)++apE l text[k]:=by
    rw[List.take_add_one,List.getElem?_eq_getElem hlt',List.flatMap_append];simp
   simp only[zAE,k6 hlt',cond_true,yW hlt',zH,z4K hF,yB (k:=k) (by omega),hnx];cases hk:fdE l text[k] with
   | some m=>rw[z4G hk] at h2 ⊢;simp only[cond_true];rw[zAO (by omega)];rfl
   | none=>rw[zWM hk];simp only[cond_false];rw[zAO (by rw[List.length_singleton];omega)];rfl
theorem zR6 {l:List Mapping} (hs:SmL l) {text:List Int} (ht:text.length≤4000):zD3 l [] text=some (text.flatMap (apE (vL l))):=by unfold zD3;rw[z60 hs,zH];have:=zWO (z7Q hs) ht text.length 0 (by omega) (by omega);have h2:(zX (fun (x:Int×(List Int))=>zAE text (vL l) [] x.1 x.2) (0,[]))=some (text.flatMap (apE (vL l))):=this;rw[h2];rfl
end Go.M
namespace Go.M
open Go.AV
theorem z61 {a b:List Int} (ha:a.length≤1000000):vR a b=some (decide (a=b)):=by
 unfold vR;by_cases hl:a.length=b.length;have h0:(!decide ((a.length:Int)=(b.length:Int)))=false:=by simp[hl]
 rw[h0,cond_false];have h:=jD (body:=fun (x:Int)=>xK a b x) a.length (fun j=>nth a j=nth b j) (fun y=>y=false) (fun j hj=>by
  have hj':j<b.length:=by omega
  simp only[xK,k6 hj,cond_true,yR hj,yR hj',zH,yB (k:=j) (by omega)];exact wP (by simp) rfl) (fun j hj=>by simp only[xK,jM hj,cond_false])
 have hiff:(∀j,j<a.length→nth a j=nth b j)↔a=b:=by
  constructor;intro h;apply List.ext_getElem hl;intro i h1 h2;have:=h i h1
  rwa [vU h1,vU h2] at this
  intro h j _;rw[h]
 rw[hiff] at h;rcases h with ⟨h,p⟩ | ⟨y,rfl,h,p⟩
 rw[h];simp[p];rw[h];simp[p];have h0:(!decide ((a.length:Int)=(b.length:Int)))=true:=by simp;omega
 rw[h0,cond_true];have:a≠b:=fun e=>hl (by rw[e]);simp[this]
section
variable {n:Norm} (hs:NSm n) (hok:zAM n)
include hs hok
theorem zTZ {t:List Int} (ht:t.length≤460):vQ n t=some (zEP n false t):=by
 have hf:=zMY hs hok false t;have h:=z3J hs hok (text:=t) (b:=false) (by omega) (by omega);have h2:xW {norm:=n} t=some (zEP n false t):=by
  unfold xW;rw[h];rfl
 unfold vQ;simp only[zH];rw[show ({norm:=({Classes:=n.Classes,Decomp:=n.Decomp,Excluded:=({Ranges:=n.Excluded.Ranges}:Set)}:Norm)}:Normalize_steps)= {norm:=n} from rfl,h2];rfl
theorem zL8 {t:List Int} (ht:t.length≤460):zA6 n t=some (zEP n false t):=by have hf:=zMY hs hok false t;unfold zA6;rw[z9M hs hok (by omega) (by omega)];rfl
theorem z62 (t:List Int):(zEP n false t).length≤64*t.length:=by rw[z3I];exact zMY hs hok false t
end
noncomputable def mpE (n:Norm) (l:List Mapping) (t:List Int):List Int:=(zEP n false t).flatMap (apE (vL l))
noncomputable def skE (n:Norm) (l:List Mapping) (t:List Int):List Int:=zEP n false (mpE n l t)
noncomputable def ltE (n:Norm) (l:List Mapping) (t:List Int):Bool:=decide ((zEP n false t).length≤400)&&(decide ((mpE n l t).length≤400)&&decide ((skE n l t).length≤400))
section
variable {n:Norm} (hs:NSm n) (hok:zAM n) {l:List Mapping} (hl:SmL l)
include hs hok hl
theorem z4L {t:List Int} (ht:t.length≤400):zFG n l t=some (ltE n l t):=by
 unfold zFG ltE;rw[zL8 hs hok (by omega),zH];by_cases h1:(zEP n false t).length≤400;have e1:decide ((400:Int)<((zEP n false t).length:Int))=false:=by simp;omega
 have e2:decide ((zEP n false t).length≤400)=true:=by simp;omega
 rw[e1,cond_false,zR6 hl (by omega),zH,yE,e2,Bool.true_and];show (gM (decide (((mpE n l t).length:Int)≤400)) (zA6 n (mpE n l t))).bind _=_;by_cases h2:(mpE n l t).length≤400;have e3:decide (((mpE n l t).length:Int)≤400)=true:=by simp;omega
 have e4:decide ((mpE n l t).length≤400)=true:=by simp;omega
 rw[e3,wO,zL8 hs hok (by omega),zH,e4];show some (_&&decide (((skE n l t).length:Int)≤400))=_;congr 2;apply decide_eq_decide.2;omega;have e3:decide (((mpE n l t).length:Int)≤400)=false:=by simp;omega
 have e4:decide ((mpE n l t).length≤400)=false:=by simp;omega
 rw[e3,zBC,zH,e4];show some (decide (((mpE n l t).length:Int)≤400)&&_)=_;rw[e3];rfl;have e1:decide ((400:Int)<((zEP n false t).length:Int))=true:=by simp;omega
 have e2:decide ((zEP n false t).length≤400)=false:=by simp;omega
 rw[e1,cond_true,e2,Bool.false_and]
theorem zT1 {t:List Int} (ht:t.length≤400) (h:ltE n l t=true):kW n l t=some (skE n l t):=by unfold ltE at h;simp only[Bool.and_eq_true,decide_eq_true_eq] at h;unfold kW;rw[zTZ hs hok (by omega),zH,z4J hl (by omega),zH];show (vQ n (mpE n l t)).bind _=_;rw[zTZ hs hok (by omega)];rfl
theorem zWP {t:List Int} (ht:t.length≤400) (h:ltE n l t=true):zBZ n l t=some (skE n l t):=by unfold ltE at h;simp only[Bool.and_eq_true,decide_eq_true_eq] at h;unfold zBZ;rw[zL8 hs hok (by omega),zH,zR6 hl (by omega),zH];show (zA6 n (mpE n l t)).bind _=_;rw[zL8 hs hok (by omega)];rfl
omit hs hok hl in
theorem zXQ {t:List Int} (h:ltE n l t=true):(skE n l t).length≤400:=by unfold ltE at h;simp only[Bool.and_eq_true,decide_eq_true_eq] at h;exact h.2.2
theorem zPU {a b:List Int} (ha:a.length≤400) (hb:b.length≤400) (la:ltE n l a=true) (lb:ltE n l b=true):x9 n l a b=some (decide (skE n l a=skE n l b)):=by have:=zXQ la;unfold x9;rw[zT1 hs hok hl ha la,zH,zT1 hs hok hl hb lb,zH,z61 (by omega)];rfl
theorem z02 {a b:List Int} (ha:a.length≤400) (hb:b.length≤400) (la:ltE n l a=true) (lb:ltE n l b=true):zFK n l a b=some (decide (skE n l a=skE n l b)):=by have:=zXQ la;unfold zFK;rw[zWP hs hok hl ha la,zH,zWP hs hok hl hb lb,zH,zVS (by omega)];rfl
end
theorem z9S {d:Unicodetextlaw41_Data} (hs:NSm d.Norm) (hok:zAM d.Norm) (hl:SmL d.Map) {ts:List (List Int)} (hn:ts.length≤100) (ht:∀t∈ts,t.length≤400):zFH d ts=some (ts.all (ltE d.Norm d.Map)):=by
 unfold zFH;have h:=jD (body:=fun (x:Int)=>zBS ts d x) ts.length (fun j=>ltE d.Norm d.Map (nth ts j)=true) (fun y=>y=false) (fun j hj=>by
  simp only[zBS,k6 hj,cond_true,yR hj,zH,z4L hs hok hl (ht _ (wC hj)),yB (k:=j) (by omega)];exact wP (by simp) rfl) (fun j hj=>by simp only[zBS,jM hj,cond_false])
 rw[zAK (p:=fun t=>ltE d.Norm d.Map t=true)] at h;have hb:ts.all (ltE d.Norm d.Map)=true↔∀t∈ts,ltE d.Norm d.Map t=true:=by simp
 rcases h with ⟨h,p⟩ | ⟨y,rfl,h,p⟩;rw[h,hb.2 p];rfl;have:ts.all (ltE d.Norm d.Map)=false:=by rw[Bool.eq_false_iff];exact fun q=>p (hb.1 q)
 rw[h,this];rfl
theorem z63 {n:Norm} {t:List Int} {e:Int}:e∈zEP n false t↔∃x∈t,e∈fu (usN n).Decomp false x:=by have:=(zV9 (key:=clE (usN n).Classes) (zI2 n false t)).mem_iff (a:=e);show e∈csE (clE (usN n).Classes) (zI2 n false t)↔_;rw[this];unfold zI2;exact List.mem_flatMap
end Go.M
namespace Go.M
open Go.AV
noncomputable def zXR (n:Norm) (l:List Mapping):Bool:=(vL l).all fun m=>!(m.Tag== []) ||(zEP n false m.To).all fun x=>(fdE (vL l) x).isNone
theorem zWQ (l:List Mapping) (m:Mapping) (c:Int):(fdE (l++ [m]) c).isSome=((fdE l c).isSome ||(decide (m.From=c)&&(m.Tag== []))):=by
 unfold fdE;rw[List.find?_append,List.find?_cons];cases l.find? (fun m=>decide (m.From=c)&&(m.Tag== [])) with
 | some q=>rfl
 | none=>
  cases decide (m.From=c)&&(m.Tag== [])<;>rfl
theorem z03 {ν:Type} (m:List (Int×ν)) (k c:Int) (v z: ν):xI (wD m k v) c z=if c=k then v else xI m c z:=by unfold xI;rw[xU];split<;>rfl
theorem yA0 {l:List Mapping} (hl:l.length≤20):∀(n k:Nat) (r:List (Int×Bool)),l.length-k=n→k≤l.length→(∀c,xI r c false=(fdE (l.take k) c).isSome)→
  ∃r',zX (fun (x:Int×(List (Int×Bool)))=>xA l x.1 x.2) ((k:Int),r)=some r'∧∀c,xI r' c false=(fdE l c).isSome:=by
 intro n
 induction n with
 | zero=>
  intro k r hk hk2 hr;refine⟨r,yI (by simp only[xA,jM (show l.length≤k by omega),cond_false]),fun c=>?_⟩;rw[hr c,List.take_of_length_le (by omega)]
 | succ n ih=>
  intro k r hk hk2 hr;have hlt:k<l.length:=by omega
  have htk:l.take (k+1)=l.take k++ [l[k]]:=by rw[List.take_add_one,List.getElem?_eq_getElem hlt];rfl
  cases ht:(l[k].Tag== []) with
  | true=>
   obtain⟨r',h1,h2⟩:=ih (k+1) (wD r l[k].From true) (by omega) (by omega) (fun c=>by
    rw[z03,htk,zWQ,ht,Bool.and_true,hr c];by_cases e:c=l[k].From
    ·simp[e]
    ·have e2:¬l[k].From=c:=fun q=>e q.symm
     simp[e,e2])
   refine⟨r',?_,h2⟩;rw[yQ (x':=(((k+1:Nat):Int),wD r l[k].From true)) ?_]
   ·exact h1
   ·simp only[xA,k6 hlt,cond_true,yW hlt,zH,ht,yB (k:=k) (by omega)]
  | false=>
   obtain⟨r',h1,h2⟩:=ih (k+1) r (by omega) (by omega) (fun c=>by rw[htk,zWQ,ht,Bool.and_false,Bool.or_false,hr c]);refine⟨r',?_,h2⟩;rw[yQ (x':=(((k+1:Nat):Int),r)) ?_]
   ·exact h1
   ·simp only[xA,k6 hlt,cond_true,yW hlt,zH,ht,cond_false,yB (k:=k) (by omega)]
section
variable {n:Norm} (hs:NSm n) (hok:zAM n) {l:List Mapping} (hl:SmL l)
include hs hok hl
omit hs hok hl in
theorem z64:zXR n l=true↔∀m∈vL l,m.Tag= []→∀x∈zEP n false m.To,fdE (vL l) x=none:=by
 unfold zXR;simp only[List.all_eq_true,Bool.or_eq_true,Bool.not_eq_true',zTL,decide_eq_false_iff_not,Option.isNone_iff_eq_none];constructor;intro h m hm ht x hx;rcases h m hm with q | q
 exact absurd ht q;exact q x hx;intro h m hm;by_cases ht:m.Tag= [];exact .inr fun x hx=>h m hm ht x hx;exact .inl ht
theorem z04:uJ n l=some (zXR n l):=by
 unfold uJ;obtain⟨e,he,hp⟩:=hl.ver;rw[he,zH];by_cases hz:e=0;have hv:=hp.1 hz;have e1:vL l=l:=zR5 hv;obtain⟨r,h1,h2⟩:=yA0 (l:=l) hl.n l.length 0 [] (by omega) (by omega) (fun c=>by simp[xI,mget,fdE]);have h1':zX (fun (x:Int×(List (Int×Bool)))=>xA l x.1 x.2) (0,[])=some r:=h1;simp only[hz,decide_true,Bool.not_true,cond_false,h1',zH];have hn:=hl.n;have h:=jD (body:=fun (x:Int)=>wB l n r x) l.length (fun j=>(nth l j).Tag= []→∀x∈zEP n false (nth l j).To,fdE l x=none) (fun y=>y=false) (fun j hj=>by
  have hto:=hl.to _ (wC hj);simp only[wB,k6 hj,cond_true,yR hj,zH,yB (k:=j) (by omega)];by_cases ht:(nth l j).Tag= [];have ht':((nth l j).Tag== [])=true:=by rw[zTL];simp[ht]
  have hd:=z62 hs hok (nth l j).To;simp only[ht',Bool.not_true,cond_false,zTZ hs hok (t:=(nth l j).To) (by omega),zH];have h3:=jD (body:=fun (x:Int)=>wA (zEP n false (nth l j).To) r x) (zEP n false (nth l j).To).length (fun i=>fdE l (nth (zEP n false (nth l j).To) i)=none) (fun y=>y=false) (fun i hi=>by
   simp only[wA,k6 hi,cond_true,yR hi,zH,h2,yB (k:=i) (by omega)];refine wP ?_ rfl;cases fdE l (nth (zEP n false (nth l j).To) i)<;>simp) (fun i hi=>by simp only[wA,jM hi,cond_false])
  rw[zAK (p:=fun x=>fdE l x=none)] at h3;rcases h3 with ⟨h3,p⟩ | ⟨y,hy,h3,p⟩
  rw[h3];exact .inl ⟨fun _=>p,rfl⟩;rw[h3];exact .inr ⟨fun q=>p (q ht),y,hy,rfl⟩;have ht':((nth l j).Tag== [])=false:=by rw[zTL];simp[ht]
  simp only[ht',Bool.not_false,cond_true];exact .inl ⟨fun q=>absurd q ht,rfl⟩) (fun j hj=>by simp only[wB,jM hj,cond_false])
 rw[zAK (p:=fun (m:Mapping)=>m.Tag= []→∀x∈zEP n false m.To,fdE l x=none)] at h;have hb:=z64 (n:=n) (l:=l);rw[e1] at hb;rcases h with ⟨h,p⟩ | ⟨y,rfl,h,p⟩
 rw[h,hb.2 p];rfl;have:zXR n l=false:=by rw[Bool.eq_false_iff];exact fun q=>p (hb.1 q)
 rw[h,this];rfl;have hv:¬MV l:=fun h=>hz (hp.2 h);have e1:vL l= []:=z4E hv;have e2:zXR n l=true:=by unfold zXR;rw[e1];rfl
 simp[hz,e2]
end
end Go.M
namespace Go.M
open Go.AV
theorem zWR {a b:List Str} (hl:a.length=b.length):(∀j,j<a.length→nth a j=nth b j)↔a=b:=by
 constructor;intro h;apply List.ext_getElem hl;intro i h1 h2;have:=h i h1
 rwa [vU h1,vU h2] at this
 intro h j _;rw[h]
theorem z4M {a b:List Str} (ha:a.length≤1000000):xP a b=some (decide (a=b)):=by
 unfold xP;by_cases hl:a.length=b.length;have h0:(!decide ((a.length:Int)=(b.length:Int)))=false:=by simp[hl]
 rw[h0,cond_false];have h:=jD (body:=fun (x:Int)=>jV a b x) a.length (fun j=>nth a j=nth b j) (fun y=>y=false) (fun j hj=>by
  have hj':j<b.length:=by omega
  simp only[jV,k6 hj,cond_true,yR hj,yR hj',zH,yB (k:=j) (by omega),zTL];exact wP (by simp) rfl) (fun j hj=>by simp only[jV,jM hj,cond_false])
 rw[zWR hl] at h;rcases h with ⟨h,p⟩ | ⟨y,rfl,h,p⟩
 rw[h];simp[p];rw[h];simp[p];have h0:(!decide ((a.length:Int)=(b.length:Int)))=true:=by simp;omega
 rw[h0,cond_true];have:a≠b:=fun e=>hl (by rw[e]);simp[this]
theorem z9T {a b:List Str} (ha:a.length≤1000000):zDT a b=some (decide (a=b)):=by
 unfold zDT;by_cases hl:a.length=b.length;have h0:(!decide ((a.length:Int)=(b.length:Int)))=false:=by simp[hl]
 rw[h0,cond_false];have h:=jD (body:=fun (x:Int)=>u6 a b x) a.length (fun j=>nth a j=nth b j) (fun y=>y=false) (fun j hj=>by
  have hj':j<b.length:=by omega
  simp only[u6,k6 hj,cond_true,yR hj,yR hj',zH,yB (k:=j) (by omega),zTL];exact wP (by simp) rfl) (fun j hj=>by simp only[u6,jM hj,cond_false])
 rw[zWR hl] at h;rcases h with ⟨h,p⟩ | ⟨y,rfl,h,p⟩
 rw[h];simp[p];rw[h];simp[p];have h0:(!decide ((a.length:Int)=(b.length:Int)))=true:=by simp;omega
 rw[h0,cond_true];have:a≠b:=fun e=>hl (by rw[e]);simp[this]
def kdE (x y:List Str):Int:=if x.length≠y.length∨1<x.length then 3 else if x=y then 1 else 2
noncomputable def kE (n:Norm) (l:List Mapping) (p:Property) (a b:List Int):Int:=if skE n l a=skE n l b then kdE (ofP p a) (ofP p b) else 0
theorem z4N (x y:List Str):kdE x y=kdE y x:=by unfold kdE;by_cases h:x.length=y.length;rw[h];by_cases e:x=y;rw[e];have e2:¬y=x:=fun q=>e q.symm;simp[e,e2];have h2:¬y.length=x.length:=fun q=>h q.symm;simp[h,h2]
theorem z65 (n:Norm) (l:List Mapping) (p:Property) (a b:List Int):kE n l p a b=kE n l p b a:=by unfold kE;by_cases e:skE n l a=skE n l b;rw[if_pos e,if_pos e.symm,z4N];rw[if_neg e,if_neg fun q=>e q.symm]
theorem z9V (n:Norm) (l:List Mapping) (p:Property) (a b:List Int):decide (0<kE n l p a b)=decide (skE n l a=skE n l b):=by unfold kE kdE;by_cases e:skE n l a=skE n l b;rw[if_pos e];simp only[e,decide_true,decide_eq_true_eq];split;decide;split<;>decide;rw[if_neg e];simp[e]
section
variable {n:Norm} (hs:NSm n) (hok:zAM n) {l:List Mapping} (hl:SmL l) {p:Property} (hp:Sm p)
include hs hok hl hp
theorem zL9 {a b:List Int} (ha:a.length≤400) (hb:b.length≤400) (la:ltE n l a=true) (lb:ltE n l b=true):xQ n l p a b=some (kE n l p a b):=by
 have h1:=zOC p hp a (by omega);have h2:=zOC p hp b (by omega);unfold xQ kE;rw[zPU hs hok hl ha hb la lb,zH];by_cases e:skE n l a=skE n l b;rw[if_pos e];simp only[e,decide_true,Bool.not_true,cond_false,z7P p hp a (by omega),z7P p hp b (by omega),zH,yE,z4M (a:=ofP p a) (b:=ofP p b) (by omega)];unfold kdE;by_cases h3:(ofP p a).length≠(ofP p b).length∨1<(ofP p a).length;have e3:(!decide (((ofP p a).length:Int)=((ofP p b).length:Int)) ||decide (1<((ofP p a).length:Int)))=true:=by simp;omega
 rw[if_pos h3,e3];rfl;have e3:(!decide (((ofP p a).length:Int)=((ofP p b).length:Int)) ||decide (1<((ofP p a).length:Int)))=false:=by simp;omega
 rw[if_neg h3,e3,cond_false];by_cases e4:ofP p a=ofP p b;rw[if_pos e4];simp only[e4,decide_true];rfl;rw[if_neg e4];simp only[e4,decide_false];rfl;rw[if_neg e];simp[e]
theorem z05 {a b:List Int} (ha:a.length≤400) (hb:b.length≤400) (la:ltE n l a=true) (lb:ltE n l b=true):zGX n l p a b=some (kE n l p a b):=by
 have h1:=zOC p hp a (by omega);have h2:=zOC p hp b (by omega);unfold zGX kE;rw[z02 hs hok hl ha hb la lb,zH];by_cases e:skE n l a=skE n l b;rw[if_pos e];simp only[e,decide_true,Bool.not_true,cond_false,z4B p hp a (by omega),z4B p hp b (by omega),zH,yE,z9T (a:=ofP p a) (b:=ofP p b) (by omega)];unfold kdE;by_cases e4:ofP p a=ofP p b;simp only[e4,decide_true,Bool.true_and,Bool.not_true,Bool.false_and,ne_eq,not_true_eq_false,false_or];by_cases h5:1<(ofP p b).length;have e5:decide (((ofP p b).length:Int)≤1)=false:=by simp;omega
 rw[if_pos h5,e5];rfl;have e5:decide (((ofP p b).length:Int)≤1)=true:=by simp;omega
 rw[if_neg h5,e5];rfl;simp only[e4,decide_false,Bool.false_and,cond_false,Bool.not_false,Bool.true_and,if_false];by_cases h3:(ofP p a).length≠(ofP p b).length∨1<(ofP p a).length;rw[if_pos h3];by_cases h6:(ofP p a).length=1;have e6:decide (((ofP p b).length:Int)=1)=false:=by simp;omega
 rw[e6,Bool.and_false];rfl;have e6:decide (((ofP p a).length:Int)=1)=false:=by simp;omega
 rw[e6];rfl;rw[if_neg h3];have h7:(ofP p a).length=1:=by
  have h8:(ofP p a).length≠0:=fun h=>e4 (by
   rw[List.length_eq_zero_iff.1 h,List.length_eq_zero_iff.1 (show (ofP p b).length=0 by omega)])
  omega
 have e6:decide (((ofP p a).length:Int)=1)=true:=by simp;omega
 have e7:decide (((ofP p b).length:Int)=1)=true:=by simp;omega
 rw[e6,e7];rfl;rw[if_neg e];simp[e]
end
open Go.Lib (decDigits itoa)
theorem zT2 (u:Nat):∀d∈decDigits u,48≤d.toNat∧d.toNat≤57:=by
 induction u using Nat.strongRecOn with
 | ind u ih=>
  rw[decDigits];split;intro d hd;simp only[List.mem_singleton] at hd;subst hd;simp[UInt8.toNat_ofNat'];omega;intro d hd;rcases List.mem_append.1 hd with hd | hd
  exact ih (u/10) (by omega) d hd;simp only[List.mem_singleton] at hd;subst hd;simp[UInt8.toNat_ofNat'];omega
def vdd (l:List UInt8):Nat:=l.foldl (fun a d=>10*a+(d.toNat-48)) 0
theorem z4O (u:Nat):vdd (decDigits u)=u:=by
 induction u using Nat.strongRecOn with
 | ind u ih=>
  rw[decDigits];split;simp[vdd,UInt8.toNat_ofNat'];omega;have:=ih (u/10) (by omega);unfold vdd at this ⊢;rw[List.foldl_append,this];simp[UInt8.toNat_ofNat'];omega
theorem z4P {u v:Nat} (h:decDigits u=decDigits v):u=v:=by rw[←z4O u,h,z4O]
theorem zWS {n:Int} {d:UInt8} (h:d∈itoa n):d≠32:=by
 unfold itoa at h;intro e;subst e;split at h;rcases List.mem_cons.1 h with h | h
 exact absurd h (by decide);have:=zT2 _ _ h;exact absurd this (by decide);have:=zT2 _ _ h;exact absurd this (by decide)
theorem z4Q {a b:Int} (h:itoa a=itoa b):a=b:=by
 unfold itoa at h;split at h;split at h;have:=z4P (List.cons.inj h).2;omega;have h2:(45:UInt8)∈decDigits b.toNat:=by rw[←h];exact List.mem_cons_self
 exact absurd (zT2 _ _ h2) (by decide);split at h;have h2:(45:UInt8)∈decDigits a.toNat:=by rw[h];exact List.mem_cons_self
 exact absurd (zT2 _ _ h2) (by decide);have:=z4P h;omega
theorem zNI:∀{x y u v:List UInt8},(∀d∈x,d≠32)→(∀d∈y,d≠32)→x++32::u=y++32::v→x=y∧u=v
 | [],[],_,_,_,_,h=>⟨rfl,(List.cons.inj h).2⟩
 | [],c::y,_,_,_,hy,h=>absurd (List.cons.inj h).1.symm (hy c List.mem_cons_self)
 | c::x,[],_,_,hx,_,h=>absurd (List.cons.inj h).1 (hx c List.mem_cons_self)
 | c::x,d::y,u,v,hx,hy,h=>by
  obtain⟨h1,h2⟩:=List.cons.inj h;obtain⟨e1,e2⟩:=zNI (fun d hd=>hx d (List.mem_cons_of_mem _ hd)) (fun d hd=>hy d (List.mem_cons_of_mem _ hd)) h2;exact⟨by rw[h1,e1],e2⟩
theorem zWT:∀{a b:List Int},keyB a=keyB b→a=b
 | [],[],_=>rfl
 | [],y::b,h=>by
  have:=congrArg List.length h;simp[keyB] at this
 | x::a,[],h=>by
  have:=congrArg List.length h;simp[keyB] at this
 | x::a,y::b,h=>by
  have h':itoa x++32::keyB a=itoa y++32::keyB b:=by
   have e:∀(z:Int) (c:List Int),keyB (z::c)=itoa z++32::keyB c:=fun z c=>by simp[keyB]
   rw[←e,←e];exact h
  obtain⟨h1,h2⟩:=zNI (fun d hd=>zWS hd) (fun d hd=>zWS hd) h';rw[z4Q h1,zWT h2]
end Go.M
namespace Go.M
open Go.AV
def rg (x:Int):Prop:= -9223372036854775808≤x∧x≤9223372036854775807
theorem z7R {c e:Int} (hc:rg c) (he:e∈hdE c):rg e:=by
 unfold hdE at he;split at he;rename_i hs;unfold syl at hs;simp only[Bool.and_eq_true,decide_eq_true_eq] at hs;unfold rg;rcases List.mem_append.1 he with h | h
 simp only[List.mem_cons,List.not_mem_nil,or_false] at h;rcases h with rfl | rfl<;>omega
 split at h;simp only[List.mem_singleton] at h;subst h;omega;cases h;simp only[List.mem_singleton] at he;rw[he];exact hc
theorem z7S {l:List Mapping} {b:Bool} (hl:∀m∈l,∀y∈m.To,rg y):∀(k:Nat) (c:Int),rg c→∀e∈exF l b k c,rg e
 | 0,c,hc,e,he=>z7R hc he
 | k+1,c,hc,e,he=>by
  unfold exF at he;split at he;rename_i to hf;obtain⟨y,hy,hey⟩:=List.mem_flatMap.1 he;obtain⟨m,hm,rfl,_⟩:=zG4 hf;exact z7S hl k y (hl m (zEL hm).1 y hy) e hey;exact z7R hc he
theorem yA1 {n:Norm} (hok:zAM n):∀m∈(usN n).Decomp,∀y∈m.To,rg y:=by intro m hm y hy;unfold usN at hm;split at hm;exact(hok.2.1.2 m hm).2.1.2 y hy;cases hm
theorem z4R {n:Norm} (hok:zAM n) {t:List Int} (ht:∀x∈t,rg x):∀x∈zEP n false t,rg x:=by intro x hx;obtain⟨y,hy,hxy⟩:=z63.1 hx;exact z7S (yA1 hok) _ y (ht y hy) x hxy
theorem yA2 {n:Norm} (hok:zAM n) {l:List Mapping} (hl:∀m∈l,zGC m) {t:List Int} (ht:∀x∈t,rg x):∀x∈skE n l t,rg x:=by refine z4R hok fun y hy=>?_;unfold mpE at hy;obtain⟨z,hz,hyz⟩:=List.mem_flatMap.1 hy;unfold apE at hyz;split at hyz;rename_i m hm;exact(hl m (z9Q (zWN hm).1)).2.1.2 y hyz;simp only[List.mem_singleton] at hyz;rw[hyz];exact z4R hok ht z hz
def gS (S:List (List Int)) (i:Nat):List Int:=S.getD i []
def zG9 (S:List (List Int)) (i:Nat):Bool:=(List.range i).all fun j=>!decide (gS S j=gS S i)
def ownU (S:List (List Int)) (i k:Nat):List Int:=((List.range k).filter fun j=>decide (gS S i=gS S j)).map fun (j:Nat)=>(j:Int)
def fsts (S:List (List Int)) (k:Nat):List Nat:=(List.range k).filter (zG9 S)
def z9W (S:List (List Int)):List (List Int):=((fsts S S.length).map fun i=>ownU S i S.length).filter zP7
section
variable {S:List (List Int)}
theorem zID {i:Nat}:zG9 S i=true↔∀j,j<i→gS S j≠gS S i:=by unfold zG9;simp
theorem zPV {i k:Nat}:i∈fsts S k↔i<k∧zG9 S i=true:=by unfold fsts;simp
theorem zR7 (k:Nat):fsts S (k+1)=fsts S k++if zG9 S k=true then [k] else []:=by unfold fsts;rw[List.range_succ,List.filter_append];congr 1;by_cases h:zG9 S k=true<;>simp[h]
theorem zJ4 (i k:Nat):ownU S i (k+1)=ownU S i k++if gS S i=gS S k then [(k:Int)] else []:=by unfold ownU;rw[List.range_succ,List.filter_append,List.map_append];congr 1;by_cases h:gS S i=gS S k<;>simp[h]
theorem zXS (k:Nat):(fsts S k).Nodup:=List.Nodup.sublist List.filter_sublist List.nodup_range
theorem zXT {i j:Nat} (hi:zG9 S i=true) (hj:zG9 S j=true) (h:gS S i=gS S j):i=j:=by rcases Nat.lt_trichotomy i j with q | q | q;exact absurd h (zID.1 hj i q);exact q;exact absurd h.symm (zID.1 hi j q)
theorem z4S {i:Nat} (hi:zG9 S i=true):ownU S i i= []:=by unfold ownU;rw[List.map_eq_nil_iff,List.filter_eq_nil_iff];intro j hj h;simp only[decide_eq_true_eq] at h;exact zID.1 hi j (List.mem_range.1 hj) h.symm
structure GIv (S:List (List Int)) (k:Nat) (s:List (Str×Int)×List (List Int)):Prop where
 gs:s.2=(fsts S k).map fun i=>ownU S i k
 some:∀x g,mget s.1 (keyB x)= .some g→∃(q:Nat) (i:Nat),g=(q:Int)∧(fsts S k)[q]? = .some i∧gS S i=x
 none:∀x,mget s.1 (keyB x)= .none→∀i,i<k→gS S i≠x
theorem z4T {k:Nat} {s:List (Str×Int)×List (List Int)} (h:GIv S k s):GIv S (k+1) (zF1 s (keyB (gS S k)) k):=by
 unfold zF1;cases hg:mget s.1 (keyB (gS S k)) with
 | some g=>
  obtain⟨q,i,rfl,hq,hi⟩:=h.some _ _ hg;have him:=zPV.1 (List.mem_of_getElem? hq);have hf:zG9 S k=false:=by
   rw[Bool.eq_false_iff];exact fun hh=>zID.1 hh i him.1 hi
  have hfs:fsts S (k+1)=fsts S k:=by rw[zR7,hf];simp
  have hql:q<(fsts S k).length:=(List.getElem?_eq_some_iff.1 hq).1;refine⟨?_,fun x g hx=>?_,fun x hx j hj=>?_⟩;dsimp only;rw[hfs,h.gs,Int.toNat_natCast];refine List.ext_getElem? fun r=>?_;simp only[List.getElem?_set,List.getElem?_map];by_cases e:q=r;subst e;rw[if_pos rfl,if_pos (by simpa using hql),hq,List.getD_eq_getElem?_getD,List.getElem?_map,hq];simp only[Option.map_some,Option.getD_some];rw[zJ4,if_pos hi];rw[if_neg e];cases hr:(fsts S k)[r]? with
  | none=>rfl
  | some i'=>
   have him':=zPV.1 (List.mem_of_getElem? hr);have hne:gS S i'≠gS S k:=fun e2=>by
    have e3:=zXT him'.2 him.2 (e2.trans hi.symm);subst e3;have hrl:=(List.getElem?_eq_some_iff.1 hr).1;have h1:=(List.getElem?_eq_some_iff.1 hr).2;have h2:=(List.getElem?_eq_some_iff.1 hq).2;exact e ((List.getElem_inj (zXS k)).1 (h2.trans h1.symm))
   simp only[Option.map_some];rw[zJ4,if_neg hne,List.append_nil]
  rw[hfs];exact h.some x g hx;rcases Nat.lt_succ_iff_lt_or_eq.1 hj with q | rfl
  exact h.none x hx j q;intro e;dsimp only at hx;rw[←e,hg] at hx;cases hx
 | none=>
  have hn:=h.none _ hg;have hf:zG9 S k=true:=zID.2 hn;have hfs:fsts S (k+1)=fsts S k++ [k]:=by rw[zR7,hf];simp
  have hlen:s.2.length=(fsts S k).length:=by rw[h.gs,List.length_map]
  refine⟨?_,fun x g hx=>?_,fun x hx j hj=>?_⟩;dsimp only;rw[hfs,List.map_append,h.gs];congr 1;refine List.map_congr_left fun i hi=>?_;rw[zJ4,if_neg (hn i (zPV.1 hi).1),List.append_nil];simp only[List.map_cons,List.map_nil];rw[zJ4,if_pos rfl,z4S hf,List.nil_append];dsimp only at hx;rw[xU] at hx;split at hx;rename_i e;cases hx;refine⟨s.2.length,k,rfl,?_,(zWT e).symm⟩;rw[hfs,hlen,List.getElem?_append_right (Nat.le_refl _),Nat.sub_self];rfl;obtain⟨q,i,e1,e2,e3⟩:=h.some x g hx;refine⟨q,i,e1,?_,e3⟩;rw[hfs,List.getElem?_append_left (List.getElem?_eq_some_iff.1 e2).1];exact e2;dsimp only at hx;rw[xU] at hx;split at hx;cases hx;rename_i e;rcases Nat.lt_succ_iff_lt_or_eq.1 hj with q | rfl
  exact h.none x hx j q;exact fun e2=>e (by rw[e2])
theorem z9X (j:Nat):(S.map keyB).getD j []=keyB (gS S j):=by unfold gS;rw[List.getD_eq_getElem?_getD,List.getD_eq_getElem?_getD,List.getElem?_map];cases S[j]? <;> rfl
theorem giv:∀k,GIv S k (zH2 (S.map keyB) k)
 | 0=>⟨rfl,fun x g hx=>(by cases hx),fun x _ i hi=>(by omega)⟩
 | k+1=>by
  show GIv S (k+1) (zF1 (zH2 (S.map keyB) k) ((S.map keyB).getD k []) k);rw[z9X];exact z4T (giv k)
theorem z9Y:zXG (S.map keyB)=z9W S:=by unfold zXG z9W;rw[List.length_map,(giv S.length).gs]
end
section
variable {n:Norm} (hs:NSm n) (hok:zAM n) {l:List Mapping} (hl:SmL l) {ts:List (List Int)} (hn:ts.length≤8) (ht:∀t∈ts,t.length≤400) (hlt:∀t∈ts,ltE n l t=true)
include hs hok hl hn ht hlt
theorem z06 (hm:∀m∈l,zGC m) (hr:∀t∈ts,∀x∈t,rg x):uG n l ts=some (z9W (ts.map (skE n l))):=by
 unfold uG;rw[if_pos (by omega)];have key:∀(u:List (List Int)),(∀t∈u,t∈ts)→(u.mapM fun t=>(kW n l t).bind x6)=some ((u.map (skE n l)).map keyB):=by
  intro u
  induction u with
  | nil=>intro _;rfl
  | cons t u ih=>
   intro hu;have h1:=hu t List.mem_cons_self;have hk:x6 (skE n l t)=some (keyB (skE n l t)):=by
    unfold x6 z8H;have:=zXQ (hlt t h1);rw[if_pos ⟨by omega,fun i hi=>yA2 hok hm (hr t h1) i hi⟩]
   rw[List.mapM_cons,zT1 hs hok hl (ht t h1) (hlt t h1),zH,hk,ih fun t' h'=>hu t' (List.mem_cons_of_mem _ h')];rfl
 rw[key ts fun _ h=>h];show some (zXG ((ts.map (skE n l)).map keyB))=_;rw[z9Y]
end
end Go.M
namespace Go.M
open Go.AV
abbrev n41:Norm:={Classes:=[],Decomp:=[],Excluded:={Ranges:=[]}}
abbrev l41:List Mapping:=[{From:=1072,To:=[97],Tag:=[]}]
abbrev p41:Property:={Names:=[[79,116,104,101,114],[76,97,116,105,110],[67,121,114,105,108,108,105,99]],Spans:=[{Lo:=97,Hi:=122,Value:=1},{Lo:=1072,Hi:=1103,Value:=2}]}
theorem zPW:NSm n41:=⟨by decide,by decide,fun m hm=>(by cases hm),fun m hm=>(by cases hm),by decide⟩
theorem zPX:zAM n41:=by unfold zAM z2K;simp
theorem zPY:SmL l41:=⟨by decide,by simp,by simp⟩
theorem zT4:MV l41:=by refine⟨fun m hm=>?_,fun m hm=>?_,fun m hm=>?_,fun k hk=>by simp at hk⟩;simp only[List.mem_singleton] at hm;subst hm;unfold codesOk;decide;simp only[List.mem_singleton] at hm;subst hm;decide;simp only[List.mem_singleton] at hm;subst hm;exact .inl rfl
theorem yBZ:usN n41=n41:=by unfold usN;split<;>rfl
theorem zKO {x:Int} (h:x=97∨x=98∨x=1072):zEP n41 false [x]= [x]:=by
 unfold zEP zI2;rw[yBZ];rcases h with rfl | rfl | rfl<;>rfl
theorem yB0:skE n41 l41 [97]= [97]∧skE n41 l41 [98]= [98]∧skE n41 l41 [1072]= [97]∧ltE n41 l41 [97]=true∧ltE n41 l41 [98]=true∧ltE n41 l41 [1072]=true:=by
 have m1:mpE n41 l41 [97]= [97]:=by unfold mpE;rw[zKO (.inl rfl),zR5 zT4];rfl
 have m2:mpE n41 l41 [98]= [98]:=by unfold mpE;rw[zKO (.inr (.inl rfl)),zR5 zT4];rfl
 have m3:mpE n41 l41 [1072]= [97]:=by unfold mpE;rw[zKO (.inr (.inr rfl)),zR5 zT4];rfl
 have s1:skE n41 l41 [97]= [97]:=by unfold skE;rw[m1,zKO (.inl rfl)]
 have s2:skE n41 l41 [98]= [98]:=by unfold skE;rw[m2,zKO (.inr (.inl rfl))]
 have s3:skE n41 l41 [1072]= [97]:=by unfold skE;rw[m3,zKO (.inl rfl)]
 refine⟨s1,s2,s3,?_,?_,?_⟩;unfold ltE;rw[s1,m1,zKO (.inl rfl)];rfl;unfold ltE;rw[s2,m2,zKO (.inr (.inl rfl))];rfl;unfold ltE;rw[s3,m3,zKO (.inr (.inr rfl))];rfl
theorem zT5:Sm p41:=⟨by unfold okProperty okSpan;simp,by decide⟩
theorem z7T:ofP p41 [97]= [[76,97,116,105,110]]:=by
 refine zM2 (z4A p41 zT5 [97] (by decide)) ?_;have e: [97].map (uP p41)= [[76,97,116,105,110]]:=by rfl
 rw[e];exact⟨by simp[SS],fun y=>by simp;intro h;subst h;decide⟩
theorem yA3:ofP p41 [1072]= [[67,121,114,105,108,108,105,99]]:=by
 refine zM2 (z4A p41 zT5 [1072] (by decide)) ?_;have e: [1072].map (uP p41)= [[67,121,114,105,108,108,105,99]]:=by rfl
 rw[e];exact⟨by simp[SS],fun y=>by simp;intro h;subst h;decide⟩
theorem zOD:zD4=some true:=by
 obtain⟨s1,s2,s3,t1,t2,t3⟩:=yB0;have hg:uG n41 l41 [[97],[98],[1072]]=some [[0,2]]:=by
  rw[z06 zPW zPX zPY (by decide) (by simp) (by simp[t1,t2,t3]) (by simp[zGC]) (by simp[rg])];simp only[List.map_cons,List.map_nil,s1,s2,s3];rfl
 have ha:x9 n41 l41 [97] [1072]=some true:=by
  rw[zPU zPW zPX zPY (by decide) (by decide) t1 t3,s1,s3];rfl
 have hk1:xQ n41 l41 p41 [97] [1072]=some 2:=by
  rw[zL9 zPW zPX zPY zT5 (by decide) (by decide) t1 t3];unfold kE;rw[s1,s3,z7T,yA3];rfl
 have hk2:xQ n41 l41 p41 [97] [97]=some 1:=by
  rw[zL9 zPW zPX zPY zT5 (by decide) (by decide) t1 t1];unfold kE;rw[z7T,if_pos rfl];rfl
 have hc:uJ n41 l41=some true:=by
  rw[z04 zPW zPX zPY];unfold zXR;rw[zR5 zT4];simp only[List.all_cons,List.all_nil,zKO (.inl rfl)];rfl
 have he:zB3 [0,2] [0,2]=some true:=by rw[zVS (by simp)];simp
 unfold zD4;rw[hg,zH,ha,zH,yE,wO,hk1,zH,yE];show (gM true _).bind _=_;rw[wO,hk2,zH,yE];show ((pv true).bind _)=_;rw[yE,wO];show (gM true (zB3 [0,2] [0,2])).bind _=_;rw[wO,he,zH,yE];show (gM true _).bind _=_;rw[wO,hc];rfl
section
variable {d:Unicodetextlaw41_Data} (ok0:zBF d)
theorem law41_ConfusableKinds_true (d:Unicodetextlaw41_Data) (x:Unicodetextlaw41_Pair) (ok0:zBF d) (ok1:zD1 x):zAJ d x=some true:=by
 obtain⟨f,hf,pf⟩:=yAZ d;unfold zAJ zJY;rw[hf,zH,yE,yE];by_cases h0:f=true∧x.P.Names.length≤300∧x.P.Spans.length≤30∧x.A.length≤12∧x.B.length≤12
 case neg=>
  cases f with
  | false=>
   simp only[Bool.not_false,Bool.not_true,zBC,zH,yE,Bool.true_or,cond_true,zOD]
  | true=>
   simp only[Bool.not_true,Bool.not_false,wO,zH,yE,Bool.false_or];have e:((!(decide ((x.P.Names.length:Int)≤300)&&decide ((x.P.Spans.length:Int)≤30)) ||decide ((12:Int)<(x.A.length:Int))) ||decide ((12:Int)<(x.B.length:Int)))=true:=by
    simp;simp at h0;omega
   rw[e,Bool.not_true,zBC,zH,Bool.true_or,cond_true,zOD];rfl
 obtain⟨rfl,h1,h2,h3,h4⟩:=h0;obtain⟨hs,hl⟩:=pf rfl;have hp:Sm x.P:=⟨ok1.1,by omega⟩;simp only[Bool.not_true,Bool.not_false,wO,zH,yE,Bool.false_or];have e:((!(decide ((x.P.Names.length:Int)≤300)&&decide ((x.P.Spans.length:Int)≤30)) ||decide ((12:Int)<(x.A.length:Int))) ||decide ((12:Int)<(x.B.length:Int)))=false:=by
  simp;omega
 rw[e,Bool.not_false,wO,z9S hs ok0.1 hl (by simp) (by simp;omega),zH,Bool.false_or]
 cases hL: [x.A,x.B].all (ltE d.Norm d.Map) with
 | false=>rw[Bool.not_false,cond_true,zOD];rfl
 | true=>
  simp only[List.all_cons,List.all_nil,Bool.and_true,Bool.and_eq_true] at hL;have q1:=zL9 hs ok0.1 hl hp (a:=x.A) (b:=x.B) (by omega) (by omega) hL.1 hL.2;have q2:=z05 hs ok0.1 hl hp (a:=x.A) (b:=x.B) (by omega) (by omega) hL.1 hL.2;have q3:=zL9 hs ok0.1 hl hp (a:=x.B) (b:=x.A) (by omega) (by omega) hL.2 hL.1;have q4:=zPU hs ok0.1 hl (a:=x.A) (b:=x.B) (by omega) (by omega) hL.1 hL.2;rw[Bool.not_true,cond_false,q1,zH,q2,zH,decide_eq_true (rfl:kE d.Norm d.Map x.P x.A x.B=kE d.Norm d.Map x.P x.A x.B),wO,q3,zH,z65 d.Norm d.Map x.P x.B x.A,decide_eq_true (rfl:kE d.Norm d.Map x.P x.A x.B=kE d.Norm d.Map x.P x.A x.B),Bool.and_self,wO,q4,zH,z9V,beq_self_eq_true,Bool.and_self,wO,zOD];rfl
end
end Go.M


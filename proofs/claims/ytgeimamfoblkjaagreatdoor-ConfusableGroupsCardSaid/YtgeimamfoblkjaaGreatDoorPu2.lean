/- What the plain counterparts answer. Conditions: none. -/
import Derived.Test.YtgeimamfoblkjaaGreatDoorPu1
set_option linter.unusedSimpArgs false
set_option linter.unusedVariables false
set_option linter.unnecessarySimpa false
namespace Go.M
open Go.AV
section
variable {β:Type} [Inhabited β] (upd:List β→Nat→β)
def zLW:Nat→Nat→List β→List β
 | 0,_,out=>out
 | d+1,i,out=>zLW d (i+1) (out.set i (upd out i))
def zG2 (n:Nat):Nat→List β→List β
 | 0,out=>out
 | k+1,out=>zG2 n k (zLW upd n 0 out)
end
section
variable {β:Type} [Inhabited β] {upd:List β→Nat→β} {n:Nat} {Inv:List β→Prop}
theorem zNZ {out:List β} {i j:Nat} {x: β} (hi:i<out.length):nth (out.set i x) j=if j=i then x else nth out j:=by unfold nth;rw[List.getD_eq_getElem?_getD,List.getD_eq_getElem?_getD,List.getElem?_set];by_cases h:i=j;subst h;simp[hi];rw[if_neg h,if_neg (fun e=>h e.symm)]
theorem z5J {out:List β} {i:Nat} (hi:i<out.length):out.set i (nth out i)=out:=by rw[uF hi];simp
omit [Inhabited β] in
theorem zN0:∀(d i:Nat) (out:List β),(zLW upd d i out).length=out.length
 | 0,_,_=>rfl
 | d+1,i,out=>by rw[zLW,zN0 d];simp
omit [Inhabited β] in
theorem zN1 (hi:∀i out,i<n→out.length=n→Inv out→Inv (out.set i (upd out i))):∀(d i:Nat) (out:List β),i+d=n→out.length=n→Inv out→Inv (zLW upd d i out)
 | 0,_,_,_,_,h=>h
 | d+1,i,out,hd,hl,h=>by
  rw[zLW];exact zN1 hi d (i+1) _ (by omega) (by simp[hl]) (hi i out (by omega) hl h)
omit [Inhabited β] in
theorem zS1 (hi:∀i out,i<n→out.length=n→Inv out→Inv (out.set i (upd out i))):∀(k:Nat) (out:List β),out.length=n→Inv out→Inv (zG2 upd n k out)∧(zG2 upd n k out).length=n
 | 0,_,hl,h=>⟨h,hl⟩
 | k+1,out,hl,h=>by
  rw[zG2];exact zS1 hi k _ (by rw[zN0,hl]) (zN1 hi n 0 out (by omega) hl h)
theorem z2Z {R R':Nat→Prop} {t:Nat→β} (hm:∀j,R j→R' j) (hi:∀i out,i<n→out.length=n→Inv out→Inv (out.set i (upd out i)))
  (hs:∀out i,i<n→out.length=n→Inv out→(∀j,j<n→R j→nth out j=t j)→R' i→upd out i=t i):
  ∀(d i:Nat) (out:List β),i+d=n→out.length=n→Inv out→(∀j,j<n→R j→nth out j=t j)→(∀j,j<i→R' j→nth out j=t j)→∀j,j<n→R' j→nth (zLW upd d i out) j=t j
 | 0,i,out,hd,hl,h,h1,h2,j,hj,hr=>h2 j (by omega) hr
 | d+1,i,out,hd,hl,h,h1,h2,j,hj,hr=>by
  have hin:i<n:=by omega
  have hu:R' i→upd out i=t i:=hs out i hin hl h h1;rw[zLW];refine z2Z hm hi hs d (i+1) _ (by omega) (by simp[hl]) (hi i out hin hl h) (fun j hj hr=>?_) (fun j hj hr=>?_) j hj hr
  ·rw[zNZ (by omega)]
   split
   ·rename_i e;subst e;exact hu (hm _ hr)
   ·exact h1 j hj hr
  ·rw[zNZ (by omega)]
   split
   ·rename_i e;subst e;exact hu hr
   ·exact h2 j (by omega) hr
theorem zS2 {R:Nat→Nat→Prop} {t:Nat→β} (hm:∀r j,R r j→R (r+1) j) (hi:∀i out,i<n→out.length=n→Inv out→Inv (out.set i (upd out i)))
  (hs:∀r out i,i<n→out.length=n→Inv out→(∀j,j<n→R r j→nth out j=t j)→R (r+1) i→upd out i=t i):
  ∀(k r:Nat) (out:List β),out.length=n→Inv out→(∀j,j<n→R r j→nth out j=t j)→∀j,j<n→R (r+k) j→nth (zG2 upd n k out) j=t j
 | 0,_,_,_,_,h,j,hj,hr=>h j hj hr
 | k+1,r,out,hl,h,h1,j,hj,hr=>by
  rw[zG2];have:=z2Z (R:=R r) (R':=R (r+1)) (hm r) hi (hs r) n 0 out (by omega) hl h h1 (fun j hj=>by omega);refine zS2 hm hi hs k (r+1) _ (by rw[zN0,hl]) (zN1 hi n 0 out (by omega) hl h) this j hj ?_;rw[show r+1+k=r+(k+1) by omega];exact hr
omit [Inhabited β] in
theorem zLX {X Y:Type} (mk:Nat→List β→X) {body:X→Option (Stp X Y)} (fin:List β→Y)
  (hb:∀i out,i<n→out.length=n→Inv out→body (mk i out)=some (.next (mk (i+1) (out.set i (upd out i)))))
  (hi:∀i out,i<n→out.length=n→Inv out→Inv (out.set i (upd out i)))
  (he:∀out,body (mk n out)=some (.done (fin out))):∀(d i:Nat) (out:List β),i+d=n→out.length=n→Inv out→zX body (mk i out)=some (fin (zLW upd d i out))
 | 0,i,out,hd,hl,h=>by
  have:i=n:=by omega
  subst this;exact yJ (he out)
 | d+1,i,out,hd,hl,h=>by
  rw[yS (hb i out (by omega) hl h),zLW];exact zLX mk fin hb hi he d (i+1) _ (by omega) (by simp[hl]) (hi i out (by omega) hl h)
omit [Inhabited β] in
theorem zLY {X Y:Type} (mk:Nat→List β→X) {body:X→Option (Stp X Y)} (fin:List β→Y) {N:Nat}
  (hb:∀r out,r<N→out.length=n→Inv out→body (mk r out)=some (.next (mk (r+1) (zLW upd n 0 out))))
  (hi:∀i out,i<n→out.length=n→Inv out→Inv (out.set i (upd out i)))
  (he:∀out,body (mk N out)=some (.done (fin out))):∀(k r:Nat) (out:List β),r+k=N→out.length=n→Inv out→zX body (mk r out)=some (fin (zG2 upd n k out))
 | 0,r,out,hd,hl,h=>by
  have:r=N:=by omega
  subst this;exact yJ (he out)
 | k+1,r,out,hd,hl,h=>by
  rw[yS (hb r out (by omega) hl h),zG2];exact zLY mk fin hb hi he k (r+1) _ (by omega) (by rw[zN0,hl]) (zN1 hi n 0 out (by omega) hl h)
end
theorem zVL {A Y:Type} {p:Nat→A→Option Y}:∀{l:List A} {k:Nat} {y:Y},chk p l k=some y→∃j,∃h:j<l.length,p (k+j) l[j]=some y
 | [],_,_,h=>by cases h
 | x::l,k,y,h=>by
  unfold chk at h;cases hp:p k x with
  | some z=>
   rw[hp] at h;exact⟨0,by simp,by simpa[hp] using h⟩
  | none=>
   rw[hp] at h;obtain⟨j,hj,e⟩:=zVL h;exact⟨j+1,by simpa using hj,by rw[show k+(j+1)=k+1+j by omega];simpa using e⟩
theorem zRL {A Y:Type} {p:Nat→A→Option Y}:∀{l:List A} {k j:Nat} (h:j<l.length),p (k+j) l[j]≠none→∃i,∃hi:i<l.length,i≤j∧chk p l k=p (k+i) l[i]
 | [],_,_,h,_=>by cases h
 | x::l,k,j,h,hp=>by
  unfold chk;cases hx:p k x with
  | some z=>exact⟨0,by simp,Nat.zero_le _,by simp[hx]⟩
  | none=>
   cases j with
   | zero=>exact absurd (by simpa using hx) hp
   | succ j=>
    obtain⟨i,hi,hij,e⟩:=zRL (p:=p) (l:=l) (k:=k+1) (j:=j) (by simpa using h) (by rw[show k+1+j=k+(j+1) by omega];simpa using hp)
    exact⟨i+1,by simpa using hi,by omega,by rw[show k+(i+1)=k+1+i by omega];simpa using e⟩
def pM (c:Int) (b:Bool) (k:Nat) (m:Mapping):Option Nat:=if m.From=c∧(b ||(m.Tag== []))=true then some k else none
def fi (l:List Mapping) (c:Int) (b:Bool):Option Nat:=chk (pM c b) l 0
theorem zHI {l:List Mapping} {c:Int} {b:Bool} {i:Nat} (h:fi l c b=some i):i<l.length∧(nth l i).From=c∧(b ||((nth l i).Tag== []))=true:=by
 obtain⟨j,hj,e⟩:=zVL h;unfold pM at e;split at e;rename_i hp;injection e with e;have:i=j:=by omega
 subst this;rw[uF hj];exact⟨hj,hp⟩;cases e
theorem zYE {l:List Mapping} {c:Int} {b:Bool} (h:fi l c b=none):∀m∈l,¬(m.From=c∧(b ||(m.Tag== []))=true):=by intro m hm hp;obtain⟨j,hj,rfl⟩:=List.getElem_of_mem hm;have:=zO7 h j hj;unfold pM at this;rw[if_pos hp] at this;cases this
theorem zRM {l:List Mapping} (hd:DS l) (c:Int) (b:Bool):(∃i,fi l c b=some i∧i<l.length∧(nth l i).From=c∧fnB l b c=some (nth l i).To)∨(fi l c b=none∧fnB l b c=none):=by
 cases hf:fi l c b with
 | some i=>
  obtain⟨h1,h2,h3⟩:=zHI hf;refine .inl ⟨i,rfl,h1,h2,?_⟩;have:=zDF hd (x4 h1);rw[h2] at this;unfold fnB;rw[this];simp only[h3,if_true]
 | none=>
  refine .inr ⟨rfl,?_⟩;cases hn:fnB l b c with
  | none=>rfl
  | some to=>
   obtain⟨m,h1,_,h3⟩:=zFP hn;obtain⟨h4,h5⟩:=zDV h1;exact absurd ⟨h5,h3⟩ (zYE hf m h4)
def fiI (l:List Mapping) (c:Int) (b:Bool):Int:=match fi l c b with
 | some i=>(i:Int)
 | none=> -1
end Go.M
namespace Go.M
open Go.AV
section
variable {l:List Mapping} (hd:DS l)
def zKP (l:List Mapping) (out:List Bool) (i:Nat):Bool:=(nth l i).To.all fun e=>match fi l e true with
 | some m=>nth out m
 | none=>true
def zZ4 (l:List Mapping) (out:List Bool):Prop:= ∀j,j<l.length→nth out j=true→WW l (nth l j).From
include hd
theorem z5L {out:List Bool} (h:zZ4 l out) {i:Nat} (hi:i<l.length) (hu:zKP l out i=true):WW l (nth l i).From:=by
 refine zVD fun e he=>?_;rw[zVC hd (x4 hi)] at he;have:=List.all_eq_true.1 hu e he;rcases zRM hd e true with ⟨m,h1,h2,h3,_⟩ | ⟨h1,h2⟩
 rw[h1] at this;have:=h m h2 this;rw[h3] at this;exact this;cases hs:syl e with
 | true=>exact z70 hd hs
 | false=>
  refine zSV ?_;unfold dep;rw[if_neg (by simp[hs])];rw[zPF] at h2;cases hf:l.find? (isF e) with
  | none=>rfl
  | some m=>rw[hf] at h2;cases h2
theorem zRN (i:Nat) (out:List Bool) (hi:i<l.length) (hl:out.length=l.length) (h:zZ4 l out):zZ4 l (out.set i (zKP l out i)):=by intro j hj hn;rw[zNZ (by omega)] at hn;split at hn;rename_i e;subst e;exact z5L hd h hi hn;exact h j hj hn
theorem z5M (r:Nat) (out:List Bool) (i:Nat) (hi:i<l.length) (_hl:out.length=l.length) (h1:∀j,j<l.length→DD l r (nth l j).From→nth out j=true) (hr:DD l (r+1) (nth l i).From):zKP l out i=true:=by
 refine List.all_eq_true.2 fun e he=>?_;have:=hr (nth l i) (zDF hd (x4 hi)) e he;rcases zRM hd e true with ⟨m,e1,e2,e3,_⟩ | ⟨e1,_⟩
 rw[e1];exact h1 m e2 (by rw[e3];exact this)
 rw[e1]
theorem z21:(∀j,j<l.length→nth (zG2 (zKP l) l.length l.length (List.replicate l.length false)) j=true)↔∀m∈l,WW l m.From:=by
 have h0:zZ4 l (List.replicate l.length false):=by
  intro j hj hn;rw[uF (by simpa using hj)] at hn;simp at hn
 constructor;intro h;have hv:=(zS1 (upd:=zKP l) (n:=l.length) (Inv:=zZ4 l) (zRN hd) l.length _ (by simp) h0).1;rw[←vM (p:=fun m:Mapping=>WW l m.From)];exact fun k hk=>hv k hk (h k hk);intro H j hj;have hp:=z2H hd H;refine zS2 (upd:=zKP l) (n:=l.length) (Inv:=zZ4 l) (R:=fun r j=>j<l.length∧DD l r (nth l j).From) (t:=fun _=>true) (fun r j h=>⟨h.1,zIK h.2⟩) (zRN hd) (fun r out i hi hl _ h1 hr=>z5M hd r out i hi hl (fun j hj hr=>h1 j hj ⟨hj,hr⟩) hr.2) l.length 0 _ (by simp) h0 (fun j hj hr=>?_) j hj ⟨hj,by rw[Nat.zero_add];exact hp _ (x4 hj)⟩
 have:l.find? (isF (nth l j).From)=none:=hr.2;rw[zDF hd (x4 hj)] at this;cases this
end
section
variable {l:List Mapping} (hd:DS l) (hD:∀c,DD l l.length c) {b:Bool}
def lenOf (l:List Mapping) (b:Bool) (out:List Int) (e:Int):Int:=match fi l e b with
 | some m=>nth out m
 | none=>((hdE e).length:Int)
def updL (l:List Mapping) (b:Bool) (out:List Int) (i:Nat):Int:=if (b ||((nth l i).Tag== []))=true then min (max (((nth l i).To.map (lenOf l b out)).sum) 1) 65 else 1
def zS3 (out:List Int):Prop:= ∀x∈out,0≤x∧x≤65
theorem z5N (out:List Int) (i:Nat):0≤updL l b out i∧updL l b out i≤65:=by unfold updL;split<;>omega
theorem zMR (i:Nat) (out:List Int) (_hi:i<l.length) (_hl:out.length=l.length) (h:zS3 out):zS3 (out.set i (updL l b out i)):=by
 intro x hx;rcases List.mem_or_eq_of_mem_set hx with hx | rfl
 exact h x hx;exact z5N out i
include hd hD
theorem z5O {i:Nat} (hi:i<l.length):wt l b (nth l i).From=if (b ||((nth l i).Tag== []))=true then min (max (((nth l i).To.map (wt l b)).sum) 1) 65 else 1:=by
 rw[zRK hD];unfold fnB;rw[zDF hd (x4 hi)];by_cases ht:(b ||((nth l i).Tag== []))=true;simp only[ht,if_true];have hs:=zPD hd (x4 hi);have e1:hdE (nth l i).From= [(nth l i).From]:=by unfold hdE;rw[if_neg (by simp[hs])]
 rw[if_neg ht];simp only[e1];rw[if_neg ht];rfl
omit hD in
theorem z22 {out:List Int} {e:Int} (hD':fnB l b e=none→wt l b e=((hdE e).length:Int)) (h:∀m,m<l.length→(nth l m).From=e→nth out m=wt l b e):lenOf l b out e=wt l b e:=by
 unfold lenOf;rcases zRM hd e b with ⟨m,e1,e2,e3,_⟩ | ⟨e1,e2⟩
 rw[e1];exact h m e2 e3;rw[e1,hD' e2]
theorem z5P (r:Nat) (out:List Int) (i:Nat) (hi:i<l.length) (h1:∀j,j<l.length→DD l r (nth l j).From→nth out j=wt l b (nth l j).From) (hr:DD l (r+1) (nth l i).From):updL l b out i=wt l b (nth l i).From:=by
 rw[z5O hd hD hi];unfold updL;split
 ·have:(nth l i).To.map (lenOf l b out)=(nth l i).To.map (wt l b):=List.map_congr_left fun e he=>by
   have hde:=hr (nth l i) (zDF hd (x4 hi)) e he;exact z22 hd (fun hn=>by rw[zRK hD,hn]) fun m hm hf=>by rw[←hf];exact h1 m hm (by rw[hf];exact hde)
  rw[this]
 ·rfl
theorem zYF (j:Nat) (hj:j<l.length):nth (zG2 (updL l b) l.length l.length (List.replicate l.length 0)) j=wt l b (nth l j).From:=by
 have h0:zS3 (List.replicate l.length 0):=fun x hx=>by rw[(List.mem_replicate.1 hx).2];omega
 refine zS2 (upd:=updL l b) (n:=l.length) (Inv:=zS3) (R:=fun r j=>j<l.length∧DD l r (nth l j).From) (t:=fun j=>wt l b (nth l j).From) (fun r j h=>⟨h.1,zIK h.2⟩) zMR (fun r out i hi hl _ h1 hr=>z5P hd hD r out i hi (fun j hj hr=>h1 j hj ⟨hj,hr⟩) hr.2) l.length 0 _ (by simp) h0 (fun j hj hr=>?_) j hj ⟨hj,by rw[Nat.zero_add];exact hD _⟩
 have:l.find? (isF (nth l j).From)=none:=hr.2;rw[zDF hd (x4 hj)] at this;cases this
end
section
variable {l:List Mapping} (hd:DS l) (hD:∀c,DD l l.length c) {b:Bool}
def zFQ (l:List Mapping) (b:Bool) (out:List (List Int)) (e:Int):List Int:=match fi l e b with
 | some m=>nth out m
 | none=>hdE e
def zPJ (l:List Mapping) (b:Bool) (out:List (List Int)) (i:Nat):List Int:=if (b ||((nth l i).Tag== []))=true then (nth l i).To.flatMap (zFQ l b out) else nth out i
def zQM (l:List Mapping) (b:Bool) (out:List (List Int)):Prop:= ∀j,j<l.length→(nth out j).length≤(fu l b (nth l j).From).length
include hd hD
theorem zYG {i:Nat} (hi:i<l.length) (ht:(b ||((nth l i).Tag== []))=true):fu l b (nth l i).From=(nth l i).To.flatMap (fu l b):=by rw[zLS hD];unfold fnB;rw[zDF hd (x4 hi)];simp only[ht,if_true]
theorem zYH {out:List (List Int)} (h:zQM l b out) (e:Int):(zFQ l b out e).length≤(fu l b e).length:=by
 unfold zFQ;rcases zRM hd e b with ⟨m,e1,e2,e3,_⟩ | ⟨e1,e2⟩
 rw[e1];have:=h m e2;rw[e3] at this;exact this;rw[e1,zLS hD,e2];exact Nat.le_refl _
omit hd hD in
theorem zVM {f g:Int→List Int} (h:∀e,(f e).length≤(g e).length):∀L:List Int,(L.flatMap f).length≤(L.flatMap g).length
 | []=>Nat.le_refl _
 | x::L=>by have:=zVM h L;have:=h x;simp only[List.flatMap_cons,List.length_append];omega
theorem z23 {out:List (List Int)} (h:zQM l b out) {i:Nat} (hi:i<l.length):(zPJ l b out i).length≤(fu l b (nth l i).From).length:=by unfold zPJ;split;rename_i ht;rw[zYG hd hD hi ht];exact zVM (zYH hd hD h) _;exact h i hi
theorem zMS (i:Nat) (out:List (List Int)) (hi:i<l.length) (hl:out.length=l.length) (h:zQM l b out):zQM l b (out.set i (zPJ l b out i)):=by intro j hj;rw[zNZ (by omega)];split;rename_i e;subst e;exact z23 hd hD h hi;exact h j hj
omit hD in
theorem z5Q (hD:∀c,DD l l.length c) (r:Nat) (out:List (List Int)) (i:Nat) (hi:i<l.length) (h1:∀j,j<l.length→(b ||((nth l j).Tag== []))=true→DD l r (nth l j).From→nth out j=fu l b (nth l j).From) (ht:(b ||((nth l i).Tag== []))=true) (hr:DD l (r+1) (nth l i).From):zPJ l b out i=fu l b (nth l i).From:=by
 rw[zYG hd hD hi ht];unfold zPJ;rw[if_pos ht];refine zKN fun e he=>?_;have hde:=hr (nth l i) (zDF hd (x4 hi)) e he;unfold zFQ;cases hf:fi l e b with
 | some m=>
  obtain⟨e1,e2,e3⟩:=zHI hf;show nth out m=_;rw[h1 m e1 e3 (by rw[e2];exact hde),e2]
 | none=>
  rcases zRM hd e b with ⟨m,e1,_⟩ | ⟨_,e2⟩;rw[hf] at e1;cases e1;show hdE e=_;rw[zLS hD,e2]
def zVN (l:List Mapping) (b:Bool):List (List Int):=zG2 (zPJ l b) l.length l.length (List.replicate l.length [])
omit hd hD in
theorem z6P:zQM l b (List.replicate l.length []):=by intro j hj;rw[uF (by simpa using hj)];simp
theorem z8G (j:Nat) (hj:j<l.length) (ht:(b ||((nth l j).Tag== []))=true):nth (zVN l b) j=fu l b (nth l j).From:=by
 refine zS2 (upd:=zPJ l b) (n:=l.length) (Inv:=zQM l b) (R:=fun r j=>j<l.length∧(b ||((nth l j).Tag== []))=true∧DD l r (nth l j).From) (t:=fun j=>fu l b (nth l j).From) (fun r j h=>⟨h.1,h.2.1,zIK h.2.2⟩) (zMS hd hD) (fun r out i hi hl _ h1 hr=>z5Q hd hD r out i hi (fun j hj ht hr=>h1 j hj ⟨hj,ht,hr⟩) hr.2.1 hr.2.2) l.length 0 _ (by simp) z6P (fun j hj hr=>?_) j hj ⟨hj,ht,by rw[Nat.zero_add];exact hD _⟩
 have:l.find? (isF (nth l j).From)=none:=hr.2.2;rw[zDF hd (x4 hj)] at this;cases this
theorem z5R (e:Int):zFQ l b (zVN l b) e=fu l b e:=by
 unfold zFQ;cases hf:fi l e b with
 | some m=>
  obtain⟨e1,e2,e3⟩:=zHI hf;show nth (zVN l b) m=_;rw[z8G hd hD m e1 e3,e2]
 | none=>
  rcases zRM hd e b with ⟨m,e1,_⟩ | ⟨_,e2⟩;rw[hf] at e1;cases e1;show hdE e=_;rw[zLS hD,e2]
end
end Go.M
namespace Go.M
open Go.AV
def plF (n:Int):Bool→List Int→Bool×List Int
 | true,l=>(true,l)
 | false,[]=>(false,[])
 | false,x::l=>if n≤x then (true,if n<x then n::x::l else x::l) else ((plF n false l).1,x::(plF n false l).2)
def plE (n:Int):List Int→List Int
 | []=>[n]
 | x::l=>if n≤x then (if n<x then n::x::l else x::l) else x::plE n l
theorem z6Q (n:Int):∀l:List Int,(if (plF n false l).1=true then (plF n false l).2 else (plF n false l).2++ [n])=plE n l
 | []=>rfl
 | x::l=>by
  have:=z6Q n l;unfold plF plE;by_cases h:n≤x;simp[h];simp only[h,if_false];rw[←this];split<;>simp
theorem zWW {l:List Int} {n:Int} (hl:l.length≤30000):∀(d k:Nat) (b:Bool) (out:List Int),l.length-k=d→k≤l.length→out.length≤2*k→
  zX (fun (x:Bool×Int×(List Int))=>xB l n x.1 x.2.1 x.2.2) (b,(k:Int),out)=some ((plF n b (l.drop k)).1,out++(plF n b (l.drop k)).2):=by
 intro d
 induction d with
 | zero=>
  intro k b out h1 h2 h3;rw[List.drop_of_length_le (show l.length≤k by omega)];refine yJ ?_;simp only[xB,jP (show l.length≤k by omega),cond_false];cases b<;>simp[plF]
 | succ d ih=>
  intro k b out h1 h2 h3;have hk:k<l.length:=by omega
  have ha:∀{o:List Int} (x:Int),o.length≤2*k+1→app o [x]=some (o++ [x]):=fun {o} x ho=>zBK (by simp;omega)
  rw[List.drop_eq_getElem_cons hk];have nx:∀(b':Bool) (o':List Int),o'.length≤2*(k+1)→xB l n b (k:Int) out=some (.next (b',((k+1:Nat):Int),o'))→(plF n b' (l.drop (k+1))).1=(plF n b (l[k]::l.drop (k+1))).1→o'++(plF n b' (l.drop (k+1))).2=out++(plF n b (l[k]::l.drop (k+1))).2→
    zX (fun (x:Bool×Int×(List Int))=>xB l n x.1 x.2.1 x.2.2) (b,(k:Int),out)=some ((plF n b (l[k]::l.drop (k+1))).1,out++(plF n b (l[k]::l.drop (k+1))).2):=by
   intro b' o' ho hb e1 e2;rw[yS (body:=fun (x:Bool×Int×(List Int))=>xB l n x.1 x.2.1 x.2.2) (x:=(b,(k:Int),out)) hb,ih (k+1) b' o' (by omega) (by omega) ho,e1,e2]
  cases b with
  | true=>
   refine nx true (out++ [l[k]]) (by simp;omega) ?_ ?_ ?_
   ·simp only[xB,jF hk,cond_true,yF,Bool.not_true,zB7,zH,Bool.false_and,cond_false,kL hk,ha _ (show out.length≤2*k+1 by omega),yC (k:=k) (by omega)]
   ·simp[plF]
   ·simp[plF]
  | false=>
   by_cases h4:n≤l[k]
   ·by_cases h5:n<l[k]
    ·refine nx true (out++ [n]++ [l[k]]) (by simp;omega) ?_ ?_ ?_
     ·simp only[xB,jF hk,cond_true,yF,Bool.not_false,uE,zH,Bool.true_and,kL hk,h4,h5,decide_true,ha _ (show out.length≤2*k+1 by omega),ha _ (show (out++ [n]).length≤2*k+1 by simp;omega),yC (k:=k) (by omega)]
     ·simp[plF,h4]
     ·simp[plF,h4,h5]
    ·refine nx true (out++ [l[k]]) (by simp;omega) ?_ ?_ ?_
     ·simp only[xB,jF hk,cond_true,yF,Bool.not_false,uE,zH,Bool.true_and,kL hk,h4,h5,decide_true,decide_false,cond_false,ha _ (show out.length≤2*k+1 by omega),yC (k:=k) (by omega)]
     ·simp[plF,h4]
     ·simp[plF,h4,h5]
   ·refine nx false (out++ [l[k]]) (by simp;omega) ?_ ?_ ?_
    ·simp only[xB,jF hk,cond_true,yF,Bool.not_false,uE,zH,Bool.true_and,kL hk,h4,decide_false,cond_false,ha _ (show out.length≤2*k+1 by omega),yC (k:=k) (by omega)]
    ·simp[plF,h4]
    ·simp[plF,h4]
theorem zYI (n:Int):∀l:List Int,(plF n false l).2.length≤l.length+1
 | []=>by simp[plF]
 | x::l=>by
  have:=zYI n l;unfold plF;by_cases h:n≤x;by_cases h5:n<x<;>simp[h,h5];simp only[h,if_false,List.length_cons];omega
theorem zLZ {l:List Int} (hl:l.length≤30000) (n:Int):zC1 l n=some (plE n l):=by
 unfold zC1;have h:=zWW (n:=n) hl l.length 0 false [] (by omega) (by omega) (by simp);have hlen:=zYI n l;rw[List.drop_zero,List.nil_append] at h;have h':zX (fun (x:Bool×Int×(List Int))=>xB l n x.1 x.2.1 x.2.2) (false,0,[])=some ((plF n false l).1,(plF n false l).2):=h;rw[h',zH,←z6Q];cases (plF n false l).1 with
 | true=>rfl
 | false=>simp only[Bool.not_false,cond_true,zBK (show (plF n false l).2.length+ [n].length≤4294967296 by simp;omega),zH];rfl
def Gd (l:List Int):Prop:=l.Pairwise (· < ·)∧∀x∈l,0≤x∧x≤1114111
theorem zS4 (n:Int):∀{l:List Int} {x:Int},x∈plE n l→x=n∨x∈l
 | [],x,h=>by simp[plE] at h;exact .inl h
 | y::l,x,h=>by
  unfold plE at h;split at h;split at h;rcases List.mem_cons.1 h with h | h
  exact .inl h;exact .inr h;exact .inr h;rcases List.mem_cons.1 h with h | h
  exact .inr (by simp[h]);rcases zS4 n h with h | h
  exact .inl h;exact .inr (by simp[h])
theorem zYJ (n:Int):∀{l:List Int},l.Pairwise (· < ·)→(plE n l).Pairwise (· < ·)
 | [],_=>by simp[plE]
 | y::l,h=>by
  obtain⟨h1,h2⟩:=List.pairwise_cons.1 h;unfold plE;split;split;rename_i hn;refine List.pairwise_cons.2 ⟨fun z hz=>?_,h⟩;rcases List.mem_cons.1 hz with rfl | hz;exact hn;have:=h1 z hz;omega;exact h;rename_i hn;refine List.pairwise_cons.2 ⟨fun z hz=>?_,zYJ n h2⟩;rcases zS4 n hz with rfl | hz;omega;exact h1 z hz
theorem zMT {n:Int} (hn:0≤n∧n≤1114111) {l:List Int} (h:Gd l):Gd (plE n l):=by
 refine⟨zYJ n h.1,fun x hx=>?_⟩;rcases zS4 n hx with rfl | hx
 exact hn;exact h.2 x hx
theorem zJS (n:Int):∀l:List Int,(plE n l).length≤l.length+1
 | []=>by simp[plE]
 | x::l=>by
  have:=zJS n l;unfold plE;split;split<;>simp;simp only[List.length_cons];omega
theorem zS5 {n:Int}:∀{l:List Int},(∀x∈l,x<n)→plE n l=l++ [n]
 | [],_=>rfl
 | y::l,h=>by
  have hy:=h y (by simp);unfold plE;rw[if_neg (by omega),zS5 fun x hx=>h x (by simp[hx])];rfl
def cuS (c:List Int) (r:Range):List Int:=if 0≤r.Hi∧r.Hi<1114111 then plE (r.Hi+1) (if vld r.Lo=true then plE r.Lo c else c) else (if vld r.Lo=true then plE r.Lo c else c)
theorem zYK (c:List Int) (r:Range):(cuS c r).length≤c.length+2:=by
 have h1:=zJS r.Lo c;unfold cuS;split
 ·
  have h2:=zJS (r.Hi+1) (if vld r.Lo=true then plE r.Lo c else c);split at h2<;>split<;>simp_all<;>omega
 · split<;>omega
theorem z8H {c:List Int} {r:Range} (h:Gd c):Gd (cuS c r):=by
 have h1:Gd (if vld r.Lo=true then plE r.Lo c else c):=by
  split;rename_i hv;unfold vld at hv;simp only[Bool.and_eq_true,decide_eq_true_eq] at hv;exact zMT hv h;exact h
 unfold cuS;split;exact zMT (by omega) h1;exact h1
def cuE (l:List Range) (c:List Int):List Int:=l.foldl cuS c
theorem zS6:∀(l:List Range) {c:List Int},Gd c→Gd (cuE l c)
 | [],_,h=>h
 | r::l,_,h=>zS6 l (z8H h)
theorem zS7:∀(l:List Range) (c:List Int),(cuE l c).length≤c.length+2*l.length
 | [],c=>by simp[cuE]
 | r::l,c=>by
  have h1:=zS7 l (cuS c r);have h2:=zYK c r;show (cuE l (cuS c r)).length≤_;simp only[List.length_cons];omega
theorem zZ6 {s:Set} (hl:s.Ranges.length≤12):∀(d k:Nat) (c:List Int),s.Ranges.length-k=d→k≤s.Ranges.length→c.length≤100+2*k→
  zX (fun (x:(List Int)×Int)=>vG s x.1 x.2) (c,(k:Int))=some (cuE (s.Ranges.drop k) c):=by
 intro d
 induction d with
 | zero=>
  intro k c h1 h2 h3;rw[List.drop_of_length_le (show s.Ranges.length≤k by omega)];refine yJ ?_;simp only[vG,jP (show s.Ranges.length≤k by omega),cond_false];rfl
 | succ d ih=>
  intro k c h1 h2 h3;have hk:k<s.Ranges.length:=by omega
  have hs:=zYK c s.Ranges[k];have hb:vG s c (k:Int)=some (.next (cuS c s.Ranges[k],((k+1:Nat):Int))):=by
   have hp:=zJS s.Ranges[k].Lo c;simp only[vG,jF hk,cond_true,kL hk,zH,zFO,yF,yC (k:=k) (by omega),zLZ (show c.length≤30000 by omega)];unfold cuS;by_cases hv:vld s.Ranges[k].Lo=true
   ·simp only[hv,cond_true,zH,if_true]
    by_cases ha:0≤s.Ranges[k].Hi
    ·by_cases hc:s.Ranges[k].Hi<1114111
     ·simp only[ha,hc,decide_true,Bool.and_self,cond_true,and_self,if_true]
      rw[wP (n:=s.Ranges[k].Hi+1) (by omega) (by omega),zLZ (by omega)];rfl
     ·simp[ha,hc]
    ·simp[ha]
   ·simp only[hv,Bool.false_eq_true,if_false,cond_false,zH]
    by_cases ha:0≤s.Ranges[k].Hi
    ·by_cases hc:s.Ranges[k].Hi<1114111
     ·simp only[ha,hc,decide_true,Bool.and_self,cond_true,and_self,if_true]
      rw[wP (n:=s.Ranges[k].Hi+1) (by omega) (by omega),zLZ (by omega)];rfl
     ·simp[ha,hc]
    ·simp[ha]
  rw[yS (body:=fun (x:(List Int)×Int)=>vG s x.1 x.2) (x:=(c,(k:Int))) hb,ih (k+1) _ (by omega) (by omega) (by omega),List.drop_eq_getElem_cons hk];rfl
theorem zYL {s:Set} (hl:s.Ranges.length≤12) {c:List Int} (hc:c.length≤100):zES c s=some (plE 0 (cuE s.Ranges c)):=by unfold zES;have h:=zZ6 hl s.Ranges.length 0 c (by omega) (by omega) (by omega);rw[List.drop_zero] at h;have h':zX (fun (x:(List Int)×Int)=>vG s x.1 x.2) (c,0)=some (cuE s.Ranges c):=h;have:=zS7 s.Ranges c;rw[h',zH,zLZ (by omega)];rfl
def zE1 (l:List Range) (c:Int):Bool:=l.any fun r=>vld c&&decide (r.Lo≤c)&&decide (c≤r.Hi)
theorem z24 {s:Set} (hl:s.Ranges.length≤30000) (c:Int):zET s c=some (zE1 s.Ranges c):=by
 unfold zET;have h:=kX (body:=fun (x:Int)=>zDD s c x) s.Ranges.length (fun k=> ¬(vld c&&decide ((nth s.Ranges k).Lo≤c)&&decide (c≤(nth s.Ranges k).Hi))=true) (fun y=>y=true) (fun k hk=>by
  simp only[zDD,jF hk,cond_true,zFO,zH,yF,yO hk,yC (k:=k) (by omega)];cases hv:vld c with
  | false=>simp only[zB7,zH,Bool.false_and,cond_false];exact .inl ⟨by simp,trivial⟩
  | true=>
   simp only[uE,zH,Bool.true_and];by_cases h1:(nth s.Ranges k).Lo≤c;simp only[h1,decide_true,uE,zH,Bool.true_and];exact wQ (by simp) rfl;simp only[h1,decide_false,zB7,zH,Bool.false_and,cond_false];exact .inl ⟨by simp,trivial⟩) (fun k hk=>by simp only[zDD,jP hk,cond_false])
 rw[vM (p:=fun r:Range=> ¬(vld c&&decide (r.Lo≤c)&&decide (c≤r.Hi))=true)] at h;rcases h with ⟨h,p⟩ | ⟨y,rfl,h,p⟩
 rw[h];have:zE1 s.Ranges c=false:=by unfold zE1;rw[List.any_eq_false];exact p
 rw[this];rfl;rw[h];have:zE1 s.Ranges c=true:=by
  cases he:zE1 s.Ranges c with
  | true=>rfl
  | false=>exfalso;apply p;unfold zE1 at he;rw[List.any_eq_false] at he;exact he
 rw[this];rfl
def nxt:List Int→Int
 | []=>1114111
 | d::_=>d-1
def coF (has:Int→Bool):List Int→Bool→List Range→List Range
 | [],_,o=>o
 | c::cs,op,o=>if has c=true then (if op=true then coF has cs true (match o with
   | q::o'=>{q with Hi:=nxt cs}::o'
   | []=>[]) else coF has cs true ({Lo:=c,Hi:=nxt cs}::o)) else coF has cs false o
theorem z5S {C:List Int} {s:Set} (hl:s.Ranges.length≤12) (hC:C.length≤200) (hg:Gd C):∀(d k:Nat) (op:Bool) (o:List Range),C.length-k=d→k≤C.length→o.length≤k→(op=true→o≠[])→
  zX (fun (x:Bool×Int×(List Range))=>jZ C s {Ranges:=[]} 1 x.1 x.2.1 x.2.2) (op,(k:Int),o.reverse)=some (coF (zE1 s.Ranges) (C.drop k) op o).reverse:=by
 intro d
 induction d with
 | zero=>
  intro k op o h1 h2 h3 h4;rw[List.drop_of_length_le (show C.length≤k by omega)];refine yJ ?_;simp only[jZ,jP (show C.length≤k by omega),cond_false];rfl
 | succ d ih=>
  intro k op o h1 h2 h3 h4;have hk:k<C.length:=by omega
  have he:zET {Ranges:=[]} C[k]=some false:=by rw[z24 (by simp)];rfl
  have hnx:(cond (decide (((k+1:Nat):Int)<(C.length:Int))) ((kZ C ((k+1:Nat):Int)).bind fun t31=>some (wi (t31-1))) (some 1114111):Option Int)=some (nxt (C.drop (k+1))):=by
   by_cases hk1:k+1<C.length
   ·have:=hg.2 _ (List.getElem_mem hk1)
    rw[jF hk1,cond_true,kL hk1,zH,wP (by omega) (by omega),List.drop_eq_getElem_cons hk1];rfl
   ·rw[jP (by omega),cond_false,List.drop_of_length_le (by omega)]
    rfl
  rw[List.drop_eq_getElem_cons hk];have nx:∀(op':Bool) (o':List Range),o'.length≤k+1→(op'=true→o'≠[])→jZ C s {Ranges:=[]} 1 op (k:Int) o.reverse=some (.next (op',((k+1:Nat):Int),o'.reverse))→coF (zE1 s.Ranges) (C.drop (k+1)) op' o'=coF (zE1 s.Ranges) (C[k]::C.drop (k+1)) op o→
    zX (fun (x:Bool×Int×(List Range))=>jZ C s {Ranges:=[]} 1 x.1 x.2.1 x.2.2) (op,(k:Int),o.reverse)=some (coF (zE1 s.Ranges) (C[k]::C.drop (k+1)) op o).reverse:=by
   intro op' o' ho hne hb e;rw[yS (body:=fun (x:Bool×Int×(List Range))=>jZ C s {Ranges:=[]} 1 x.1 x.2.1 x.2.2) (x:=(op,(k:Int),o.reverse)) hb,ih (k+1) op' o' (by omega) (by omega) ho hne,e]
  have hb0:jZ C s {Ranges:=[]} 1 op (k:Int) o.reverse=((cond (zE1 s.Ranges C[k]&&op) ((kZ o.reverse (wi ((o.reverse.length:Int)-1))).bind fun t59=>(zBM o.reverse (wi ((o.reverse.length:Int)-1)) ({t59 with Hi:=nxt (C.drop (k+1))})).bind fun r4160_4=>some r4160_4) (some o.reverse)).bind fun (y3:List Range)=>
    (cond (zE1 s.Ranges C[k]&& !op) ((app y3 [({Lo:=C[k],Hi:=nxt (C.drop (k+1))}:Range)]).bind fun r=>some r) (some y3)).bind fun (y5:List Range)=>some (Stp.next (zE1 s.Ranges C[k],((k+1:Nat):Int),y5))):=by
   unfold jZ;simp only[yC (k:=k) (show k+1≤9223372036854775807 by omega),jF hk,cond_true,hnx,zH,kL hk,z24 (show s.Ranges.length≤30000 by omega),he,zHD,decide_true,yF,Bool.or_false]
  cases hh:zE1 s.Ranges C[k] with
  | false=>
   refine nx false o (by omega) (fun h=>by cases h) ?_ ?_
   ·rw[hb0,hh];rfl
   ·simp[coF,hh]
  | true=>
   cases op with
   | false=>
    refine nx true ({Lo:=C[k],Hi:=nxt (C.drop (k+1))}::o) (by simp;omega) (fun _=>by simp) ?_ ?_
    ·rw[hb0,hh]
     simp only[Bool.and_false,cond_false,zH,Bool.not_false,Bool.and_self,cond_true,zBK (show o.reverse.length+ [({Lo:=C[k],Hi:=nxt (C.drop (k+1))}:Range)].length≤4294967296 by simp;omega)]
     simp
    ·simp[coF,hh]
   | true=>
    cases o with
    | nil=>exact absurd rfl (h4 rfl)
    | cons q o=>
     refine nx true ({q with Hi:=nxt (C.drop (k+1))}::o) (by simp only[List.length_cons] at h3 ⊢;omega) (fun _=>by simp) ?_ ?_
     ·rw[hb0,hh]
      have e1:wi (((q::o).reverse.length:Int)-1)=((o.length:Nat):Int):=by
       simp only[List.length_cons] at h3;have hL:((q::o).reverse.length:Int)=(o.length:Int)+1:=by simp
       rw[hL,wP (by omega) (by omega)];omega
      have e2:(q::o).reverse=o.reverse++q:: []:=by simp
      rw[e1,e2,wR (by simp),zH,zBC (by simp)];simp
     ·simp[coF,hh]
theorem z25 {l:List Range} (hl:l.length≤12):zGM l=some {Ranges:=(coF (zE1 l) (plE 0 (plE 0 (cuE l []))) false []).reverse}:=by unfold zGM zE3;have h1:=zS7 l [];have h2:=zJS 0 (cuE l []);have h3:=zJS 0 (plE 0 (cuE l []));simp only[List.length_nil] at h1;have e0:cuE ([]:List Range) (plE 0 (cuE l []))=plE 0 (cuE l []):=rfl;have hg:Gd (plE 0 (plE 0 (cuE l []))):=zMT (by omega) (zMT (by omega) (zS6 l ⟨.nil,fun x hx=>by cases hx⟩));rw[zYL (s:={Ranges:=l}) hl (by simp),zH,zYL (s:={Ranges:=[]}) (by simp) (show (plE 0 (cuE l [])).length≤100 by omega)];rw[zH];have h:=z5S (s:={Ranges:=l}) hl (by omega) hg _ 0 false [] rfl (by omega) (by simp) (fun h=>by cases h);rw[List.drop_zero] at h;have h':zX (fun (x:Bool×Int×(List Range))=>jZ (plE 0 (plE 0 (cuE l []))) {Ranges:=l} {Ranges:=[]} 1 x.1 x.2.1 x.2.2) (false,0,[])=some (coF (zE1 l) (plE 0 (plE 0 (cuE l []))) false []).reverse:=h;change ((zX (fun (x:Bool×Int×(List Range))=>jZ (plE 0 (plE 0 (cuE l []))) {Ranges:=l} {Ranges:=[]} 1 x.1 x.2.1 x.2.2) (false,0,[])).bind fun y1=>some ({Ranges:=y1}:Set)).bind (fun t6=>some t6)=_;rw[h'];rfl
end Go.M
namespace Go.M
open Go.AV
theorem zN3 {has:Int→Bool}:∀(C:List Int) (op:Bool) (o:List Range),Gd C→CanR o→(op=true→∀c,C.head? =some c→∃q o',o=q::o'∧q.Hi=c-1∧q.Lo≤c)→(op=false→∀c q,C.head? =some c→o.head? =some q→q.Hi+1<c)→(op=true→o≠[])→CanR (coF has C op o)
 | [],_,_,_,h,_,_,_=>h
 | c::cs,op,o,hg,ho,h1,h2,h3=>by
  obtain⟨ha,hb⟩:=List.pairwise_cons.1 hg.1;have hgs:Gd cs:=⟨hb,fun x hx=>hg.2 x (by simp[hx])⟩;have hc:=hg.2 c (by simp);have hnx:c≤nxt cs∧nxt cs≤1114111∧∀d,cs.head? =some d→nxt cs=d-1∧c<d:=by
   cases cs with
   | nil=>exact⟨hc.2,Int.le_refl _,fun d hd=>by cases hd⟩
   | cons d cs=>
    have h5:=ha d (by simp);have h6:=hg.2 d (by simp);refine⟨show c≤d-1 by omega,show d-1≤1114111 by omega,fun e he=>?_⟩;simp only[List.head?_cons,Option.some.injEq] at he;subst he;exact⟨rfl,h5⟩
  unfold coF;split;split;rename_i hop;obtain⟨q,o',rfl,e1,e2⟩:=h1 hop c rfl;refine zN3 cs true _ hgs ?_ (fun _ d hd=>⟨_,_,rfl,(hnx.2.2 d hd).1,?_⟩) (fun h=>by cases h) (fun _=>by simp);have hq:=ho.head;unfold zCC at hq;cases o' with
  | nil=>show zCC _;unfold zCC;simp only;omega
  | cons z o'=>exact⟨by unfold zCC;simp only;omega,ho.2.1,ho.2.2⟩
  have:=(hnx.2.2 d hd).2;show q.Lo≤d;omega;rename_i hop;simp only[Bool.not_eq_true] at hop;refine zN3 cs true _ hgs ?_ (fun _ d hd=>⟨_,_,rfl,(hnx.2.2 d hd).1,?_⟩) (fun h=>by cases h) (fun _=>by simp);cases o with
  | nil=>show zCC _;unfold zCC;simp only;omega
  | cons z o'=>exact⟨by unfold zCC;simp only;omega,h2 hop c z rfl rfl,ho⟩
  have:=(hnx.2.2 d hd).2;show c≤d;omega;refine zN3 cs false o hgs ho (fun h=>by cases h) (fun _ d q hd hq=>?_) (fun h=>by cases h);have h7:=(hnx.2.2 d hd).2;cases op with
  | true=>
   obtain⟨q',o',rfl,e1,_⟩:=h1 rfl c rfl;simp only[List.head?_cons,Option.some.injEq] at hq;subst hq;omega
  | false=>
   have:=h2 rfl c q rfl hq;omega
def zIX (l:List Range):List Int:=l.flatMap fun r=>r.Lo::if r.Hi<1114111 then [r.Hi+1] else []
theorem z26:∀(l:List Range) (c:List Int),Can l→(∀x∈c,∀r,l.head? =some r→x<r.Lo)→cuE l c=c++zIX l
 | [],c,_,_=>by simp[cuE,zIX]
 | r::l,c,h,hc=>by
  have hr:=h.head;unfold zCC at hr;have hv:vld r.Lo=true:=by unfold vld;simp;omega
  have e1:plE r.Lo c=c++ [r.Lo]:=zS5 fun x hx=>hc x hx r rfl;have e2:cuS c r=c++(r.Lo::if r.Hi<1114111 then [r.Hi+1] else []):=by
   unfold cuS;rw[if_pos hv,e1];by_cases hm:r.Hi<1114111;rw[if_pos ⟨by omega,hm⟩,if_pos hm,zS5];simp;intro x hx;rcases List.mem_append.1 hx with hx | hx
   have:=hc x hx r rfl;omega;simp only[List.mem_singleton] at hx;omega;rw[if_neg (fun h=>hm h.2),if_neg hm]
  show cuE l (cuS c r)=_;rw[z26 l (cuS c r) h.tail,e2];simp[zIX];intro x hx q hq;have hg:r.Hi+1<q.Lo:=h.gap q (by cases l with | nil=>cases hq | cons a l=>simp only[List.head?_cons,Option.some.injEq] at hq;simp[hq])
  rw[e2] at hx;rcases List.mem_append.1 hx with hx | hx
  have:=hc x hx r rfl;omega;rcases List.mem_cons.1 hx with rfl | hx
  omega;split at hx;simp only[List.mem_singleton] at hx;omega;cases hx
theorem z8I {l:List Range} (h:Can l) {r:Range} (hr:r∈l):zE1 l r.Lo=true:=by have:=h.ok r hr;unfold zCC at this;unfold zE1;refine List.any_eq_true.2 ⟨r,hr,?_⟩;unfold vld;simp;omega
theorem z27:∀{l:List Range},Can l→∀{r:Range},r∈l→zE1 l (r.Hi+1)=false
 | [],_,r,hr=>by cases hr
 | a::l,h,r,hr=>by
  unfold zE1;rw[List.any_eq_false];intro q hq;have no:∀(c:Int) (q:Range),(c<q.Lo∨q.Hi<c)→¬(vld c&&decide (q.Lo≤c)&&decide (c≤q.Hi))=true:=by
   intro c q hc;simp only[Bool.and_eq_true,decide_eq_true_eq];omega
  rcases List.mem_cons.1 hr with rfl | hr';refine no _ _ ?_;rcases List.mem_cons.1 hq with rfl | hq;omega;have:=h.gap q hq;omega;rcases List.mem_cons.1 hq with rfl | hq;refine no _ _ ?_;have h1:=h.gap r hr';have h2:=h.tail.ok r hr';unfold zCC at h2;omega;have:=z27 h.tail hr';unfold zE1 at this;rw[List.any_eq_false] at this;exact this q hq
theorem zYM {has:Int→Bool}:∀(l:List Range) (o:List Range),Can l→(∀r∈l,has r.Lo=true∧(r.Hi<1114111→has (r.Hi+1)=false))→coF has (zIX l) false o=l.reverse++o
 | [],o,_,_=>by simp[zIX,coF]
 | r::l,o,h,hh=>by
  obtain⟨h1,h2⟩:=hh r (by simp);have ih:=zYM (has:=has) l (r::o) h.tail fun q hq=>hh q (by simp[hq]);have hr:=h.head;unfold zCC at hr;by_cases hm:r.Hi<1114111
  ·have e:zIX (r::l)=r.Lo::(r.Hi+1)::zIX l:=by simp[zIX,hm]
   have en:nxt ((r.Hi+1)::zIX l)=r.Hi:=by show r.Hi+1-1=r.Hi;omega
   rw[e];unfold coF;rw[if_pos h1,if_neg (by simp),en];unfold coF;rw[if_neg (by rw[h2 hm];simp),ih]
   simp
  ·have hl:l= []:=by
    cases l with
    | nil=>rfl
    | cons q l=>
     have:=h.2.1;have h3:=h.tail.head;unfold zCC at h3;omega
   subst hl;have e:zIX [r]= [r.Lo]:=by simp[zIX,hm]
   rw[e];unfold coF;rw[if_pos h1,if_neg (by simp)];unfold coF;have:nxt []=r.Hi:=by show (1114111:Int)=r.Hi;omega
   rw[this];rfl
theorem z28 {l:List Int} (h:Gd l):plE 0 (plE 0 l)=plE 0 l:=by
 cases l with
 | nil=>rfl
 | cons x l=>
  have:=h.2 x (by simp);by_cases hx:0<x;have e:plE 0 (x::l)=0::x::l:=by unfold plE;rw[if_pos (by omega),if_pos hx]
  rw[e];unfold plE;rw[if_pos (by omega),if_neg (by omega)];have e:plE 0 (x::l)=x::l:=by unfold plE;rw[if_pos (by omega),if_neg hx]
  rw[e,e]
theorem z29 {l:List Range} (h:Can l):(coF (zE1 l) (plE 0 (plE 0 (cuE l []))) false []).reverse=l:=by
 rw[z28 (zS6 l ⟨.nil,fun x hx=>by cases hx⟩),z26 l [] h (fun x hx=>by cases hx),List.nil_append];have hw:=zYM (has:=zE1 l) l [] h fun r hr=>⟨z8I h hr,fun _=>z27 h hr⟩;rw[List.append_nil] at hw;have h0:plE 0 (zIX l)=zIX l∨(plE 0 (zIX l)=0::zIX l∧zE1 l 0=false):=by
  cases l with
  | nil=>exact .inr ⟨rfl,rfl⟩
  | cons r l=>
   have hr:=h.head;unfold zCC at hr;have e:zIX (r::l)=r.Lo::((if r.Hi<1114111 then [r.Hi+1] else [])++zIX l):=by simp[zIX]
   rw[e];by_cases hx:0<r.Lo;refine .inr ⟨by unfold plE;rw[if_pos (by omega),if_pos hx],?_⟩
   unfold zE1;rw[List.any_eq_false];intro q hq;simp only[Bool.and_eq_true,decide_eq_true_eq];rcases List.mem_cons.1 hq with rfl | hq
   omega;have:=h.gap q hq;omega;exact .inl (by unfold plE;rw[if_pos (by omega),if_neg hx])
 rcases h0 with h0 | ⟨h0,h1⟩;rw[h0,hw,List.reverse_reverse];rw[h0];unfold coF;rw[if_neg (by rw[h1];simp),hw,List.reverse_reverse]
theorem zZ8 (l:List Range):Can (coF (zE1 l) (plE 0 (plE 0 (cuE l []))) false []).reverse:=by have hg:Gd (plE 0 (plE 0 (cuE l []))):=zMT (by omega) (zMT (by omega) (zS6 l ⟨.nil,fun x hx=>by cases hx⟩));have:=zN3 (has:=zE1 l) _ false [] hg trivial (fun h=>by cases h) (fun _ c q _ hq=>by cases hq) (fun h=>by cases h);have h2:=zSS _ [] this trivial (fun _ _ _ h=>by cases h);simpa using h2
theorem z5T {a b:Set} (ha:a.Ranges.length≤30000):zGN a b=some (decide (a.Ranges=b.Ranges)):=by
 unfold zGN;by_cases hl:a.Ranges.length=b.Ranges.length;have e:(!decide ((a.Ranges.length:Int)=(b.Ranges.length:Int)))=false:=by simp[hl]
 rw[e,cond_false];have h:=kX (body:=fun (x:Int)=>zCM a b x) a.Ranges.length (fun k=>nth a.Ranges k=nth b.Ranges k) (fun y=>y=false) (fun k hk=>by
  simp only[zCM,jF hk,cond_true,yO hk,yO (show k<b.Ranges.length by omega),zH,yC (k:=k) (by omega)];exact wQ (by simp) rfl) (fun k hk=>by simp only[zCM,jP hk,cond_false])
 have he:(∀j,j<a.Ranges.length→nth a.Ranges j=nth b.Ranges j)↔a.Ranges=b.Ranges:=by
  constructor;intro h;refine List.ext_getElem hl fun i h1 h2=>?_;have:=h i h1
  rwa [uF h1,uF h2] at this
  intro h j _;rw[h]
 rw[he] at h;rcases h with ⟨h,p⟩ | ⟨y,rfl,h,p⟩
 rw[h];simp[p];rw[h];simp[p];have e:(!decide ((a.Ranges.length:Int)=(b.Ranges.length:Int)))=true:=by simp;omega
 rw[e,cond_true];have:a.Ranges≠b.Ranges:=fun h=>hl (by rw[h]);simp[this]
theorem z8J {s:Set} (hl:s.Ranges.length≤12):∃b,zFF s=some b∧(b=true↔Can s.Ranges):=by unfold zFF;rw[z25 hl,zH,z5T (by omega),zH];refine⟨_,rfl,?_⟩;simp only[decide_eq_true_eq];constructor;intro h;rw[h];exact zZ8 _;intro h;rw[z29 h]
end Go.M
namespace Go.M
open Go.AV
theorem zS8 {l:List Mapping} (hl:l.length≤30000) (c:Int) (b:Bool):zC2 l c b=some (fiI l c b):=by
 unfold zC2;have h:zX (fun (x:Int)=>zCN l c b x) 0=some (toS (chk (fun k m=>(pM c b k m).map fun (i:Nat)=>(i:Int)) l 0)):=by
  refine zH0 l _ (fun k hk=>?_) (fun k hk=>?_);simp only[zCN,jF hk,cond_true,kL hk,zH,yF,yC (k:=k) (by omega),pM];by_cases h1:l[k].From=c;cases b with
  | true=>simp[h1,zB7,stp]
  | false=>
   cases ht:(l[k].Tag== []) with
   | true=>simp only[h1,decide_true,Bool.not_false,Bool.and_self,uE,zH,Bool.false_or,ht,Bool.true_and,cond_true,and_self,if_true,Option.map_some,stp]
   | false=>simp only[h1,decide_true,Bool.not_false,Bool.and_self,uE,zH,Bool.false_or,ht,Bool.true_and,cond_false,Bool.false_eq_true,and_false,if_false,Option.map_none,stp]
  simp[h1,zB7,stp];simp only[zCN,jP hk,cond_false]
 rw[h,zH,zLN];have e:∀(L:List Mapping) (k:Nat),chk (fun k m=>(pM c b k m).map fun (i:Nat)=>(i:Int)) L k=(chk (pM c b) L k).map fun (i:Nat)=>(i:Int):=by
  intro L
  induction L with
  | nil=>intro k;rfl
  | cons x L ih=>
   intro k;unfold chk;cases pM c b k x with
   | none=>exact ih (k+1)
   | some y=>rfl
 rw[e];unfold fiI fi;cases chk (pM c b) l 0<;>rfl
theorem z3A (c:Int):zEU c=some (hkE c):=by
 unfold zEU hkE;simp only[yF];by_cases h1:4352≤c∧c<4371;rw[if_pos h1];have:(decide (4352≤c)&&decide (c≤4370))=true:=by simp;omega
 rw[this];rfl;rw[if_neg h1];have e1:(decide (4352≤c)&&decide (c≤4370))=false:=by simp only[Bool.and_eq_false_iff,decide_eq_false_iff_not];omega
 rw[e1,cond_false];by_cases h2:4449≤c∧c<4470;rw[if_pos h2];have:(decide (4449≤c)&&decide (c≤4469))=true:=by simp;omega
 rw[this];rfl;rw[if_neg h2];have e2:(decide (4449≤c)&&decide (c≤4469))=false:=by simp only[Bool.and_eq_false_iff,decide_eq_false_iff_not];omega
 rw[e2,cond_false];by_cases h3:4520≤c∧c<4547;rw[if_pos h3];have:(decide (4520≤c)&&decide (c≤4546))=true:=by simp;omega
 rw[this];rfl;rw[if_neg h3];have e3:(decide (4520≤c)&&decide (c≤4546))=false:=by simp only[Bool.and_eq_false_iff,decide_eq_false_iff_not];omega
 rw[e3,cond_false];by_cases h4:c<44032∨55204≤c;rw[if_pos h4];have:(decide (44032≤c)&&decide (c≤55203))=false:=by simp only[Bool.and_eq_false_iff,decide_eq_false_iff_not];omega
 rw[this];rfl;rw[if_neg h4];have e4:(decide (44032≤c)&&decide (c≤55203))=true:=by simp;omega
 rw[e4,cond_true,wP (n:=c-44032) (by omega) (by omega)];have er:zIS (c-44032) 28=some ((c-44032)%28):=by
  unfold zIS;rw[if_neg (by decide),Int.tmod_eq_emod_of_nonneg (by omega)]
 rw[er,zH];by_cases h5:(c-44032)%28=0<;>simp[h5]
theorem z6R (c:Int):zAY c=some (hdE c):=by
 unfold zAY;rw[z3A,zH];cases hs:syl c with
 | false=>
  have:decide (hkE c<4)=true:=by
   simp only[decide_eq_true_eq];have:¬4≤hkE c:=fun h=>by have:=(zF7 c).2 h;rw[hs] at this;cases this
   omega
  rw[this,cond_true];unfold hdE;rw[if_neg (by simp[hs])]
 | true=>
  have h4:=(zF7 c).1 hs;have:decide (hkE c<4)=false:=by simp only[decide_eq_false_iff_not];omega
  rw[this,cond_false];have hr:44032≤c∧c≤55203:=by unfold syl at hs;simpa using hs
  rw[wP (n:=c-44032) (by omega) (by omega)];have d1:zL7 wi (c-44032) 28=some ((c-44032)/28):=by
   unfold zL7;rw[if_neg (by decide),Int.tdiv_eq_ediv_of_nonneg (by omega),wP (by omega) (by omega)]
  have d2:zL7 wi ((c-44032)/28) 21=some ((c-44032)/28/21):=by
   unfold zL7;rw[if_neg (by decide),Int.tdiv_eq_ediv_of_nonneg (by omega),wP (by omega) (by omega)]
  have d3:zIS ((c-44032)/28) 21=some ((c-44032)/28%21):=by
   unfold zIS;rw[if_neg (by decide),Int.tmod_eq_emod_of_nonneg (by omega)]
  have d4:zIS (c-44032) 28=some ((c-44032)%28):=by
   unfold zIS;rw[if_neg (by decide),Int.tmod_eq_emod_of_nonneg (by omega)]
  simp only[d1,d2,d3,d4,zH];unfold hdE;rw[if_pos hs,wP (n:=4352+(c-44032)/28/21) (by omega) (by omega),wP (n:=4449+(c-44032)/28%21) (by omega) (by omega)];by_cases h0:0<(c-44032)%28;rw[if_pos h0,wP (n:=4520+(c-44032)%28) (by omega) (by omega),wP (n:=4520+(c-44032)%28-1) (by omega) (by omega)];simp only[h0,decide_true,cond_true];rw[zBK (by simp)];rfl;rw[if_neg h0];simp only[h0,decide_false,cond_false];rfl
section
variable {l:List Mapping} (hl:l.length≤30000) (hto:∀m∈l,m.To.length≤30000)
include hl hto
theorem z5U {out:List Bool} (ho:out.length=l.length) {i:Nat} (hi:i<l.length):∀(d k:Nat) (b:Bool),(nth l i).To.length-k=d→k≤(nth l i).To.length→
  zX (fun (x:Bool×Int)=>vH l (i:Int) out x.1 x.2) (b,(k:Int))=some (b&&((nth l i).To.drop k).all fun e=>match fi l e true with | some m=>nth out m | none=>true):=by
 have hlen:=hto _ (x4 hi);intro d
 induction d with
 | zero=>
  intro k b h1 h2;rw[List.drop_of_length_le (show (nth l i).To.length≤k by omega)];refine yJ ?_;simp only[vH,yO hi,zH,jP (show (nth l i).To.length≤k by omega),cond_false,List.all_nil,Bool.and_true]
 | succ d ih=>
  intro k b h1 h2;have hk:k<(nth l i).To.length:=by omega
  have hb:vH l (i:Int) out b (k:Int)=some (.next (b&&(match fi l (nth l i).To[k] true with | some m=>nth out m | none=>true),((k+1:Nat):Int))):=by
   simp only[vH,yO hi,zH,jF hk,cond_true,kL hk,zS8 hl,yF,yC (k:=k) (by omega)];unfold fiI;cases hf:fi l (nth l i).To[k] true with
   | none=>simp[zB7]
   | some m=>
    obtain⟨h3,_,_⟩:=zHI hf;have e:decide (((m:Nat):Int)<0)=false:=by simp
    simp only[e,Bool.not_false,Bool.and_true,Bool.false_or];cases b with
    | false=>simp[zB7]
    | true=>simp only[uE,yO (show m<out.length by omega),zH,Bool.true_and]
  rw[yS (body:=fun (x:Bool×Int)=>vH l (i:Int) out x.1 x.2) (x:=(b,(k:Int))) hb,ih (k+1) _ (by omega) (by omega),List.drop_eq_getElem_cons hk,List.all_cons,Bool.and_assoc]
theorem z5V:zGO l=some (zG2 (zKP l) l.length l.length (List.replicate l.length false)):=by
 unfold zGO;rw[zSQ (by omega),zH];have h1:∀(out:List Bool),out.length=l.length→zX (fun (x:Int×(List Bool))=>zBE l x.1 x.2) (0,out)=some (zLW (zKP l) l.length 0 out):=fun out ho=>
  zLX (upd:=zKP l) (n:=l.length) (Inv:=fun _=>True) (body:=fun (x:Int×(List Bool))=>zBE l x.1 x.2) (fun i out=>((i:Int),out)) id (fun i out hi ho _=>by
   have:=z5U hl hto ho hi _ 0 true rfl (by omega);rw[List.drop_zero,Bool.true_and] at this;have h':zX (fun (x:Bool×Int)=>vH l (i:Int) out x.1 x.2) (true,0)=some (zKP l out i):=this;simp only[zBE,jF hi,cond_true,h',zH,yO (show i<out.length by omega),zGZ (show i<out.length by omega),yC (k:=i) (by omega)]) (fun _ _ _ _ _=>trivial) (fun out=>by simp only[zBE,jP (Nat.le_refl _),cond_false];rfl) l.length 0 out (by omega) ho trivial
 have h2:=zLY (upd:=zKP l) (n:=l.length) (Inv:=fun _=>True) (body:=fun (x:Int×(List Bool))=>zBF l x.1 x.2) (fun i out=>((i:Int),out)) id (N:=l.length) (fun r out hr ho _=>by
  simp only[zBF,jF hr,cond_true,h1 out ho,zH,yC (k:=r) (by omega)]) (fun _ _ _ _ _=>trivial) (fun out=>by simp only[zBF,jP (Nat.le_refl _),cond_false];rfl) l.length 0 (List.replicate l.length false) (by omega) (by simp) trivial
 have h3:zX (fun (x:Int×(List Bool))=>zBF l x.1 x.2) (0,List.replicate l.length false)=some (zG2 (zKP l) l.length l.length (List.replicate l.length false)):=h2;rw[h3];rfl
theorem z5W {b:Bool} {out:List Int} (ho:out.length=l.length) (hv:zS3 out) {i:Nat} (hi:i<l.length):∀(d k:Nat) (n:Int),(nth l i).To.length-k=d→k≤(nth l i).To.length→0≤n→n≤100*(k:Int)→
  zX (fun (x:Int×Int)=>xT l (i:Int) b out x.1 x.2) (n,(k:Int))=some (n+(((nth l i).To.drop k).map (lenOf l b out)).sum):=by
 have hlen:=hto _ (x4 hi);intro d
 induction d with
 | zero=>
  intro k n h1 h2 h3 h4;rw[List.drop_of_length_le (show (nth l i).To.length≤k by omega)];refine yJ ?_;simp only[xT,yO hi,zH,jP (show (nth l i).To.length≤k by omega),cond_false,List.map_nil,List.sum_nil,Int.add_zero]
 | succ d ih=>
  intro k n h1 h2 h3 h4;have hk:k<(nth l i).To.length:=by omega
  have hbd:0≤lenOf l b out (nth l i).To[k]∧lenOf l b out (nth l i).To[k]≤65:=by
   unfold lenOf;cases hf:fi l (nth l i).To[k] b with
   | none=>have:=zKM (nth l i).To[k];simp only[];omega
   | some m=>obtain⟨h3,_,_⟩:=zHI hf;exact hv _ (x4 (by omega))
  have hb:xT l (i:Int) b out n (k:Int)=some (.next (n+lenOf l b out (nth l i).To[k],((k+1:Nat):Int))):=by
   have hw:wi (n+lenOf l b out (nth l i).To[k])=n+lenOf l b out (nth l i).To[k]:=wP (by omega) (by omega);simp only[xT,yO hi,zH,jF hk,cond_true,kL hk,zS8 hl,yC (k:=k) (by omega),z6R];rw[←hw];unfold lenOf fiI;cases hf:fi l (nth l i).To[k] b with
   | none=>rfl
   | some m=>
    obtain⟨h3,_,_⟩:=zHI hf;have e:decide (0≤((m:Nat):Int))=true:=by simp
    simp only[e,cond_true,yO (show m<out.length by omega),zH]
  rw[yS (body:=fun (x:Int×Int)=>xT l (i:Int) b out x.1 x.2) (x:=(n,(k:Int))) hb,ih (k+1) _ (by omega) (by omega) (by omega) (by omega),List.drop_eq_getElem_cons hk,List.map_cons,List.sum_cons,Int.add_assoc]
theorem zYN (b:Bool):zCO l b=some (zG2 (updL l b) l.length l.length (List.replicate l.length 0)):=by
 unfold zCO;rw[zSQ (by omega),zH];have h0:zS3 (List.replicate l.length 0):=fun x hx=>by rw[(List.mem_replicate.1 hx).2];omega
 have h1:∀(out:List Int),out.length=l.length→zS3 out→zX (fun (x:Int×(List Int))=>wV l b x.1 x.2) (0,out)=some (zLW (updL l b) l.length 0 out):=fun out ho hv=>
  zLX (upd:=updL l b) (n:=l.length) (Inv:=zS3) (body:=fun (x:Int×(List Int))=>wV l b x.1 x.2) (fun i out=>((i:Int),out)) id (fun i out hi ho hv=>by
   have:=z5W hl hto (b:=b) ho hv hi _ 0 0 rfl (by omega) (by omega) (by omega);rw[List.drop_zero,Int.zero_add] at this;have h':zX (fun (x:Int×Int)=>xT l (i:Int) b out x.1 x.2) (0,0)=some (((nth l i).To.map (lenOf l b out)).sum):=this;simp only[wV,jF hi,cond_true,h',zH,yO (show i<out.length by omega),zGZ (show i<out.length by omega),yO hi,yF,yC (k:=i) (by omega)];unfold updL;cases b with
   | true=>simp
   | false=>
    cases ht:((nth l i).Tag== []) with
    | true=>simp
    | false=>simp[yO (show i<(out.set i (min (max (List.map (lenOf l false out) (nth l i).To).sum 1) 65)).length by simp;omega),zGZ (show i<(out.set i (min (max (List.map (lenOf l false out) (nth l i).To).sum 1) 65)).length by simp;omega)]) zMR (fun out=>by simp only[wV,jP (Nat.le_refl _),cond_false];rfl) l.length 0 out (by omega) ho hv
 have h2:=zLY (upd:=updL l b) (n:=l.length) (Inv:=zS3) (body:=fun (x:Int×(List Int))=>wW l b x.1 x.2) (fun i out=>((i:Int),out)) id (N:=l.length) (fun r out hr ho hv=>by
  simp only[wW,jF hr,cond_true,h1 out ho hv,zH,yC (k:=r) (by omega)]) zMR (fun out=>by simp only[wW,jP (Nat.le_refl _),cond_false];rfl) l.length 0 (List.replicate l.length 0) (by omega) (by simp) h0
 have h3:zX (fun (x:Int×(List Int))=>wW l b x.1 x.2) (0,List.replicate l.length 0)=some (zG2 (updL l b) l.length l.length (List.replicate l.length 0)):=h2;rw[h3];rfl
end
end Go.M
namespace Go.M
open Go.AV
theorem zN4 {β:Type} [Inhabited β] {upd:List β→Nat→β} {n k:Nat} {out:List β} (h:out.length=n):(zG2 upd n k out).length=n:=
 (zS1 (upd:=upd) (n:=n) (Inv:=fun _=>True) (fun _ _ _ _ _=>trivial) k out h trivial).2
theorem zVO {l:List Mapping} (h:∀k,k+1<l.length→(nth l k).From<(nth l (k+1)).From):∀(d i:Nat),i+d+1<l.length→(nth l i).From<(nth l (i+d+1)).From
 | 0,i,hi=>h i hi
 | d+1,i,hi=>by
  have h1:=zVO h d i (by omega);have h3:=h (i+d+1) (by omega);have:i+(d+1)+1=i+d+1+1:=by omega
  rw[this];omega
theorem zZ9 {l:List Mapping} (hlt:∀k,k+1<l.length→mlt (nth l k) (nth l (k+1))):(∀k,k<l.length→¬fiI l (nth l k).From true<(k:Int))↔∀k,k+1<l.length→(nth l (k+1)).From≠(nth l k).From:=by
 constructor;intro h k hk e;have hk':k<l.length:=by omega
 have hp:pM (nth l (k+1)).From true (0+k) l[k]≠none:=by
  unfold pM;rw[if_pos ⟨by rw[e,uF hk'],rfl⟩];simp
 obtain⟨i,hi,hik,hc⟩:=zRL (p:=pM (nth l (k+1)).From true) (l:=l) (k:=0) hk' hp;have hfi:fi l (nth l (k+1)).From true=some i:=by
  unfold fi;rw[hc];unfold pM;split;simp;rename_i hn;exfalso;have:chk (pM (nth l (k+1)).From true) l 0=none:=by rw[hc];unfold pM;rw[if_neg hn]
  exact hp (zO7 this k hk')
 refine h (k+1) hk ?_;unfold fiI;rw[hfi];simp only[];omega;intro h k hk hlt';have hs:∀k,k+1<l.length→(nth l k).From<(nth l (k+1)).From:=fun k hk=>by
  have a:=hlt k hk;have b:=h k hk;unfold mlt at a;omega
 unfold fiI at hlt';cases hf:fi l (nth l k).From true with
 | none=>exact absurd ⟨rfl,rfl⟩ (zYE hf _ (x4 hk))
 | some i=>
  rw[hf] at hlt';simp only[] at hlt';obtain⟨h1,h2,_⟩:=zHI hf;have:=zVO hs (k-i-1) i (by omega);rw[show i+(k-i-1)+1=k by omega] at this;omega
theorem z8K {n:Norm} (hs:NSm n) (hok:vV n):Ver (zFG n) (VD0 n):=by
 obtain⟨e1,he1,p1⟩:=z2V (l:=n.Classes) (by have:=hs.cl;omega)
 obtain⟨e2,he2,p2⟩:=z2Y (l:=n.Decomp) (by have:=hs.de;omega) (fun m hm=>by have:=hs.to m hm;omega) (fun m hm=>by have:=hs.tg m hm;unfold MX;omega)
 obtain⟨e3,he3,p3⟩:=z8J (s:=n.Excluded) hs.ex;have hde:=hs.de;have hl:n.Decomp.length≤30000:=by omega
 have hto:∀m∈n.Decomp,m.To.length≤30000:=fun m hm=>by have:=hs.to m hm;omega
 unfold zFG;rw[he1,zH];by_cases h1:e1=0
 case neg=>
  have:(!decide (e1=0))=true:=by simp[h1]
  rw[this,cond_true];exact⟨e1,rfl,by simp only[h1,false_iff];exact fun h=>h1 (p1.2 h.cv)⟩
 rw[h1];simp only[decide_true,Bool.not_true,cond_false];have cv:=p1.1 h1;rw[he2,zH];by_cases h2:e2=0
 case neg=>
  have:(!decide (e2=0))=true:=by simp[h2]
  rw[this,cond_true];exact⟨e2,rfl,by simp only[h2,false_iff];exact fun h=>h2 (p2.2 h.mv)⟩
 rw[h2];simp only[decide_true,Bool.not_true,cond_false];have mv:=p2.1 h2;rw[he3,zH];cases e3 with
 | false=>exact⟨11,rfl,by simp only[show ((11:Int)=0)=False by simp,false_iff];exact fun h=>by have:=p3.2 h.ca;cases this⟩
 | true=>
 have ca:=p3.1 rfl;simp only[Bool.not_true,cond_false];have l0:=kX (body:=fun (x:Int)=>zBU n x) n.Decomp.length (fun k=> ¬fiI n.Decomp (nth n.Decomp k).From true<(k:Int)) (fun y=>y≠0) (fun k hk=>by
  simp only[zBU,jF hk,cond_true,yO hk,zH,zS8 hl,yC (k:=k) (by omega)];exact wQ (by simp) (by decide)) (fun k hk=>by simp only[zBU,jP hk,cond_false])
 rw[zZ9 mv.lt] at l0;rcases l0 with ⟨l0,ne⟩ | ⟨y,hy,l0,ne⟩
 case inr=>rw[l0];exact⟨y,rfl,by simp only[hy,false_iff];exact fun h=>ne h.ne⟩
 rw[l0];simp only[zH,Sum.elim_inl];have hbt:∀m:Mapping,(m.Tag== [])=decide (m.Tag= []):=fun m=>by cases m.Tag<;>rfl
 have l1:=kX (body:=fun (x:Int)=>zBV n x) n.Decomp.length (fun k=>(nth n.Decomp k).Tag= []→(nth n.Decomp k).To.length=1∨(nth n.Decomp k).To.length=2) (fun y=>y≠0) (fun k hk=>by
  simp only[zBV,jF hk,cond_true,yO hk,zH,yF,yC (k:=k) (by omega),hbt];by_cases ht:(nth n.Decomp k).Tag= []
  ·
   simp only[ht,decide_true,uE,zH,Bool.true_and,true_implies];by_cases h5:((nth n.Decomp k).To.length:Int)=1
   ·
    simp only[h5,decide_true,Bool.not_true,zB7,zH,Bool.false_and,cond_false];exact .inl ⟨.inl (by omega),trivial⟩
   ·
    simp only[h5,decide_false,Bool.not_false,uE,zH,Bool.true_and];exact wQ (by simp only[Bool.not_eq_true',decide_eq_false_iff_not];omega) (by decide)
  ·
   simp only[ht,decide_false,zB7,zH,Bool.false_and,cond_false,false_implies];exact .inl ⟨trivial,trivial⟩) (fun k hk=>by simp only[zBV,jP hk,cond_false])
 rw[vM (p:=fun m:Mapping=>m.Tag= []→m.To.length=1∨m.To.length=2)] at l1;rcases l1 with ⟨l1,kd⟩ | ⟨y,hy,l1,kd⟩
 case inr=>rw[l1];exact⟨y,rfl,by simp only[hy,false_iff];exact fun h=>kd h.kd⟩
 rw[l1];simp only[zH,Sum.elim_inl];have l2:=kX (body:=fun (x:Int)=>zBW n x) n.Decomp.length (fun k=>hkE (nth n.Decomp k).From=0∧((nth n.Decomp k).Tag≠[]→clE n.Classes (nth n.Decomp k).From=0)) (fun y=>y≠0) (fun k hk=>by
  simp only[zBW,jF hk,cond_true,yO hk,zH,yF,z3A,yC (k:=k) (by omega),hbt];by_cases h5:hkE (nth n.Decomp k).From=0
  ·
   simp only[h5,decide_true,Bool.not_true,Bool.not_false,uE,zH,Bool.true_and,Bool.false_or,true_and];by_cases ht:(nth n.Decomp k).Tag= []
   ·
    simp only[ht,decide_true,Bool.not_true,zB7,zH,Bool.false_and,cond_false];exact .inl ⟨fun h=>absurd rfl h,trivial⟩
   ·
    simp only[ht,decide_false,Bool.not_false,uE,zH,Bool.true_and,zLV (show n.Classes.length≤30000 by have:=hs.cl;omega) cv]
    exact wQ (by simp[ht]) (by decide)
  ·
   have:(!decide (hkE (nth n.Decomp k).From=0))=true:=by simp[h5]
   simp only[this,Bool.not_true,zB7,zH,Bool.false_and,Bool.true_or,cond_true];exact .inr ⟨fun h=>h5 h.1,11,by decide,rfl⟩) (fun k hk=>by simp only[zBW,jP hk,cond_false])
 rw[vM (p:=fun m:Mapping=>hkE m.From=0∧(m.Tag≠[]→clE n.Classes m.From=0))] at l2;rcases l2 with ⟨l2,hk⟩ | ⟨y,hy,l2,hk⟩
 case inr=>rw[l2];exact⟨y,rfl,by simp only[hy,false_iff];exact fun h=>hk fun m hm=>⟨h.hk m hm,h.tc m hm⟩⟩
 rw[l2];simp only[zH,Sum.elim_inl];have hds:DS n.Decomp:=⟨fun k hk'=>by
  have a:=mv.lt k hk';have b:=ne k hk';unfold mlt at a;omega,fun m hm=>(hk m hm).1,fun m hm=>by have:=mv.sz m hm;omega⟩
 have hms:=z2L hds (by omega);rw[z5V hl hto,zH];have l3:=kX (body:=fun (x:Int)=>zBX n (zG2 (zKP n.Decomp) n.Decomp.length n.Decomp.length (List.replicate n.Decomp.length false)) x) n.Decomp.length (fun k=>nth (zG2 (zKP n.Decomp) n.Decomp.length n.Decomp.length (List.replicate n.Decomp.length false)) k=true) (fun y=>y≠0) (fun k hk=>by
  simp only[zBX,jF hk,cond_true,yO (show k<(zG2 (zKP n.Decomp) n.Decomp.length n.Decomp.length (List.replicate n.Decomp.length false)).length by rw[zN4 (by simp)];exact hk),zH,yC (k:=k) (by omega)]
  exact wQ (by simp) (by decide)) (fun k hk=>by simp only[zBX,jP hk,cond_false])
 rw[z21 hds] at l3;rcases l3 with ⟨l3,H⟩ | ⟨y,hy,l3,H⟩
 case inr=>rw[l3];exact⟨y,rfl,by simp only[hy,false_iff];exact fun h=>H (hms.1 h.ms).1⟩
 rw[l3];simp only[zH,Sum.elim_inl];have hD:=zPE hds H;rw[zYN hl hto false,zH,zYN hl hto true,zH];have l4:=kX (body:=fun (x:Int)=>zBY n (zG2 (updL n.Decomp false) n.Decomp.length n.Decomp.length (List.replicate n.Decomp.length 0)) (zG2 (updL n.Decomp true) n.Decomp.length n.Decomp.length (List.replicate n.Decomp.length 0)) x) n.Decomp.length (fun k=>wt n.Decomp true (nth n.Decomp k).From≤64) (fun y=>y≠0) (fun k hk=>by
  have hmo:wt n.Decomp false (nth n.Decomp k).From≤wt n.Decomp true (nth n.Decomp k).From:=zX3 hds _ _;simp only[zBY,jF hk,cond_true,yO (show k<(zG2 (updL n.Decomp false) n.Decomp.length n.Decomp.length (List.replicate n.Decomp.length 0)).length by rw[zN4 (by simp)];exact hk),yO (show k<(zG2 (updL n.Decomp true) n.Decomp.length n.Decomp.length (List.replicate n.Decomp.length 0)).length by rw[zN4 (by simp)];exact hk),zH,yF,zYF hds hD (b:=false) k hk,zYF hds hD (b:=true) k hk,yC (k:=k) (by omega)]
  by_cases h6:64<wt n.Decomp false (nth n.Decomp k).From
  ·
   simp only[h6,decide_true,Bool.not_true,zB7,zH,Bool.true_or,cond_true];exact .inr ⟨by omega,13,by decide,rfl⟩
  ·
   simp only[h6,decide_false,Bool.not_false,uE,zH,Bool.false_or];exact wQ (by simp) (by decide)) (fun k hk=>by simp only[zBY,jP hk,cond_false])
 rw[vM (p:=fun m:Mapping=>wt n.Decomp true m.From≤64)] at l4;rcases l4 with ⟨l4,W⟩ | ⟨y,hy,l4,W⟩
 ·
  rw[l4];exact⟨0,rfl,by simp only[true_iff];exact⟨cv,mv,ca,ne,kd,fun m hm=>(hk m hm).1,fun m hm=>(hk m hm).2,hms.2 ⟨H,W⟩⟩⟩
 · rw[l4];exact⟨y,rfl,by simp only[hy,false_iff];exact fun h=>W (hms.1 h.ms).2⟩
theorem z8L {n:Norm} (hs:NSm n) (hok:vV n):zGP n=some (usN n):=by obtain⟨e,he,hv⟩:=z8K hs hok;unfold zGP usN;rw[he,zH];by_cases hz:e=0;rw[if_pos (hv.1 hz)];simp[hz];rw[if_neg (fun h=>hz (hv.2 h))];simp[hz]
end Go.M
namespace Go.M
open Go.AV
theorem zYO {l:List Mapping} (hl:l.length≤30000) {b:Bool} {lists:List (List Int)} (hn:lists.length=l.length) (hb:∀e,(zFQ l b lists e).length≤64) {text:List Int} (ht:text.length≤30000):vZ l lists text b=some (text.flatMap (zFQ l b lists)):=by
 have key:∀(d k:Nat) (out:List Int),text.length-k=d→k≤text.length→out.length≤64*k→zX (fun (x:Int×(List Int))=>j6 text l b lists x.1 x.2) ((k:Int),out)=some (out++(text.drop k).flatMap (zFQ l b lists)):=by
  intro d
  induction d with
  | zero=>
   intro k out h1 h2 h3;rw[List.drop_of_length_le (show text.length≤k by omega)];refine yJ ?_;simp only[j6,jP (show text.length≤k by omega),cond_false,List.flatMap_nil,List.append_nil]
  | succ d ih=>
   intro k out h1 h2 h3;have hk:k<text.length:=by omega
   have hbd:=hb text[k];have hb0:j6 text l b lists (k:Int) out=some (.next (((k+1:Nat):Int),out++zFQ l b lists text[k])):=by
    have ha:app out (zFQ l b lists text[k])=some (out++zFQ l b lists text[k]):=zBK (by omega);simp only[j6,jF hk,cond_true,kL hk,zH,zS8 hl,yC (k:=k) (by omega),z6R];unfold zFQ at ha ⊢;unfold fiI;cases hf:fi l text[k] b with
    | none=>
     rw[hf] at ha;simp only[] at ha;simp only[show decide ((0:Int)≤ -1)=false by decide,cond_false,ha,zH]
    | some m=>
     rw[hf] at ha;simp only[] at ha;obtain⟨h4,_,_⟩:=zHI hf;have e:decide (0≤((m:Nat):Int))=true:=by simp
     simp only[e,cond_true,yO (show m<lists.length by omega),zH,ha]
   rw[yS (body:=fun (x:Int×(List Int))=>j6 text l b lists x.1 x.2) (x:=((k:Int),out)) hb0,ih (k+1) _ (by omega) (by omega) (by rw[List.length_append];omega),List.drop_eq_getElem_cons hk,List.flatMap_cons,List.append_assoc]
 unfold vZ;have h:=key text.length 0 [] (by omega) (by omega) (by simp);rw[List.drop_zero,List.nil_append] at h;have h':zX (fun (x:Int×(List Int))=>j6 text l b lists x.1 x.2) (0,[])=some (text.flatMap (zFQ l b lists)):=h;rw[h'];rfl
theorem z8M {n:Norm} (h:GN n) (b:Bool):zFH n.Decomp b=some (zVN n.Decomp b):=by
 have hl:n.Decomp.length≤30000:=by have:=h.de;omega
 have hbd:∀{out:List (List Int)},zQM n.Decomp b out→∀e,(zFQ n.Decomp b out e).length≤64:=fun hv e=>Nat.le_trans (zYH h.ds h.dd hv e) (h.len b e);unfold zFH;rw[zSQ (by omega),zH];have h1:∀(out:List (List Int)),out.length=n.Decomp.length→zQM n.Decomp b out→zX (fun (x:Int×(List (List Int)))=>zAN n.Decomp b x.1 x.2) (0,out)=some (zLW (zPJ n.Decomp b) n.Decomp.length 0 out):=fun out ho hv=>
  zLX (upd:=zPJ n.Decomp b) (n:=n.Decomp.length) (Inv:=zQM n.Decomp b) (body:=fun (x:Int×(List (List Int)))=>zAN n.Decomp b x.1 x.2) (fun i out=>((i:Int),out)) id (fun i out hi ho hv=>by
   have hr:=zYO hl (b:=b) ho (hbd hv) (text:=(nth n.Decomp i).To) (h.ds.len _ (x4 hi));simp only[zAN,jF hi,cond_true,yF,yO hi,yO (show i<out.length by omega),zH,hr,zGZ (show i<out.length by omega),yC (k:=i) (by omega)];unfold zPJ;cases b with
   | true=>simp[zB7]
   | false=>
    simp only[Bool.not_false,uE,zH,Bool.false_or];cases ht:((nth n.Decomp i).Tag== []) with
    | true=>simp
    | false=>simp[z5J (show i<out.length by omega)]) (zMS h.ds h.dd) (fun out=>by simp only[zAN,jP (Nat.le_refl _),cond_false];rfl) n.Decomp.length 0 out (by omega) ho hv
 have h2:=zLY (upd:=zPJ n.Decomp b) (n:=n.Decomp.length) (Inv:=zQM n.Decomp b) (body:=fun (x:Int×(List (List Int)))=>zAO n.Decomp b x.1 x.2) (fun i out=>((i:Int),out)) id (N:=n.Decomp.length) (fun r out hr ho hv=>by
  simp only[zAO,jF hr,cond_true,h1 out ho hv,zH,yC (k:=r) (by omega)]) (zMS h.ds h.dd) (fun out=>by simp only[zAO,jP (Nat.le_refl _),cond_false];rfl) n.Decomp.length 0 (List.replicate n.Decomp.length []) (by omega) (by simp) z6P
 have h3:zX (fun (x:Int×(List (List Int)))=>zAO n.Decomp b x.1 x.2) (0,List.replicate n.Decomp.length [])=some (zVN n.Decomp b):=h2;rw[h3];rfl
theorem z5X {n:Norm} (h:GN n) (b:Bool) {text:List Int} (ht:text.length≤30000):zGQ n text b=some (text.flatMap (fu n.Decomp b)):=by
 have hl:n.Decomp.length≤30000:=by have:=h.de;omega
 unfold zGQ;have e:∀c,zFQ n.Decomp b (zVN n.Decomp b) c=fu n.Decomp b c:=z5R h.ds h.dd;rw[z8M h,zH,zYO (lists:=zVN n.Decomp b) hl (zN4 (by simp)) (fun c=>by rw[e];exact h.len b c) ht,zH,show zFQ n.Decomp b (zVN n.Decomp b)=fu n.Decomp b from funext e]
section
variable {l:List Span} (hcv:CV l) (hl:l.length≤30000)
include hcv hl
theorem sIn {text:List Int} {v:Nat} (hv:v<text.length):∀(r s:List Int),r.length≤30000→zX (fun (q:Int×(List Int))=>u7 (clE l text[v]) l text (v:Int) q.1 q.2) ((r.length:Int),r.reverse++text[v]::s)=some (uG (ltC (clE l)) r text[v] s)
 | [],s,_=>by
  refine yJ ?_;simp[u7,yF,zB7,zH,uG]
 | y::r,s,hr=>by
  simp only[List.length_cons] at hr;have e0:decide ((0:Int)<((r.length+1:Nat):Int))=true:=by simp only[decide_eq_true_eq];omega
  have e1:(y::r).reverse++text[v]::s=r.reverse++y::text[v]::s:=by simp
  have i1:kZ (r.reverse++y::text[v]::s) (r.length:Int)=some y:=wR (by simp);have i2:kZ (r.reverse++y::text[v]::s) ((r.length+1:Nat):Int)=some text[v]:=by
   have:=wR (p:=r.reverse++ [y]) (s:=s) (x:=text[v]) (k:=r.length+1) (by simp);simpa using this
  have s1:zBM (r.reverse++y::text[v]::s) ((r.length+1:Nat):Int) y=some (r.reverse++y::y::s):=by
   have:=zBC (p:=r.reverse++ [y]) (s:=s) (x:=text[v]) (y:=y) (k:=r.length+1) (by simp);simpa using this
  have i3:kZ (r.reverse++y::y::s) (r.length:Int)=some y:=wR (by simp);have s2:zBM (r.reverse++y::y::s) (r.length:Int) text[v]=some (r.reverse++text[v]::y::s):=zBC (by simp);rw[e1];show zX _ (((r.length+1:Nat):Int),_)=_;by_cases h0:0<clE l text[v]
  ·by_cases hlt:clE l text[v]<clE l y
   ·rw[yS (x':=((r.length:Int),r.reverse++text[v]::(y::s))) (by
     simp only[u7,yF,e0,h0,decide_true,Bool.and_self,zE5 (k:=r.length) (by omega),uE,i1,zH,zLV hl hcv,hlt,cond_true,i2,s1,kL hv,i3,s2])]
    rw[sIn hv r (y::s) (by omega)];have:ltC (clE l) text[v] y=true:=by unfold ltC;simp[h0,hlt]
    simp[uG,this]
   ·refine yJ ?_
    have:ltC (clE l) text[v] y=false:=by unfold ltC;simp[hlt]
    simp only[u7,yF,e0,h0,decide_true,Bool.and_self,zE5 (k:=r.length) (by omega),uE,i1,zH,zLV hl hcv,hlt,decide_false,Bool.and_false,cond_false,uG,this,Bool.false_eq_true,if_false,e1]
  ·refine yJ ?_
   have:ltC (clE l) text[v] y=false:=by unfold ltC;simp[h0]
   simp only[u7,yF,e0,h0,decide_false,Bool.and_false,zB7,zH,Bool.false_and,cond_false,uG,this,Bool.false_eq_true,if_false,e1]
theorem z5Y {text:List Int} (ht:text.length≤30000):zEV l text=some (csE (clE l) text):=by
 have key:∀(d k:Nat) (out:List Int),text.length-k=d→k≤text.length→out.length=k→zX (fun (x:Int×(List Int))=>vI text l x.1 x.2) ((k:Int),out)=some (zAC (ltC (clE l)) (text.drop k) out):=by
  intro d
  induction d with
  | zero=>
   intro k out h1 h2 h3;rw[List.drop_of_length_le (show text.length≤k by omega)];refine yJ ?_;simp only[vI,jP (show text.length≤k by omega),cond_false];rfl
  | succ d ih=>
   intro k out h1 h2 h3;have hk:k<text.length:=by omega
   have hi:=sIn hcv hl hk out.reverse [] (by simp;omega)
   rw[List.reverse_reverse,List.length_reverse] at hi;have hb:vI text l (k:Int) out=some (.next (((k+1:Nat):Int),uG (ltC (clE l)) out.reverse text[k] [])):=by
    have e1:wi (((out++ [text[k]]).length:Int)-1)=(out.length:Int):=by
     have hL:((out++ [text[k]]).length:Int)=(out.length:Int)+1:=by simp
     rw[hL,wP (by omega) (by omega)];omega
    simp only[vI,jF hk,cond_true,kL hk,zH,zBK (show out.length+ [text[k]].length≤4294967296 by simp;omega),zLV hl hcv,e1,hi,yC (k:=k) (by omega)]
   rw[yS (body:=fun (x:Int×(List Int))=>vI text l x.1 x.2) (x:=((k:Int),out)) hb,ih (k+1) _ (by omega) (by omega) (by rw[zO9];simp;omega),List.drop_eq_getElem_cons hk]
   rfl
 unfold zEV;have h:=key text.length 0 [] (by omega) (by omega) rfl;rw[List.drop_zero] at h;have h':zX (fun (x:Int×(List Int))=>vI text l x.1 x.2) (0,[])=some (csE (clE l) text):=h;rw[h'];rfl
end
theorem z8N {n:Norm} (hs:NSm n) (hok:vV n) {text:List Int} {b:Bool} (ht:text.length≤30000) (hf:(zEO n b text).length≤30000):zGR n text b=some (zBD n b text):=by
 have h:=zKO hs hok;unfold zGR;rw[z8L hs hok,zH,z5X h b ht,zH];have e:=z5Y h.cv (by have:=h.cl;omega) hf
 have e':zEV (usN n).Classes (text.flatMap (fu (usN n).Decomp b))=some (zBD n b text):=e;rw[e'];rfl
end Go.M
namespace Go.M
open Go.AV
def zPL (t:Int):Bool:=(decide (65≤t)&&decide (t≤90)) ||(decide (97≤t)&&decide (t≤122)) ||(decide (48≤t)&&decide (t≤57)) ||decide (t=95)
def zPM (s:Str):Bool:=!(s== [])&&decide (s.length≤32)&&s.all fun b=>zPL (b.toNat:Int)
theorem z0A (s:Str):zCI s=some (zPM s):=by
 unfold zCI;rw[yF];by_cases h1:(s== [])=true
 ·simp[h1,zPM]
 ·by_cases h2:s.length≤32
  ·have hl:zX (fun (x:Int)=>vD s x) ((0:Nat):Int)=some (if s.all (fun b=>zPL (b.toNat:Int)) then .inl () else .inr false):=by
    rw[zKL (B:=Unit) s (fun k _=>(k:Int)) (fun _ x _=>if zPL (x.toNat:Int) then some (.next ()) else some (.done (.inr false))) (fun _=> .inl ()) ?_ ?_ ()]
    ·exact z13 _ _ _ _ _
    ·intro k _ hk
     simp only[vD,jF hk,cond_true,zO6 hk,zH,yF,yC (k:=k) (by omega)];generalize (s[k].toNat:Int)=t;unfold zPL;generalize decide (65≤t)=p1;generalize decide (t≤90)=p2;generalize decide (97≤t)=p3;generalize decide (t≤122)=p4;generalize decide (48≤t)=p5;generalize decide (t≤57)=p6;generalize decide (t=95)=p7;cases p1<;>cases p2<;>cases p3<;>cases p4<;>cases p5<;>cases p6<;>cases p7<;>rfl
    ·intro _
     simp only[vD,jP (Nat.le_refl _),cond_false]
   have h3:decide (32<(s.length:Int))=false:=by simp;omega
   have e0:((0:Nat):Int)=0:=rfl;rw[e0] at hl;simp only[h1,h3,Bool.or_self,cond_false,hl,zH,zPM,h2,decide_true,Bool.not_false,Bool.true_and,Bool.not_eq_true];cases s.all (fun b=>zPL (b.toNat:Int))<;>simp[h1]
  ·have h3:decide (32<(s.length:Int))=true:=by simp;omega
   simp[h3,zPM,h2]
def zJT:List Str→List Str→Bool
 | _,[]=>true
 | seen,x::xs=>!decide (x∈seen)&&zPM x&&zJT (seen++ [x]) xs
theorem zRO {κ ν:Type} [DecidableEq κ] (m:List (κ×ν)) (k: κ):wL m k=true↔k∈m.map Prod.fst:=by
 induction m with
 | nil=>simp[wL,mget]
 | cons p m ih=>
  obtain⟨k',v⟩:=p;simp only[wL,mget,List.map_cons,List.mem_cons] at ih ⊢;by_cases e:k=k';simp[e];simp only[e,if_false,ih,false_or]
theorem z0B {κ ν:Type} [DecidableEq κ] {m:List (κ×ν)} {k: κ} (h:wL m k=false) (v: ν):wD m k v=m++ [(k,v)]:=by
 induction m with
 | nil=>rfl
 | cons p m ih=>
  obtain⟨k',v'⟩:=p;simp only[wL,mget,wD] at h ih ⊢;by_cases e:k=k';simp[e] at h;simp only[e,if_false] at h ⊢;rw[ih h];rfl
def z0C (l:List Str):Bool:=decide (0<l.length)&&decide (l.length≤250)&&zJT [] l
theorem z3B (l:List Str) (hl:l.length≤9223372036854775807):zC7 l=some (z0C l):=by
 unfold zC7;rw[yF];by_cases h1:l.length=0
 ·
  have:l= []:=List.eq_nil_of_length_eq_zero h1;subst this;rfl
 ·
  have h1':decide ((l.length:Int)=0)=false:=by simp;exact fun e=>h1 (by simp[e])
  by_cases h2:l.length≤250
  ·
   have h3:decide (250<(l.length:Int))=false:=by simp;omega
   have hval:∀(xs:List Str) (k:Nat) (m:List (Str×Int)),(zO5 (fun (k:Nat) (x:Str) (m:List (Str×Int))=>if wL m x || !zPM x then some (.done (Sum.inr false)) else some (Stp.next (wD m x (k:Int)))) (fun m=>(Sum.inl m:List (Str×Int)⊕Bool)) xs k m).bind (fun y=>Sum.elim (fun _=>some true) (fun y=>some y) y)=some (zJT (m.map Prod.fst) xs):=by
    intro xs
    induction xs with
    | nil=>intro k m;rfl
    | cons x xs ih=>
     intro k m;simp only[zO5,zJT];by_cases hm:wL m x=true
     ·
      have hm2:=hm;rw[zRO] at hm2;simp[hm,hm2]
     ·
      by_cases hn:zPM x=true
      ·
       have hm':wL m x=false:=by simpa using hm
       have:=ih (k+1) (wD m x (k:Int));rw[z0B hm'] at this ⊢;simp only[hm',hn,Bool.not_true,Bool.or_self,Bool.false_eq_true,if_false];have hm2:=hm;rw[zRO] at hm2;rw[this];simp[hm2]
      · simp[hm,hn]
   have hl2:zX (fun (x:Int×(List (Str×Int)))=>uP l x.1 x.2) (((0:Nat):Int),[])=zO5 (fun (k:Nat) (x:Str) (m:List (Str×Int))=>if wL m x || !zPM x then some (.done (Sum.inr false)) else some (Stp.next (wD m x (k:Int)))) (fun m=>(Sum.inl m:List (Str×Int)⊕Bool)) l 0 []:=by
    refine zKL l (fun k (m:List (Str×Int))=>((k:Int),m)) _ _ ?_ ?_ []
    ·
     intro k m hk;simp only[uP,jF hk,cond_true,kL hk,zH,yF,z0A,yC (k:=k) (by omega)];cases hm:wL m l[k] with
     | true=>simp[zB7]
     | false=>simp only[Bool.not_false,uE,zH];cases zPM l[k]<;>simp
    ·
     intro m;simp only[uP,jP (Nat.le_refl _),cond_false]
   have e0:((0:Nat):Int)=0:=rfl;rw[e0] at hl2;simp only[h1',h3,Bool.or_self,cond_false,hl2];rw[hval l 0 []];simp[z0C,h2,Nat.pos_of_ne_zero h1]
  ·
   have h3:decide (250<(l.length:Int))=true:=by simp;omega
   simp[h1',h3,z0C,h2]
end Go.M
namespace Go.M
open Go.AV
def zEJ (n:Int) (s:Span):Bool:=decide (0≤s.Lo)&&decide (s.Lo≤s.Hi)&&decide (s.Hi≤1114111)&&decide (1≤s.Value)&&decide (s.Value<n)
def zWX (a b:Span):Bool:=decide (a.Hi<b.Lo)&& !(decide (b.Lo=wi (a.Hi+1))&&decide (b.Value=a.Value))
def zJG:Option Span→Span→Bool
 | none,_=>true
 | some a,b=>zWX a b
def zIL (n:Int):Option Span→List Span→Bool
 | _,[]=>true
 | p,x::xs=>zEJ n x&&zJG p x&&zIL n (some x) xs
def vP (p:Property):Bool:=z0C p.Names&&zIL p.Names.length none p.Spans
def zKQ (l:List Span) (k:Nat):Option Span:=if k=0 then none else l[k-1]?
theorem z0D (n:Int) (l:List Span):∀(xs pre:List Span),l=pre++xs→zO5 (B:=Unit) (fun k x _=>if zEJ n x&&zJG (zKQ l k) x then some (.next ()) else some (.done (Sum.inr false:Unit⊕Bool))) (fun _=> .inl ()) xs pre.length ()=some (if zIL n pre.getLast? xs then .inl () else .inr false):=by
 intro xs
 induction xs with
 | nil=>intro pre _;rfl
 | cons x xs ih=>
  intro pre e;have ht:zKQ l pre.length=pre.getLast?:=by
   unfold zKQ;rw[List.getLast?_eq_getElem?];cases pre with
   | nil=>rfl
   | cons a pre=>
    rw[if_neg (by simp),e,List.getElem?_append_left (by simp)]
  have:=ih (pre++ [x]) (by simp[e]);simp only[zO5,zIL,ht];simp only[List.length_append,List.length_cons,List.length_nil,Nat.zero_add,List.getLast?_append,List.getLast?_singleton,Option.some_or] at this;by_cases hs:(zEJ n x&&zJG pre.getLast? x)=true
  · simp only[hs,if_true,this,Bool.true_and]
  ·
   have hs':(zEJ n x&&zJG pre.getLast? x)=false:=by simpa using hs
   simp only[hs',Bool.false_and,Bool.false_eq_true,if_false]
theorem z0E (a b:Int):decide (a≤b)= !decide (b<a):=by by_cases h:a≤b;simp[h];simp[h];omega
theorem z3C (p:Property) (hp:okProperty p):zC8 p=some (vP p):=by
 unfold zC8;rw[z3B _ hp.1.1,zH];cases hn:z0C p.Names with
 | false=>simp[vP,hn]
 | true=>
  have hlen:=hp.2.1;have hl:=zKL (B:=Unit) p.Spans (fun k _=>(k:Int)) (body:=fun (x:Int)=>uQ p x)
   (fun k x _=>if zEJ p.Names.length x&&zJG (zKQ p.Spans k) x then some (.next ()) else some (.done (.inr false))) (fun _=> .inl ()) ?_ ?_ ()
  ·
   have e0:((0:Nat):Int)=0:=rfl;rw[e0] at hl;have h4:=z0D p.Names.length p.Spans p.Spans [] rfl;simp only[List.length_nil,List.getLast?_nil] at h4;simp only[Bool.not_true,cond_false,hl,h4,zH,vP,hn,Bool.true_and];by_cases hs:zIL p.Names.length none p.Spans=true<;>simp[hs]
  ·
   intro k _ hk;simp only[uQ,jF hk,cond_true,kL hk,zH,yF,yC (k:=k) (by omega),zDU,wM];generalize hx:p.Spans[k]=x;by_cases hk0:k=0
   ·
    subst hk0;have hb:zEJ (p.Names.length:Int) x=(((decide (0≤x.Lo)&&decide (x.Lo≤1114111))&&(decide (0≤x.Hi)&&decide (x.Hi≤1114111))&&decide (x.Lo≤x.Hi))&& !decide (x.Value<1)&& !decide ((p.Names.length:Int)≤x.Value)):=by
     unfold zEJ;rw[Bool.eq_iff_iff];simp;omega
    simp only[zKQ,if_true,zJG,Bool.and_true,hb];generalize decide (x.Value<1)=q1;generalize decide ((p.Names.length:Int)≤x.Value)=q2;cases decide (0≤x.Lo)<;>cases decide (x.Lo≤1114111)<;>cases decide (0≤x.Hi)<;>cases decide (x.Hi≤1114111)<;>cases decide (x.Lo≤x.Hi)<;>cases q1<;>cases q2<;>rfl
   ·
    obtain⟨j,rfl⟩:∃j,k=j+1:=⟨k-1,by omega⟩;have hj:j<p.Spans.length:=by omega
    have hk0':decide (((j+1:Nat):Int)=0)=false:=by simp;omega
    have hpv:zKQ p.Spans (j+1)=some p.Spans[j]:=by simp[zKQ,hj]
    rw[hpv];simp only[hk0',cond_false,zE5 (k:=j) (by omega),kL hj,zH,zJG];generalize p.Spans[j]=y;have hb:zEJ (p.Names.length:Int) x=(((decide (0≤x.Lo)&&decide (x.Lo≤1114111))&&(decide (0≤x.Hi)&&decide (x.Hi≤1114111))&&decide (x.Lo≤x.Hi))&& !decide (x.Value<1)&& !decide ((p.Names.length:Int)≤x.Value)):=by
     unfold zEJ;rw[Bool.eq_iff_iff];simp;omega
    have hb2:decide (y.Hi<x.Lo)= !decide (x.Lo≤y.Hi):=by rw[z0E];simp
    simp only[hb,zWX,hb2];generalize decide (x.Value<1)=q1;generalize decide ((p.Names.length:Int)≤x.Value)=q2;generalize decide (x.Lo=wi (y.Hi+1))=q3;generalize decide (x.Value=y.Value)=q4;generalize decide (x.Lo≤y.Hi)=q5;generalize decide (0≤x.Lo)=q6;generalize decide (x.Lo≤1114111)=q7;generalize decide (0≤x.Hi)=q8;generalize decide (x.Hi≤1114111)=q9;generalize decide (x.Lo≤x.Hi)=q10;generalize hA:((q6&&q7)&&(q8&&q9)&&q10)=A;have hA2:((gM (q6&&q7) (some (q8&&q9))).bind fun t9=>some ((q6&&q7)&&t9&&q10))=some A:=by
     subst hA;cases q6<;>cases q7<;>simp[gM]
    cases q6<;>cases q7<;>cases q8<;>cases q9<;>cases q10<;>cases hA<;>cases q1<;>cases q2<;>cases q3<;>cases q4<;>cases q5<;>rfl
  ·
   intro _;simp only[uQ,jP (Nat.le_refl _),cond_false]
def zWY:Property:={Names:=[[79,116,104,101,114]],Spans:=[]}
def cnt (p:Property):Property:=if vP p then p else zWY
theorem zPN (p:Property) (hp:okProperty p):zAJ p=some (cnt p):=by unfold zAJ cnt;rw[z3C p hp,zH];cases vP p<;>rfl
theorem z3D:vP zWY=true:=by decide
theorem z3E (p:Property):vP (cnt p)=true:=by unfold cnt;by_cases h:vP p=true;simp[h];simp[h,z3D]
theorem zVP {n:Int}:∀{l:List Span} {q:Option Span},zIL n q l=true→List.Pairwise (fun a b=>a.Hi<b.Lo) l∧(∀x∈l,zEJ n x=true)∧∀a,q=some a→∀x∈l,a.Hi<x.Lo:=by
 intro l
 induction l with
 | nil=>intro q _;simp
 | cons x l ih=>
  intro q h;simp only[zIL,Bool.and_eq_true] at h;obtain⟨⟨h1,h2⟩,h3⟩:=h;obtain⟨i1,i2,i3⟩:=ih h3;refine⟨List.pairwise_cons.2 ⟨fun b hb=>i3 x rfl b hb,i1⟩,?_,?_⟩;intro y hy;cases List.mem_cons.1 hy with
  | inl e=>rw[e];exact h1
  | inr hy=>exact i2 y hy
  intro a ha y hy;subst ha;have h4:a.Hi<x.Lo:=by
   simp only[zJG,zWX,Bool.and_eq_true,decide_eq_true_eq] at h2;exact h2.1
  cases List.mem_cons.1 hy with
  | inl e=>rw[e];exact h4
  | inr hy=>
   have h5:=i3 x rfl y hy;simp only[zEJ,Bool.and_eq_true,decide_eq_true_eq] at h1;omega
def inS (c:Int) (s:Span):Bool:=decide (s.Lo≤c)&&decide (c≤s.Hi)
def zQN (l:List Span) (c:Int):Int:=match l.find? (inS c) with
 | some s=>s.Value
 | none=>0
theorem z0G {n:Nat} (hn:n≤4611686018427387903) {f:Int→Option Bool} (q:Nat→Bool) (hf:∀k,k<n→f (k:Int)=some (q k)) (mono:∀i j,i≤j→j<n→q i=true→q j=true):
  ∃j,j≤n∧zFK (n:Int) f=some (j:Int)∧(∀k,k<j→q k=false)∧(∀k,j≤k→k<n→q k=true):=by
 have key:∀(d lo hi:Nat),hi-lo≤d→lo≤hi→hi≤n→(∀k,k<lo→q k=false)→(∀k,hi≤k→k<n→q k=true)→
   ∃j,j≤n∧zX (fun (x:Int×Int)=>zAS f x.1 x.2) ((lo:Int),(hi:Int))=some (j:Int)∧(∀k,k<j→q k=false)∧(∀k,j≤k→k<n→q k=true):=by
  intro d
  induction d with
  | zero=>
   intro lo hi h1 h2 h3 h4 h5;have:lo=hi:=by omega
   subst this;refine⟨lo,h3,?_,h4,h5⟩;rw[xA];simp only[zAS,jP (Nat.le_refl _),cond_false]
  | succ d ih=>
   intro lo hi h1 h2 h3 h4 h5;by_cases e:lo=hi
   ·subst e
    refine⟨lo,h3,?_,h4,h5⟩;rw[xA];simp only[zAS,jP (Nat.le_refl _),cond_false]
   ·have hlt:lo<hi:=by omega
    have hm:wi ((wu (wi ((lo:Int)+(hi:Int))))/2 ^ 1)=(((lo+hi)/2:Nat):Int):=by
     rw[wP (n:=(lo:Int)+hi) (by omega) (by omega)];have:wu ((lo:Int)+(hi:Int))=(lo:Int)+hi:=by
      exact IntWalk.u64_in _ (by omega)
     rw[this,wP (by omega) (by omega)];omega
    have hmid:(lo+hi)/2<n:=by omega
    rw[xA];simp only[zAS,jF hlt,cond_true,hm,hf _ hmid,zH];cases hq:q ((lo+hi)/2) with
    | true=>
     simp only[Bool.not_true,cond_false,zH];exact ih lo ((lo+hi)/2) (by omega) (by omega) (by omega) h4 (fun k hk hkn=>mono _ _ hk hkn hq)
    | false=>
     simp only[Bool.not_false,cond_true,zH,yC (k:=(lo+hi)/2) (by omega)];refine ih ((lo+hi)/2+1) hi (by omega) (by omega) h3 ?_ h5;intro k hk;cases hqk:q k with
     | false=>rfl
     | true=>
      have:=mono k ((lo+hi)/2) (by omega) hmid hqk;rw[hq] at this;cases this
 obtain⟨j,h1,h2,h3,h4⟩:=key n 0 n (by omega) (by omega) (by omega) (by intro k hk;omega) (by intro k hk hkn;omega)
 refine⟨j,h1,?_,h3,h4⟩;unfold zFK;have e0:((0:Nat):Int)=0:=rfl;rw[e0] at h2;rw[h2];rfl
end Go.M
namespace Go.M
open Go.AV
structure Sm (p:Property):Prop where
 ok:okProperty p
 sp:p.Spans.length≤1000
theorem z5Z {p:Property} (hp:Sm p):(cnt p).Spans.length≤1000:=by unfold cnt;by_cases h:vP p=true;simp[h];exact hp.sp;simp[h,zWY]
theorem z8O (p:Property) (hp:Sm p) (c:Int):zD9 p c=some (zQN (cnt p).Spans c):=by
 unfold zD9;rw[zPN p hp.ok,zH];have hv:=z3E p;have hlen:=z5Z hp;generalize cnt p=q at hv hlen;simp only[vP,Bool.and_eq_true] at hv;obtain⟨pw,hall,_⟩:=zVP hv.2;generalize q.Spans=l at pw hall hlen;have hge:∀i j (hi:i<l.length) (hj:j<l.length),i<j→l[i].Hi<l[j].Lo:=fun i j hi hj hij=>List.pairwise_iff_getElem.1 pw i j hi hj hij;have hlh:∀i (hi:i<l.length),l[i].Lo≤l[i].Hi:=by
  intro i hi;have:=hall l[i] (List.getElem_mem hi);simp only[zEJ,Bool.and_eq_true,decide_eq_true_eq] at this;omega
 have hA:∀k,k<l.length→(fun x0=>zB5 x0 l c) (k:Int)=some ((fun k=>match l[k]? with | some s=>decide (c≤s.Hi) | none=>true) k):=by
  intro k hk;simp only[zB5,kL hk,zH,List.getElem?_eq_getElem hk]
 have hB:∀i j,i≤j→j<l.length→(fun k=>match l[k]? with | some s=>decide (c≤s.Hi) | none=>true) i=true→(fun k=>match l[k]? with | some s=>decide (c≤s.Hi) | none=>true) j=true:=by
  intro i j hij hj hq;have hi:i<l.length:=by omega
  simp only[hj,List.getElem?_eq_getElem,decide_eq_true_eq,hi] at hq ⊢;by_cases e:i=j
  ·subst e;exact hq
  ·have h3:=hge i j hi hj (by omega)
   have h4:=hlh j hj;omega
 obtain⟨j,hj,hs,hlo,hhi⟩:=z0G (n:=l.length) (by omega) (f:=fun x0=>zB5 x0 l c) _ hA hB
 ·rw[hs,zH,yF]
  by_cases hjl:j<l.length
  ·have hq:=hhi j (Nat.le_refl _) hjl
   simp only[hjl,List.getElem?_eq_getElem,decide_eq_true_eq] at hq;simp only[jF hjl,uE,kL hjl,zH,Bool.true_and];by_cases hlo2:l[j].Lo≤c
   ·have hf:l.find? (inS c)=some l[j]:=by
     rw[List.find?_eq_some_iff_getElem];refine⟨by simp[inS,hlo2,hq],j,hjl,rfl,?_⟩;intro k hk;have h2:=hlo k hk;have hkl:k<l.length:=by omega
     simp only[hkl,List.getElem?_eq_getElem,decide_eq_false_iff_not] at h2;simp[inS,h2]
    simp[zQN,hf,hlo2]
   ·have hf:l.find? (inS c)=none:=by
     rw[List.find?_eq_none];intro x hx;obtain⟨k,hk,rfl⟩:=List.getElem_of_mem hx;by_cases hkj:k<j
     ·have h2:=hlo k hkj
      simp only[hk,List.getElem?_eq_getElem,decide_eq_false_iff_not] at h2;simp[inS,h2]
     ·by_cases e:k=j
      ·subst e;simp[inS,hlo2]
      ·have h3:=hge j k hjl hk (by omega)
       have h4:=hlh j hjl;simp only[inS,Bool.and_eq_true,decide_eq_true_eq];omega
    simp[zQN,hf,hlo2]
  ·have hf:l.find? (inS c)=none:=by
    rw[List.find?_eq_none];intro x hx;obtain⟨k,hk,rfl⟩:=List.getElem_of_mem hx;have h2:=hlo k (by omega);simp only[hk,List.getElem?_eq_getElem,decide_eq_false_iff_not] at h2;simp[inS,h2]
   simp only[jP (Nat.le_of_not_lt hjl),zB7,zH,Bool.false_and,cond_false,zQN,hf]
theorem zWZ {n:Int} {l:List Span} (hall:∀x∈l,zEJ n x=true) (hn:0<n) (c:Int):0≤zQN l c∧zQN l c<n:=by
 unfold zQN;cases hf:l.find? (inS c) with
 | none=>exact⟨Int.le_refl _,hn⟩
 | some s=>
  have:=hall s (List.mem_of_find?_eq_some hf);simp only[zEJ,Bool.and_eq_true,decide_eq_true_eq] at this;simp only;omega
theorem zVQ:∀{xs seen:List Str},zJT seen xs=true→∀x∈xs,zPM x=true:=by
 intro xs
 induction xs with
 | nil=>intro _ _ x hx;cases hx
 | cons y ys ih=>
  intro seen h x hx;simp only[zJT,Bool.and_eq_true] at h;cases List.mem_cons.1 hx with
  | inl e=>rw[e];exact h.1.2
  | inr hx=>exact ih h.2 x hx
def zDX (p:Property) (c:Int):Str:=(cnt p).Names[(zQN (cnt p).Spans c).toNat]?.getD []
theorem z3G (p:Property) (c:Int):kZ (cnt p).Names (zQN (cnt p).Spans c)=some (zDX p c)∧zPM (zDX p c)=true:=by
 have hv:=z3E p;unfold zDX;generalize cnt p=q at hv;simp only[vP,z0C,Bool.and_eq_true,decide_eq_true_eq] at hv;obtain⟨⟨⟨h0,h1⟩,h2⟩,h3⟩:=hv;obtain⟨_,hall,_⟩:=zVP h3;obtain⟨g0,g1⟩:=zWZ hall (by omega) c;generalize zQN q.Spans c=g at g0 g1;obtain⟨k,rfl⟩:∃k:Nat,g=(k:Int):=⟨g.toNat,by omega⟩;have hk:k<q.Names.length:=by omega
 constructor;rw[kL hk];simp[hk];simp only[Int.toNat_natCast,List.getElem?_eq_getElem hk,Option.getD_some];exact zVQ h2 _ (List.getElem_mem hk)
theorem z50 (p:Property) (hp:Sm p) (c:Int):zDR p c=some (zDX p c):=by unfold zDR;rw[zPN p hp.ok,zH,z8O p hp,zH,(z3G p c).1];rfl
def z3H (s:Str):Bool:=!(s== [67,111,109,109,111,110])&& !(s== [73,110,104,101,114,105,116,101,100])&& !(s== [79,116,104,101,114])
def zCS (p:Property) (c:Int):Str:=if z3H (zDX p c) then zDX p c else []
theorem zVR {κ ν:Type} [DecidableEq κ] (m:List (κ×ν)) (k k': κ) (v: ν):mget (wD m k v) k'=if k'=k then some v else mget m k':=by
 induction m with
 | nil=>simp only[wD,mget]
 | cons e m ih=>
  obtain⟨a,b⟩:=e;simp only[wD];by_cases h:k=a;subst h;by_cases h2:k'=k<;>simp[mget,h2];simp only[h,if_false,mget,ih];by_cases h2:k'=a;have:¬k'=k:=fun e=>h (e.symm.trans h2);simp[h2];intro e;exact absurd e.symm h;simp[h2]
theorem zPO (p:Property) (hp:Sm p) (t:List Int) (ht:t.length≤1000):uY p t=some (t.map (zCS p)):=by
 unfold uY;rw[zSQ (by omega),zH];have key:∀(n k:Nat) (m:List (Int×Str)) (r:List Str),k+n=t.length→r.length=t.length→(∀c s,mget m c=some s→s=zCS p c)→
   zX (fun (x:Int×(List (Int×Str))×(List Str))=>j8 t p x.1 x.2.1 x.2.2) ((k:Int),m,r)=some (r.take k++(t.drop k).map (zCS p)):=by
  intro n
  induction n with
  | zero=>
   intro k m r hk hr hm;have:k=t.length:=by omega
   subst this;rw[xA];simp only[j8,jP (Nat.le_refl _),cond_false];simp[←hr]
  | succ n ih=>
   intro k m r hk hr hm;have hkt:k<t.length:=by omega
   have hkr:k<r.length:=by omega
   have fin:∀m',(∀c s,mget m' c=some s→s=zCS p c)→zX (fun (x:Int×(List (Int×Str))×(List Str))=>j8 t p x.1 x.2.1 x.2.2) (((k+1:Nat):Int),m',r.set k (zCS p t[k]))=some (r.take k++(t.drop k).map (zCS p)):=by
    intro m' hm';rw[ih (k+1) m' _ (by omega) (by simp[hr]) hm'];rw[List.drop_eq_getElem_cons hkt,List.take_add_one];rw[List.take_set_of_le (Nat.le_refl _),List.getElem?_set_self hkr];simp only[Option.toList_some,List.map_cons,List.append_assoc,List.cons_append,List.nil_append]
   cases hg:mget m t[k] with
   | some s=>
    have:=hm _ _ hg;rw[yS (x':=(((k+1:Nat):Int),m,r.set k (zCS p t[k]))) (by
     simp only[j8,jF hkt,cond_true,kL hkt,zH,yC (k:=k) (by omega),kL hkr,wL,hg,Option.isSome_some,Bool.not_true,cond_false,xM,Option.getD_some,this,zGZ hkr])]
    exact fin m hm
   | none=>
    have hval:((cond (zDX p t[k]== [67,111,109,109,111,110]) (some (zDX p t[k]== [67,111,109,109,111,110])) (cond (zDX p t[k]== [73,110,104,101,114,105,116,101,100]) (some (zDX p t[k]== [73,110,104,101,114,105,116,101,100])) (some (zDX p t[k]== [79,116,104,101,114])))).bind fun (y4:Bool)=>
      cond y4 (some []) (some (zDX p t[k])))=some (zCS p t[k]):=by
     unfold zCS z3H;cases zDX p t[k]== [67,111,109,109,111,110]<;>cases zDX p t[k]== [73,110,104,101,114,105,116,101,100]<;>cases zDX p t[k]== [79,116,104,101,114]<;>rfl
    rw[yS (x':=(((k+1:Nat):Int),wD m t[k] (zCS p t[k]),r.set k (zCS p t[k]))) (by
     simp only[j8,jF hkt,cond_true,kL hkt,zH,yC (k:=k) (by omega),kL hkr,wL,hg,Option.isSome_none,Bool.not_false,z50 p hp,hval,zGZ hkr])]
    apply fin;intro c s h;rw[zVR] at h;by_cases e:c=t[k]
    ·simp[e] at h;rw[e];exact h.symm
    ·simp[e] at h;exact hm c s h
 have:=key t.length 0 [] (List.replicate t.length []) (by omega) (by simp) (by intro c s h;cases h)
 have e0:((0:Nat):Int)=0:=rfl;rw[e0] at this;rw[this];simp
end Go.M
namespace Go.M
open Go.AV
def SS (l:List Str):Prop:=l.Pairwise (· < ·)
theorem zYP (x:Str):¬x<x:=List.lt_irrefl x
theorem yAH {x y z:Str} (h:x<y) (h2:y<z):x<z:=List.lt_trans h h2
theorem z8P:∀{l m:List Str},SS l→SS m→(∀x,x∈l↔x∈m)→l=m:=by
 intro l
 induction l with
 | nil=>
  intro m _ _ h;cases m with
  | nil=>rfl
  | cons y m=>have:=(h y).2 (by simp);cases this
 | cons x l ih=>
  intro m hl hm h;cases m with
  | nil=>have:=(h x).1 (by simp);cases this
  | cons y m=>
   have hl':=List.pairwise_cons.1 hl;have hm':=List.pairwise_cons.1 hm;have hxy:x=y:=by
    have h1:=List.mem_cons.1 ((h x).1 (by simp));have h2:=List.mem_cons.1 ((h y).2 (by simp));cases h1 with
    | inl e=>exact e
    | inr h1=>
     cases h2 with
     | inl e=>exact e.symm
     | inr h2=>exact absurd (yAH (hl'.1 y h2) (hm'.1 x h1)) (zYP x)
   subst hxy;congr 1;apply ih hl'.2 hm'.2;intro z;constructor;intro hz;have:=List.mem_cons.1 ((h z).1 (by simp[hz]));cases this with
   | inl e=>subst e;exact absurd (hl'.1 z hz) (zYP z)
   | inr h=>exact h
   intro hz;have:=List.mem_cons.1 ((h z).2 (by simp[hz]));cases this with
   | inl e=>subst e;exact absurd (hm'.1 z hz) (zYP z)
   | inr h=>exact h
def z52 (rs r:List Str):Prop:=SS r∧∀y,y∈r↔y≠[]∧y∈rs
theorem z9M (rs:List Str) (ht:rs.length≤1000):∀(n k:Nat) (m:List (Str×Bool)) (out:List Str),k+n=rs.length→out.length≤k→out.Nodup→(∀s,xM m s false=true↔s∈out)→∃r,zX (fun (x:Int×(List (Str×Bool))×(List Str))=>zAA rs x.1 x.2.1 x.2.2) ((k:Int),m,out)=some r∧r.Nodup∧(∀y,y∈r↔y∈out∨(y≠[]∧y∈rs.drop k))∧r.length≤rs.length:=by
 intro n
 induction n with
 | zero=>
  intro k m out hk ho hn hm;have:k=rs.length:=by omega
  subst this;refine⟨out,?_,hn,by simp,ho⟩;apply yJ;simp only[zAA,jP (Nat.le_refl _),cond_false]
 | succ n ih=>
  intro k m out hk ho hn hm;have hkt:k<rs.length:=by omega
  rw[List.drop_eq_getElem_cons hkt];by_cases hz:rs[k]= []
  ·obtain⟨r,h1,h2,h3,h4⟩:=ih (k+1) m out (by omega) (by omega) hn hm
   refine⟨r,?_,h2,?_,h4⟩
   ·rw[←h1]
    apply yS;simp[zAA,kL hkt,hz,hkt,yC (k:=k) (by omega),pv]
   ·intro y
    rw[h3 y,hz,List.mem_cons];constructor
    ·rintro (h | ⟨h,h'⟩)
     ·exact Or.inl h
     ·exact Or.inr ⟨h,Or.inr h'⟩
    ·rintro (h | ⟨h,h' | h'⟩)
     ·exact Or.inl h
     ·exact absurd h' h
     ·exact Or.inr ⟨h,h'⟩
  ·have hz':(rs[k]== [])=false:=by simpa using hz
   by_cases hin:rs[k]∈out
   ·obtain⟨r,h1,h2,h3,h4⟩:=ih (k+1) m out (by omega) (by omega) hn hm
    refine⟨r,?_,h2,?_,h4⟩
    ·rw[←h1]
     apply yS;simp only[zAA,jF hkt,cond_true,kL hkt,zH,yF,hz',(hm rs[k]).2 hin,Bool.not_true,Bool.and_false,cond_false,yC (k:=k) (by omega)]
    ·intro y
     rw[h3 y,List.mem_cons];constructor
     ·rintro (h | ⟨h,h'⟩)
      ·exact Or.inl h
      ·exact Or.inr ⟨h,Or.inr h'⟩
     ·rintro (h | ⟨h,h' | h'⟩)
      ·exact Or.inl h
      ·exact Or.inl (h'▸hin)
      ·exact Or.inr ⟨h,h'⟩
   ·have hg:xM m rs[k] false=false:=by
     cases hc:xM m rs[k] false with
     | false=>rfl
     | true=>exact absurd ((hm _).1 hc) hin
    obtain⟨r,h1,h2,h3,h4⟩:=ih (k+1) (wD m rs[k] true) (out++ [rs[k]]) (by omega) (by simp;omega) (by
      rw[List.nodup_append];refine⟨hn,by simp,?_⟩;intro a ha b hb e;simp at hb;subst hb;subst e;exact hin ha) (by
      intro s;simp only[xM,zVR,List.mem_append,List.mem_singleton];by_cases e:s=rs[k]
      ·simp[e]
      ·simp only[e,if_false,or_false];exact hm s)
    refine⟨r,?_,h2,?_,h4⟩
    ·rw[←h1]
     apply yS;simp only[zAA,jF hkt,cond_true,kL hkt,zH,yF,hz',hg,Bool.not_false,Bool.and_self,yC (k:=k) (by omega)];rw[zBK (by simp;omega)];rfl
    ·intro y
     rw[h3 y,List.mem_cons,List.mem_append,List.mem_singleton];constructor
     ·rintro ((h | h) | ⟨h,h'⟩)
      ·exact Or.inl h
      ·exact Or.inr ⟨by rw[h];exact hz,Or.inl h⟩
      ·exact Or.inr ⟨h,Or.inr h'⟩
     ·rintro (h | ⟨h,h' | h'⟩)
      ·exact Or.inl (Or.inl h)
      ·exact Or.inl (Or.inr h')
      ·exact Or.inr ⟨h,h'⟩
theorem POf (p:Property) (hp:Sm p) (t:List Int) (ht:t.length≤500):∃r,zC9 p t=some r∧z52 (t.map (zCS p)) r:=by
 obtain⟨r,h1,h2,h3,h4⟩:=z9M (t.map (zCS p)) (by simp;omega) (t.map (zCS p)).length 0 [] [] (by omega) (by simp) List.Pairwise.nil (by intro s;simp[xM,mget])
 rw[List.length_map] at h4;refine⟨r.mergeSort fun x y=>decide (x≤y),?_,?_,?_⟩
 ·unfold zC9
  rw[zPO p hp t (by omega),zH];rw[z0] at h1;rw[h1,zH,zXN,if_pos (by unfold LIM;omega)];rfl
 ·have hpw:=List.pairwise_mergeSort (le:=fun (x y:Str)=>decide (x≤y)) (by
   intro a b c h1 h2;simp only[decide_eq_true_eq] at h1 h2 ⊢;exact List.le_trans h1 h2) (by
   intro a b;simp only[Bool.or_eq_true,decide_eq_true_eq];exact List.le_total a b) r
  have hnd:(r.mergeSort fun x y=>decide (x≤y)).Nodup:=(List.mergeSort_perm r _).nodup_iff.2 h2;refine List.Pairwise.imp₂ ?_ hpw hnd;intro a b hab hne;simp only[decide_eq_true_eq] at hab;by_cases h:a<b
  ·exact h
  ·exact absurd (List.le_antisymm hab (List.not_lt.1 h)) hne
 ·intro y
  rw[List.mem_mergeSort,h3 y];simp
theorem zRP {rs r r':List Str} (h:z52 rs r) (h':z52 rs r'):r=r':=z8P h.1 h'.1 (fun x=>(h.2 x).trans (h'.2 x).symm)
noncomputable def ofP (p:Property) (t:List Int):List Str:=(zC9 p t).getD []
theorem z6S (p:Property) (hp:Sm p) (t:List Int) (ht:t.length≤500):zC9 p t=some (ofP p t):=by obtain⟨r,h,_⟩:=POf p hp t ht;unfold ofP;rw[h];rfl
theorem z54 (p:Property) (hp:Sm p) (t:List Int) (ht:t.length≤500):z52 (t.map (zCS p)) (ofP p t):=by obtain⟨r,h,h2⟩:=POf p hp t ht;unfold ofP;rw[h];exact h2
theorem z3I {l:List Str} (h:SS l):l.Nodup:=by refine List.Pairwise.imp (S:=fun a b=>a≠b) ?_ h;intro a b hab e;subst e;exact zYP a hab
theorem z0H {l m:List Str} (h:l.Nodup) (hs:∀x∈l,x∈m):l.length≤m.length:=by
 induction l generalizing m with
 | nil=>simp
 | cons x l ih=>
  have hx:=hs x (by simp);have h':=List.nodup_cons.1 h;have:=ih (m:=m.erase x) h'.2 (by
   intro y hy;have hne:y≠x:=fun e=>h'.1 (e▸hy);exact(List.mem_erase_of_ne hne).2 (hs y (by simp[hy])))
  rw[List.length_erase_of_mem hx] at this;have hpos:=List.length_pos_of_mem hx;simp only[List.length_cons];omega
theorem zYQ (p:Property) (hp:Sm p) (t:List Int) (ht:t.length≤500):(ofP p t).length≤t.length:=by have:=z0H (z3I (z54 p hp t ht).1) (m:=t.map (zCS p)) (fun x hx=>(((z54 p hp t ht).2 x).1 hx).2);simpa using this
end Go.M
namespace Go.M
open Go.AV
structure SmL (l:List Mapping):Prop where
 n:l.length≤20
 to:∀m∈l,m.To.length≤65
 tag:∀m∈l,m.Tag.length≤40
theorem s22 {n:Norm} (hl:n.Decomp.length≤40):∀(m k:Nat),k+m=n.Decomp.length→∃y,zX (fun (x:Int)=>vW n x) (k:Int)=some y∧(y= .inr false∨(y= .inl ()∧∀x∈n.Decomp.drop k,x.To.length≤70∧x.Tag.length≤40))
 | 0,k,h=>⟨.inl (),yJ (by simp only[vW,jP (show n.Decomp.length≤k by omega),cond_false]),.inr ⟨rfl,by rw[List.drop_of_length_le (by omega)];intro x hx;cases hx⟩⟩
 | m+1,k,h=>by
  have hk:k<n.Decomp.length:=by omega
  by_cases h1:70<n.Decomp[k].To.length;have e:decide ((70:Int)<(n.Decomp[k].To.length:Int))=true:=by simp;omega
  exact⟨.inr false,yJ (by simp only[vW,jF hk,cond_true,kL hk,zH,yF,e,Bool.not_true,zB7,Bool.true_or]),.inl rfl⟩;have e:decide ((70:Int)<(n.Decomp[k].To.length:Int))=false:=by simp;omega
  by_cases h2:40<n.Decomp[k].Tag.length;have e2:decide ((40:Int)<(n.Decomp[k].Tag.length:Int))=true:=by simp;omega
  exact⟨.inr false,yJ (by simp only[vW,jF hk,cond_true,kL hk,zH,yF,e,Bool.not_false,uE,e2,Bool.or_true]),.inl rfl⟩;have e2:decide ((40:Int)<(n.Decomp[k].Tag.length:Int))=false:=by simp;omega
  obtain⟨y,h3,h4⟩:=s22 hl m (k+1) (by omega);refine⟨y,?_,?_⟩;rw[yS (x':=((k+1:Nat):Int)) (by simp only[vW,jF hk,cond_true,kL hk,zH,yF,e,Bool.not_false,uE,e2,Bool.or_self,cond_false,yC (k:=k) (by omega)])];exact h3;rcases h4 with h4 | ⟨h4,h5⟩;exact .inl h4;refine .inr ⟨h4,?_⟩;rw[List.drop_eq_getElem_cons hk];intro x hx;rcases List.mem_cons.1 hx with rfl | hx;exact⟨by omega,by omega⟩;exact h5 x hx
theorem z55 (n:Norm):∃b,zFB n=some b∧(b=true→NSm n):=by
 unfold zFB;by_cases h:40<n.Classes.length∨40<n.Decomp.length∨12<n.Excluded.Ranges.length;have e:((decide ((40:Int)<(n.Classes.length:Int)) ||decide ((40:Int)<(n.Decomp.length:Int))) ||decide ((12:Int)<(n.Excluded.Ranges.length:Int)))=true:=by simp;omega
 simp only[yF,e,cond_true];exact⟨false,rfl,fun h=>by cases h⟩;have e:((decide ((40:Int)<(n.Classes.length:Int)) ||decide ((40:Int)<(n.Decomp.length:Int))) ||decide ((12:Int)<(n.Excluded.Ranges.length:Int)))=false:=by simp;omega
 obtain⟨y,h3,h4⟩:=s22 (n:=n) (by omega) n.Decomp.length 0 (by omega);rw[show ((0:Nat):Int)=0 from rfl] at h3;simp only[yF,e,cond_false,h3,zH];rcases h4 with rfl | ⟨rfl,h5⟩;exact⟨false,rfl,fun h=>by cases h⟩;rw[List.drop_zero] at h5;exact⟨true,rfl,fun _=>⟨by omega,by omega,fun m hm=>(h5 m hm).1,fun m hm=>(h5 m hm).2,by omega⟩⟩
theorem z6T (d:Unicodetextlaw41_Data):∃b,zGB d=some b∧(b=true→NSm d.Norm∧SmL d.Map):=by
 unfold zGB;obtain⟨b1,h1,p1⟩:=z55 d.Norm;obtain⟨b2,h2,p2⟩:=z5C d.Map;rw[h1,zH,yF,h2];cases b1 with
 | false=>exact⟨false,rfl,fun h=>by cases h⟩
 | true=>exact⟨b2,by simp[uE],fun h=>⟨p1 rfl,(p2 h).1,(p2 h).2.1,(p2 h).2.2⟩⟩
open Classical in
noncomputable def vL (l:List Mapping):List Mapping:=if MV l then l else []
def z3J (m:Mapping):Mapping_key:={from_:=m.From,tag:=m.Tag}
def zEK (l:List Mapping):List (Mapping_key×List Int):=l.map fun m=>(z3J m,m.To)
def fdE (l:List Mapping) (x:Int):Option Mapping:=l.find? fun m=>decide (m.From=x)&&(m.Tag== [])
def apE (l:List Mapping) (x:Int):List Int:=match fdE l x with
 | some m=>m.To
 | none=>[x]
structure Fd (l:List Mapping):Prop where
 sm:SmL l
 mv:MV l
theorem MV.nil:MV []:=⟨by simp,by simp,by simp,fun k hk=>by simp at hk⟩
theorem z3K {l:List Mapping} (hs:SmL l):Fd (vL l):=by unfold vL;split;rename_i h;exact⟨hs,h⟩;exact⟨⟨by simp,by simp,by simp⟩,MV.nil⟩
theorem zPP {l:List Mapping} (h:MV l):vL l=l:=if_pos h
theorem zW0 {l:List Mapping} (h:¬MV l):vL l= []:=if_neg h
theorem z8Q {l:List Mapping} {m:Mapping} (h:m∈vL l):m∈l:=by unfold vL at h;split at h;exact h;cases h
theorem SmL.ver {l:List Mapping} (h:SmL l):Ver (u9 l) (MV l):=z19 (by have:=h.n;omega) (fun m hm=>by have:=h.to m hm;omega) (fun m hm=>by have:=h.tag m hm;unfold MX;omega)
theorem SmL.verR {l:List Mapping} (h:SmL l):Ver (zB8 l) (MV l):=z2Y (by have:=h.n;omega) (fun m hm=>by have:=h.to m hm;omega) (fun m hm=>by have:=h.tag m hm;unfold MX;omega)
theorem z0I {m:List (Mapping_key×List Int)} {k:Mapping_key} {v:List Int} (h:∀p∈m,p.1≠k):wD m k v=m++ [(k,v)]:=by
 induction m with
 | nil=>rfl
 | cons p m ih=>
  obtain⟨q,u⟩:=p;have:k≠q:=fun e=>h (q,u) (by simp) e.symm;simp only[wD,this,if_false,List.cons_append];rw[ih fun p hp=>h p (by simp[hp])]
theorem z8R {l:List Mapping} (h:MV l) {i j:Nat} (hij:i<j) (hj:j<l.length):z3J (nth l i)≠z3J (nth l j):=by have:=zS0 h.lt (j-i-1) i (by omega);rw[show i+(j-i-1)+1=j by omega] at this;intro e;unfold z3J at e;simp only[Mapping_key.mk.injEq] at e;exact zYD this e
theorem z3L {l:List Mapping} (hl:l.length≤20) (h:MV l):∀(n k:Nat),l.length-k=n→k≤l.length→zX (fun (x:Int×(List (Mapping_key×(List Int))))=>vA l x.1 x.2) ((k:Int),zEK (l.take k))=some (zEK l):=by
 intro n
 induction n with
 | zero=>
  intro k hk hk2;rw[yJ (y:=zEK (l.take k)) (by simp only[vA,jP (show l.length≤k by omega),cond_false])];rw[List.take_of_length_le (by omega)]
 | succ n ih=>
  intro k hk hk2;have hlt':k<l.length:=by omega
  rw[yS (x':=(((k+1:Nat):Int),zEK (l.take (k+1)))) ?_];exact ih (k+1) (by omega) (by omega);simp only[vA,jF hlt',cond_true,kL hlt',zH,zBG,yC (k:=k) (by omega)];congr 3;rw[z0I];unfold zEK;rw[List.take_add_one,List.getElem?_eq_getElem hlt',List.map_append];rfl;intro p hp;unfold zEK at hp;obtain⟨m,hm,rfl⟩:=List.mem_map.1 hp;obtain⟨i,hi,rfl⟩:=List.getElem_of_mem hm;rw[List.length_take] at hi;have:=z8R h (i:=i) (j:=k) (by omega) hlt';rw[uF (by omega),uF hlt'] at this;rw[List.getElem_take];exact this
section
variable {l:List Mapping}
theorem zNB (x:Int):mget (zEK l) {from_:=x,tag:=[]}=(fdE l x).map (·.To):=by
 unfold fdE
 induction l with
 | nil=>rfl
 | cons m l ih=>
  unfold zEK at ih ⊢;simp only[List.map_cons,mget,List.find?_cons,z3J,Mapping_key.mk.injEq];by_cases h:x=m.From;by_cases h2:m.Tag= [];simp[h,h2];have h3:¬([]:Str)=m.Tag:=fun e=>h2 e.symm;have h4:(m.Tag== [])=false:=by rw[zQL];simp[h2]
  simp only[h3,and_false,if_false,h4,Bool.and_false];exact ih;have h2:¬m.From=x:=fun e=>h e.symm;simp only[h,false_and,if_false,h2,decide_false,Bool.false_and];exact ih
theorem zVS (x:Int):wL (zEK l) {from_:=x,tag:=[]}=(fdE l x).isSome:=by unfold wL;rw[zNB];cases fdE l x<;>rfl
theorem zS9 {x:Int} {m:Mapping} (h:fdE l x=some m):xM (zEK l) {from_:=x,tag:=[]} []=apE l x:=by unfold xM apE;rw[zNB,h];rfl
theorem zL0 {x:Int} (h:fdE l x=none):apE l x= [x]:=by unfold apE;rw[h]
theorem zVT {x:Int} {m:Mapping} (h:fdE l x=some m):apE l x=m.To:=by unfold apE;rw[h]
theorem zPQ {x:Int} {m:Mapping} (h:fdE l x=some m):m∈l∧m.From=x∧m.Tag= []:=by have h1:=List.find?_some h;simp only[Bool.and_eq_true,decide_eq_true_eq,zQL] at h1;exact⟨List.mem_of_find?_eq_some h,h1.1,h1.2⟩
variable (hF:Fd l)
include hF
theorem zTA (x:Int):(apE l x).length≤65:=by unfold apE;split;rename_i m h;exact hF.sm.to m (zPQ h).1;simp
theorem z3M {text:List Int}:(text.flatMap (apE l)).length≤65*text.length:=by
 induction text with
 | nil=>simp
 | cons x t ih=>
  have:=zTA hF x;rw[List.flatMap_cons,List.length_append,List.length_cons];omega
theorem z3N {text:List Int} (ht:text.length≤4000):∀(n k:Nat),text.length-k=n→k≤text.length→
  zX (fun (x:Int×(List Int))=>vB text (zEK l) [] x.1 x.2) ((k:Int),(text.take k).flatMap (apE l))=some (text.flatMap (apE l)):=by
 intro n
 induction n with
 | zero=>
  intro k hk hk2;rw[yJ (y:=(text.take k).flatMap (apE l)) (by simp only[vB,jP (show text.length≤k by omega),cond_false])];rw[List.take_of_length_le (by omega)]
 | succ n ih=>
  intro k hk hk2;have hlt':k<text.length:=by omega
  have h1:=z3M hF (text:=text.take k);rw[List.length_take] at h1;have h2:=zTA hF text[k];rw[yS (x':=(((k+1:Nat):Int),(text.take (k+1)).flatMap (apE l))) ?_]
  ·exact ih (k+1) (by omega) (by omega)
  ·have hnx:(text.take (k+1)).flatMap (apE l)=(text.take k).flatMap (apE l)++apE l text[k]:=by
    rw[List.take_add_one,List.getElem?_eq_getElem hlt',List.flatMap_append];simp
   simp only[vB,jF hlt',cond_true,kL hlt',zH,zVS,yC (k:=k) (by omega),hnx];cases hk:fdE l text[k] with
   | some m=>rw[Option.isSome_some,cond_true,zS9 hk,zBK (by omega)];rfl
   | none=>rw[Option.isSome_none,cond_false,zBK (by rw[List.length_singleton];omega),zL0 hk];rfl
end
theorem z3O {l:List Mapping} (hs:SmL l) {text:List Int} (ht:text.length≤4000):zDQ l [] text=some (text.flatMap (apE (vL l))):=by unfold zDQ;obtain⟨e,he,hp⟩:=hs.ver;have h1:=z3N (z3K hs) ht text.length 0 (by omega) (by omega);have h1':zX (fun (x:Int×(List Int))=>vB text (zEK (vL l)) [] x.1 x.2) (0,[])=some (text.flatMap (apE (vL l))):=h1;rw[he,zH];by_cases hz:e=0;have hv:=hp.1 hz;have h0:=z3L hs.n hv l.length 0 (by omega) (by omega);have h0':zX (fun (x:Int×(List (Mapping_key×(List Int))))=>vA l x.1 x.2) (0,[])=some (zEK l):=h0;rw[zPP hv] at h1' ⊢;simp only[hz,decide_true,cond_true,h0',zH,h1'];have hv:¬MV l:=fun h=>hz (hp.2 h);rw[zW0 hv] at h1' ⊢;have h2:(zEK [])= []:=rfl;rw[h2] at h1';simp only[hz,decide_false,cond_false,zH,h1']
theorem zVU {l:List Mapping} (hF:Fd l) (x:Int):zEW l x []=some (match fdE l x with | some m=>(m.To,true) | none=>([],false)):=by
 unfold zEW;have h:=zH0 l (body:=fun (y:Int)=>zCP l x [] y) (fun _ m=>if decide (m.From=x)&&(m.Tag== []) then some (true,m.To) else none) (fun k hk=>by
  have:=hF.sm.n;have h2:=hF.sm.to _ (List.getElem_mem hk);simp only[zCP,jF hk,cond_true,kL hk,zH,yF,yC (k:=k) (by omega)];cases h0:decide (l[k].From=x) with
  | false=>simp[zB7,stp]
  | true=>
   simp only[uE,zH,Bool.true_and];cases h1:(l[k].Tag== []) with
   | false=>simp[stp]
   | true=>rw[cond_true,zBK (by simp;omega)];simp[stp]) (fun k hk=>by simp only[zCP,jP hk,cond_false])
 rw[h,zH];have key:∀(l:List Mapping) (k:Nat),chk (fun _ (m:Mapping)=>if decide (m.From=x)&&(m.Tag== []) then some (true,m.To) else none) l k=(l.find? fun m=>decide (m.From=x)&&(m.Tag== [])).map fun m=>(true,m.To):=by
  intro l
  induction l with
  | nil=>intro _;rfl
  | cons m l ih=>
   intro k;rw[chk,List.find?_cons];cases decide (m.From=x)&&(m.Tag== []) with
   | true=>rfl
   | false=>exact ih (k+1)
 rw[key];unfold fdE;cases l.find? fun m=>decide (m.From=x)&&(m.Tag== []) with
 | none=>rfl
 | some m=>rfl
theorem zYR {l:List Mapping} (hs:SmL l):zD1 l=some (vL l):=by unfold zD1 vL;obtain⟨e,he,hp⟩:=hs.verR;rw[he,zH];by_cases hz:e=0;rw[if_pos (hp.1 hz)];simp[hz];rw[if_neg (fun h=>hz (hp.2 h))];simp[hz]
theorem zVV {l:List Mapping} (hF:Fd l) {text:List Int} (ht:text.length≤4000):∀(n k:Nat),text.length-k=n→k≤text.length→
  zX (fun (x:Int×(List Int))=>zAQ text l [] x.1 x.2) ((k:Int),(text.take k).flatMap (apE l))=some (text.flatMap (apE l)):=by
 intro n
 induction n with
 | zero=>
  intro k hk hk2;rw[yJ (y:=(text.take k).flatMap (apE l)) (by simp only[zAQ,jP (show text.length≤k by omega),cond_false])];rw[List.take_of_length_le (by omega)]
 | succ n ih=>
  intro k hk hk2;have hlt':k<text.length:=by omega
  have h1:=z3M hF (text:=text.take k);rw[List.length_take] at h1;have h2:=zTA hF text[k];rw[yS (x':=(((k+1:Nat):Int),(text.take (k+1)).flatMap (apE l))) ?_]
  ·exact ih (k+1) (by omega) (by omega)
  ·have hnx:(text.take (k+1)).flatMap (apE l)=(text.take k).flatMap (apE l)++apE l text[k]:=by
    rw[List.take_add_one,List.getElem?_eq_getElem hlt',List.flatMap_append];simp
   simp only[zAQ,jF hlt',cond_true,kL hlt',zH,zVU hF,yC (k:=k) (by omega),hnx];cases hk:fdE l text[k] with
   | some m=>rw[zVT hk] at h2 ⊢;simp only[cond_true];rw[zBK (by omega)];rfl
   | none=>rw[zL0 hk];simp only[cond_false];rw[zBK (by rw[List.length_singleton];omega)];rfl
theorem zRQ {l:List Mapping} (hs:SmL l) {text:List Int} (ht:text.length≤4000):zD2 l [] text=some (text.flatMap (apE (vL l))):=by unfold zD2;rw[zYR hs,zH];have:=zVV (z3K hs) ht text.length 0 (by omega) (by omega);have h2:(zX (fun (x:Int×(List Int))=>zAQ text (vL l) [] x.1 x.2) (0,[]))=some (text.flatMap (apE (vL l))):=this;rw[h2];rfl
end Go.M
namespace Go.M
open Go.AV
theorem z56 {a b:List Int} (ha:a.length≤1000000):uC a b=some (decide (a=b)):=by
 unfold uC;by_cases hl:a.length=b.length;have h0:(!decide ((a.length:Int)=(b.length:Int)))=false:=by simp[hl]
 rw[h0,cond_false];have h:=kX (body:=fun (x:Int)=>xP a b x) a.length (fun j=>nth a j=nth b j) (fun y=>y=false) (fun j hj=>by
  have hj':j<b.length:=by omega
  simp only[xP,jF hj,cond_true,yO hj,yO hj',zH,yC (k:=j) (by omega)];exact wQ (by simp) rfl) (fun j hj=>by simp only[xP,jP hj,cond_false])
 have hiff:(∀j,j<a.length→nth a j=nth b j)↔a=b:=by
  constructor;intro h;apply List.ext_getElem hl;intro i h1 h2;have:=h i h1
  rwa [uF h1,uF h2] at this
  intro h j _;rw[h]
 rw[hiff] at h;rcases h with ⟨h,p⟩ | ⟨y,rfl,h,p⟩
 rw[h];simp[p];rw[h];simp[p];have h0:(!decide ((a.length:Int)=(b.length:Int)))=true:=by simp;omega
 rw[h0,cond_true];have:a≠b:=fun e=>hl (by rw[e]);simp[this]
section
variable {n:Norm} (hs:NSm n) (hok:vV n)
include hs hok
theorem zTB {t:List Int} (ht:t.length≤460):uB n t=some (zBD n false t):=by
 have hf:=zMQ hs hok false t;have h:=z2T hs hok (text:=t) (b:=false) (by omega) (by omega);have h2:xV {norm:=n} t=some (zBD n false t):=by
  unfold xV;rw[h];rfl
 unfold uB;simp only[zH];rw[show ({norm:=({Classes:=n.Classes,Decomp:=n.Decomp,Excluded:=({Ranges:=n.Excluded.Ranges}:Set)}:Norm)}:Normalize_steps)= {norm:=n} from rfl,h2];rfl
theorem zJH {t:List Int} (ht:t.length≤460):zAP n t=some (zBD n false t):=by have hf:=zMQ hs hok false t;unfold zAP;rw[z8N hs hok (by omega) (by omega)];rfl
theorem zYS (t:List Int):(zBD n false t).length≤64*t.length:=by rw[z2S];exact zMQ hs hok false t
end
noncomputable def mpE (n:Norm) (l:List Mapping) (t:List Int):List Int:=(zBD n false t).flatMap (apE (vL l))
noncomputable def skE (n:Norm) (l:List Mapping) (t:List Int):List Int:=zBD n false (mpE n l t)
noncomputable def ltE (n:Norm) (l:List Mapping) (t:List Int):Bool:=decide ((zBD n false t).length≤400)&&(decide ((mpE n l t).length≤400)&&decide ((skE n l t).length≤400))
section
variable {n:Norm} (hs:NSm n) (hok:vV n) {l:List Mapping} (hl:SmL l)
include hs hok hl
theorem z3P {t:List Int} (ht:t.length≤400):zFI n l t=some (ltE n l t):=by
 unfold zFI ltE;rw[zJH hs hok (by omega),zH];by_cases h1:(zBD n false t).length≤400;have e1:decide ((400:Int)<((zBD n false t).length:Int))=false:=by simp;omega
 have e2:decide ((zBD n false t).length≤400)=true:=by simp;omega
 rw[e1,cond_false,zRQ hl (by omega),zH,yF,e2,Bool.true_and];show (gM (decide (((mpE n l t).length:Int)≤400)) (zAP n (mpE n l t))).bind _=_;by_cases h2:(mpE n l t).length≤400;have e3:decide (((mpE n l t).length:Int)≤400)=true:=by simp;omega
 have e4:decide ((mpE n l t).length≤400)=true:=by simp;omega
 rw[e3,uE,zJH hs hok (by omega),zH,e4];show some (_&&decide (((skE n l t).length:Int)≤400))=_;congr 2;apply decide_eq_decide.2;omega;have e3:decide (((mpE n l t).length:Int)≤400)=false:=by simp;omega
 have e4:decide ((mpE n l t).length≤400)=false:=by simp;omega
 rw[e3,zB7,zH,e4];show some (decide (((mpE n l t).length:Int)≤400)&&_)=_;rw[e3];rfl;have e1:decide ((400:Int)<((zBD n false t).length:Int))=true:=by simp;omega
 have e2:decide ((zBD n false t).length≤400)=false:=by simp;omega
 rw[e1,cond_true,e2,Bool.false_and]
theorem zL1 {t:List Int} (ht:t.length≤400) (h:ltE n l t=true):kM n l t=some (skE n l t):=by unfold ltE at h;simp only[Bool.and_eq_true,decide_eq_true_eq] at h;unfold kM;rw[zTB hs hok (by omega),zH,z3O hl (by omega),zH];show (uB n (mpE n l t)).bind _=_;rw[zTB hs hok (by omega)];rfl
theorem zVW {t:List Int} (ht:t.length≤400) (h:ltE n l t=true):zB6 n l t=some (skE n l t):=by unfold ltE at h;simp only[Bool.and_eq_true,decide_eq_true_eq] at h;unfold zB6;rw[zJH hs hok (by omega),zH,zRQ hl (by omega),zH];show (zAP n (mpE n l t)).bind _=_;rw[zJH hs hok (by omega)];rfl
omit hs hok hl in
theorem zTC {t:List Int} (h:ltE n l t=true):(skE n l t).length≤400:=by unfold ltE at h;simp only[Bool.and_eq_true,decide_eq_true_eq] at h;exact h.2.2
theorem zVX {a b:List Int} (ha:a.length≤400) (hb:b.length≤400) (la:ltE n l a=true) (lb:ltE n l b=true):vC n l a b=some (decide (skE n l a=skE n l b)):=by have:=zTC la;unfold vC;rw[zL1 hs hok hl ha la,zH,zL1 hs hok hl hb lb,zH,z56 (by omega)];rfl
theorem z0J {a b:List Int} (ha:a.length≤400) (hb:b.length≤400) (la:ltE n l a=true) (lb:ltE n l b=true):zFL n l a b=some (decide (skE n l a=skE n l b)):=by have:=zTC la;unfold zFL;rw[zVW hs hok hl ha la,zH,zVW hs hok hl hb lb,zH,zLO (by omega)];rfl
end
theorem zW1 {d:Unicodetextlaw41_Data} (hs:NSm d.Norm) (hok:vV d.Norm) (hl:SmL d.Map) {ts:List (List Int)} (hn:ts.length≤100) (ht:∀t∈ts,t.length≤400):zC4 d ts=some (ts.all (ltE d.Norm d.Map)):=by
 unfold zC4;have h:=kX (body:=fun (x:Int)=>zBZ ts d x) ts.length (fun j=>ltE d.Norm d.Map (nth ts j)=true) (fun y=>y=false) (fun j hj=>by
  simp only[zBZ,jF hj,cond_true,yO hj,zH,z3P hs hok hl (ht _ (x4 hj)),yC (k:=j) (by omega)];exact wQ (by simp) rfl) (fun j hj=>by simp only[zBZ,jP hj,cond_false])
 rw[vM (p:=fun t=>ltE d.Norm d.Map t=true)] at h;have hb:ts.all (ltE d.Norm d.Map)=true↔∀t∈ts,ltE d.Norm d.Map t=true:=by simp
 rcases h with ⟨h,p⟩ | ⟨y,rfl,h,p⟩;rw[h,hb.2 p];rfl;have:ts.all (ltE d.Norm d.Map)=false:=by rw[Bool.eq_false_iff];exact fun q=>p (hb.1 q)
 rw[h,this];rfl
theorem z3Q {n:Norm} (hs:NSm n) (hok:vV n) {t:List Int} {e:Int} (he:e∈zBD n false t):fu (usN n).Decomp false e= [e]:=by have he':e∈zEO n false t:=(zLU (key:=clE (usN n).Classes) (zEO n false t)).mem_iff.1 he;unfold zEO at he';obtain⟨x,_,hx⟩:=List.mem_flatMap.1 he';exact(zKO hs hok).leaf hx
theorem zTD {n:Norm} {t:List Int} {e:Int}:e∈zBD n false t↔∃x∈t,e∈fu (usN n).Decomp false x:=by have:=(zLU (key:=clE (usN n).Classes) (zEO n false t)).mem_iff (a:=e);show e∈csE (clE (usN n).Classes) (zEO n false t)↔_;rw[this];unfold zEO;exact List.mem_flatMap
end Go.M
namespace Go.M
open Go.AV
noncomputable def zMU (n:Norm) (l:List Mapping):Bool:=(vL l).all fun m=>!(m.Tag== []) ||(zBD n false m.To).all fun x=>(fdE (vL l) x).isNone
theorem zVY (l:List Mapping) (m:Mapping) (c:Int):(fdE (l++ [m]) c).isSome=((fdE l c).isSome ||(decide (m.From=c)&&(m.Tag== []))):=by
 unfold fdE;rw[List.find?_append,List.find?_cons];cases l.find? (fun m=>decide (m.From=c)&&(m.Tag== [])) with
 | some q=>rfl
 | none=>
  cases decide (m.From=c)&&(m.Tag== [])<;>rfl
theorem z0K {ν:Type} (m:List (Int×ν)) (k c:Int) (v z: ν):xM (wD m k v) c z=if c=k then v else xM m c z:=by unfold xM;rw[xU];split<;>rfl
theorem z9N {l:List Mapping} (hl:l.length≤20):∀(n k:Nat) (r:List (Int×Bool)),l.length-k=n→k≤l.length→(∀c,xM r c false=(fdE (l.take k) c).isSome)→
  ∃r',zX (fun (x:Int×(List (Int×Bool)))=>xE l x.1 x.2) ((k:Int),r)=some r'∧∀c,xM r' c false=(fdE l c).isSome:=by
 intro n
 induction n with
 | zero=>
  intro k r hk hk2 hr;refine⟨r,yJ (by simp only[xE,jP (show l.length≤k by omega),cond_false]),fun c=>?_⟩;rw[hr c,List.take_of_length_le (by omega)]
 | succ n ih=>
  intro k r hk hk2 hr;have hlt:k<l.length:=by omega
  have htk:l.take (k+1)=l.take k++ [l[k]]:=by rw[List.take_add_one,List.getElem?_eq_getElem hlt];rfl
  cases ht:(l[k].Tag== []) with
  | true=>
   obtain⟨r',h1,h2⟩:=ih (k+1) (wD r l[k].From true) (by omega) (by omega) (fun c=>by
    rw[z0K,htk,zVY,ht,Bool.and_true,hr c];by_cases e:c=l[k].From
    ·simp[e]
    ·have e2:¬l[k].From=c:=fun q=>e q.symm
     simp[e,e2])
   refine⟨r',?_,h2⟩;rw[yS (x':=(((k+1:Nat):Int),wD r l[k].From true)) ?_]
   ·exact h1
   ·simp only[xE,jF hlt,cond_true,kL hlt,zH,ht,yC (k:=k) (by omega)]
  | false=>
   obtain⟨r',h1,h2⟩:=ih (k+1) r (by omega) (by omega) (fun c=>by rw[htk,zVY,ht,Bool.and_false,Bool.or_false,hr c]);refine⟨r',?_,h2⟩;rw[yS (x':=(((k+1:Nat):Int),r)) ?_]
   ·exact h1
   ·simp only[xE,jF hlt,cond_true,kL hlt,zH,ht,cond_false,yC (k:=k) (by omega)]
section
variable {n:Norm} (hs:NSm n) (hok:vV n) {l:List Mapping} (hl:SmL l)
include hs hok hl
omit hs hok hl in
theorem zTE:zMU n l=true↔∀m∈vL l,m.Tag= []→∀x∈zBD n false m.To,fdE (vL l) x=none:=by
 unfold zMU;simp only[List.all_eq_true,Bool.or_eq_true,Bool.not_eq_true',zQL,decide_eq_false_iff_not,Option.isNone_iff_eq_none];constructor;intro h m hm ht x hx;rcases h m hm with q | q
 exact absurd ht q;exact q x hx;intro h m hm;by_cases ht:m.Tag= [];exact .inr fun x hx=>h m hm ht x hx;exact .inl ht
theorem zRR:wJ n l=some (zMU n l):=by
 unfold wJ;obtain⟨e,he,hp⟩:=hl.ver;rw[he,zH];by_cases hz:e=0;have hv:=hp.1 hz;have e1:vL l=l:=zPP hv;obtain⟨r,h1,h2⟩:=z9N (l:=l) hl.n l.length 0 [] (by omega) (by omega) (fun c=>by simp[xM,mget,fdE]);have h1':zX (fun (x:Int×(List (Int×Bool)))=>xE l x.1 x.2) (0,[])=some r:=h1;simp only[hz,decide_true,Bool.not_true,cond_false,h1',zH];have hn:=hl.n;have h:=kX (body:=fun (x:Int)=>wC l n r x) l.length (fun j=>(nth l j).Tag= []→∀x∈zBD n false (nth l j).To,fdE l x=none) (fun y=>y=false) (fun j hj=>by
  have hto:=hl.to _ (x4 hj);simp only[wC,jF hj,cond_true,yO hj,zH,yC (k:=j) (by omega)];by_cases ht:(nth l j).Tag= [];have ht':((nth l j).Tag== [])=true:=by rw[zQL];simp[ht]
  have hd:=zYS hs hok (nth l j).To;simp only[ht',Bool.not_true,cond_false,zTB hs hok (t:=(nth l j).To) (by omega),zH];have h3:=kX (body:=fun (x:Int)=>wB (zBD n false (nth l j).To) r x) (zBD n false (nth l j).To).length (fun i=>fdE l (nth (zBD n false (nth l j).To) i)=none) (fun y=>y=false) (fun i hi=>by
   simp only[wB,jF hi,cond_true,yO hi,zH,h2,yC (k:=i) (by omega)];refine wQ ?_ rfl;cases fdE l (nth (zBD n false (nth l j).To) i)<;>simp) (fun i hi=>by simp only[wB,jP hi,cond_false])
  rw[vM (p:=fun x=>fdE l x=none)] at h3;rcases h3 with ⟨h3,p⟩ | ⟨y,hy,h3,p⟩
  rw[h3];exact .inl ⟨fun _=>p,rfl⟩;rw[h3];exact .inr ⟨fun q=>p (q ht),y,hy,rfl⟩;have ht':((nth l j).Tag== [])=false:=by rw[zQL];simp[ht]
  simp only[ht',Bool.not_false,cond_true];exact .inl ⟨fun q=>absurd q ht,rfl⟩) (fun j hj=>by simp only[wC,jP hj,cond_false])
 rw[vM (p:=fun (m:Mapping)=>m.Tag= []→∀x∈zBD n false m.To,fdE l x=none)] at h;have hb:=zTE (n:=n) (l:=l);rw[e1] at hb;rcases h with ⟨h,p⟩ | ⟨y,rfl,h,p⟩
 rw[h,hb.2 p];rfl;have:zMU n l=false:=by rw[Bool.eq_false_iff];exact fun q=>p (hb.1 q)
 rw[h,this];rfl;have hv:¬MV l:=fun h=>hz (hp.2 h);have e1:vL l= []:=zW0 hv;have e2:zMU n l=true:=by unfold zMU;rw[e1];rfl
 simp[hz,e2]
theorem zW2:zEB n l=some (zMU n l):=by
 unfold zEB;obtain⟨e,he,hp⟩:=hl.verR;rw[he,zH];by_cases hz:e=0;have hv:=hp.1 hz;have e1:vL l=l:=zPP hv;have hF:=z3K hl;rw[e1] at hF;have hget:∀x,zHW l x []=some (match fdE l x with | some m=>(m.To,true) | none=>([],false)):=fun x=>by
  unfold zHW;rw[zYR hl,zH,e1,zVU hF];rfl
 simp only[hz,decide_true,Bool.not_true,cond_false];have hn:=hl.n;have h:=kX (body:=fun (x:Int)=>zA2 l n x) l.length (fun j=>(nth l j).Tag= []→∀x∈zBD n false (nth l j).To,fdE l x=none) (fun y=>y=false) (fun j hj=>by
  have hto:=hl.to _ (x4 hj);simp only[zA2,jF hj,cond_true,yO hj,zH,yC (k:=j) (by omega)];by_cases ht:(nth l j).Tag= [];have ht':((nth l j).Tag== [])=true:=by rw[zQL];simp[ht]
  have hd:=zYS hs hok (nth l j).To;simp only[ht',Bool.not_true,cond_false,zJH hs hok (t:=(nth l j).To) (by omega),zH];have h3:=kX (body:=fun (x:Int)=>zA1 (zBD n false (nth l j).To) l x) (zBD n false (nth l j).To).length (fun i=>fdE l (nth (zBD n false (nth l j).To) i)=none) (fun y=>y=false) (fun i hi=>by
   simp only[zA1,jF hi,cond_true,yO hi,zH,hget,yC (k:=i) (by omega)];refine wQ ?_ rfl;cases fdE l (nth (zBD n false (nth l j).To) i)<;>simp) (fun i hi=>by simp only[zA1,jP hi,cond_false])
  rw[vM (p:=fun x=>fdE l x=none)] at h3;rcases h3 with ⟨h3,p⟩ | ⟨y,hy,h3,p⟩
  rw[h3];exact .inl ⟨fun _=>p,rfl⟩;rw[h3];exact .inr ⟨fun q=>p (q ht),y,hy,rfl⟩;have ht':((nth l j).Tag== [])=false:=by rw[zQL];simp[ht]
  simp only[ht',Bool.not_false,cond_true];exact .inl ⟨fun q=>absurd q ht,rfl⟩) (fun j hj=>by simp only[zA2,jP hj,cond_false])
 rw[vM (p:=fun (m:Mapping)=>m.Tag= []→∀x∈zBD n false m.To,fdE l x=none)] at h;have hb:=zTE (n:=n) (l:=l);rw[e1] at hb;rcases h with ⟨h,p⟩ | ⟨y,rfl,h,p⟩
 rw[h,hb.2 p];rfl;have:zMU n l=false:=by rw[Bool.eq_false_iff];exact fun q=>p (hb.1 q)
 rw[h,this];rfl;have hv:¬MV l:=fun h=>hz (hp.2 h);have e1:vL l= []:=zW0 hv;have e2:zMU n l=true:=by unfold zMU;rw[e1];rfl
 simp[hz,e2]
omit hl in
theorem zVZ (h:zMU n l=true) (t:List Int):skE n l (skE n l t)=skE n l t:=by
 have hb:=zTE.1 h;have e0:zBD n false (skE n l t)=skE n l t:=zZ2 hs hok false _;have key:∀x∈skE n l t,apE (vL l) x= [x]:=by
  intro x hx;refine zL0 ?_;obtain⟨y,hy,hxy⟩:=zTD.1 (show x∈zBD n false (mpE n l t) from hx);unfold mpE at hy;obtain⟨z,hz,hyz⟩:=List.mem_flatMap.1 hy;cases hf:fdE (vL l) z with
  | none=>
   rw[zL0 hf] at hyz;simp only[List.mem_singleton] at hyz;subst hyz;rw[z3Q hs hok hz] at hxy;simp only[List.mem_singleton] at hxy;rw[hxy];exact hf
  | some m=>
   rw[zVT hf] at hyz;obtain⟨hm,_,ht⟩:=zPQ hf;exact hb m hm ht x (zTD.2 ⟨y,hyz,hxy⟩)
 have e1:mpE n l (skE n l t)=skE n l t:=by
  unfold mpE;rw[e0];exact zSZ key
 show zBD n false (mpE n l (skE n l t))=_;rw[e1,e0]
end
end Go.M
namespace Go.M
open Go.AV
theorem z3R {a b:List Str} (hl:a.length=b.length):(∀j,j<a.length→nth a j=nth b j)↔a=b:=by
 constructor;intro h;apply List.ext_getElem hl;intro i h1 h2;have:=h i h1
 rwa [uF h1,uF h2] at this
 intro h j _;rw[h]
theorem z3S {a b:List Str} (ha:a.length≤1000000):xS a b=some (decide (a=b)):=by
 unfold xS;by_cases hl:a.length=b.length;have h0:(!decide ((a.length:Int)=(b.length:Int)))=false:=by simp[hl]
 rw[h0,cond_false];have h:=kX (body:=fun (x:Int)=>jX a b x) a.length (fun j=>nth a j=nth b j) (fun y=>y=false) (fun j hj=>by
  have hj':j<b.length:=by omega
  simp only[jX,jF hj,cond_true,yO hj,yO hj',zH,yC (k:=j) (by omega),zQL];exact wQ (by simp) rfl) (fun j hj=>by simp only[jX,jP hj,cond_false])
 rw[z3R hl] at h;rcases h with ⟨h,p⟩ | ⟨y,rfl,h,p⟩
 rw[h];simp[p];rw[h];simp[p];have h0:(!decide ((a.length:Int)=(b.length:Int)))=true:=by simp;omega
 rw[h0,cond_true];have:a≠b:=fun e=>hl (by rw[e]);simp[this]
def kdE (x y:List Str):Int:=if x.length≠y.length∨1<x.length then 3 else if x=y then 1 else 2
noncomputable def kE (n:Norm) (l:List Mapping) (p:Property) (a b:List Int):Int:=if skE n l a=skE n l b then kdE (ofP p a) (ofP p b) else 0
section
variable {n:Norm} (hs:NSm n) (hok:vV n) {l:List Mapping} (hl:SmL l) {p:Property} (hp:Sm p)
include hs hok hl hp
theorem zV0 {a b:List Int} (ha:a.length≤400) (hb:b.length≤400) (la:ltE n l a=true) (lb:ltE n l b=true):wO n l p a b=some (kE n l p a b):=by
 have h1:=zYQ p hp a (by omega);have h2:=zYQ p hp b (by omega);unfold wO kE;rw[zVX hs hok hl ha hb la lb,zH];by_cases e:skE n l a=skE n l b;rw[if_pos e];simp only[e,decide_true,Bool.not_true,cond_false,z6S p hp a (by omega),z6S p hp b (by omega),zH,yF,z3S (a:=ofP p a) (b:=ofP p b) (by omega)];unfold kdE;by_cases h3:(ofP p a).length≠(ofP p b).length∨1<(ofP p a).length;have e3:(!decide (((ofP p a).length:Int)=((ofP p b).length:Int)) ||decide (1<((ofP p a).length:Int)))=true:=by simp;omega
 rw[if_pos h3,e3];rfl;have e3:(!decide (((ofP p a).length:Int)=((ofP p b).length:Int)) ||decide (1<((ofP p a).length:Int)))=false:=by simp;omega
 rw[if_neg h3,e3,cond_false];by_cases e4:ofP p a=ofP p b;rw[if_pos e4];simp only[e4,decide_true];rfl;rw[if_neg e4];simp only[e4,decide_false];rfl;rw[if_neg e];simp[e]
end
open Go.Lib (decDigits itoa)
theorem zTF (u:Nat):∀d∈decDigits u,48≤d.toNat∧d.toNat≤57:=by
 induction u using Nat.strongRecOn with
 | ind u ih=>
  rw[decDigits];split;intro d hd;simp only[List.mem_singleton] at hd;subst hd;simp[UInt8.toNat_ofNat'];omega;intro d hd;rcases List.mem_append.1 hd with hd | hd
  exact ih (u/10) (by omega) d hd;simp only[List.mem_singleton] at hd;subst hd;simp[UInt8.toNat_ofNat'];omega
def vdd (l:List UInt8):Nat:=l.foldl (fun a d=>10*a+(d.toNat-48)) 0
theorem z3T (u:Nat):vdd (decDigits u)=u:=by
 induction u using Nat.strongRecOn with
 | ind u ih=>
  rw[decDigits];split;simp[vdd,UInt8.toNat_ofNat'];omega;have:=ih (u/10) (by omega);unfold vdd at this ⊢;rw[List.foldl_append,this];simp[UInt8.toNat_ofNat'];omega
theorem z3U {u v:Nat} (h:decDigits u=decDigits v):u=v:=by rw[←z3T u,h,z3T]
theorem zV1 {n:Int} {d:UInt8} (h:d∈itoa n):d≠32:=by
 unfold itoa at h;intro e;subst e;split at h;rcases List.mem_cons.1 h with h | h
 exact absurd h (by decide);have:=zTF _ _ h;exact absurd this (by decide);have:=zTF _ _ h;exact absurd this (by decide)
theorem z3V {a b:Int} (h:itoa a=itoa b):a=b:=by
 unfold itoa at h;split at h;split at h;have:=z3U (List.cons.inj h).2;omega;have h2:(45:UInt8)∈decDigits b.toNat:=by rw[←h];exact List.mem_cons_self
 exact absurd (zTF _ _ h2) (by decide);split at h;have h2:(45:UInt8)∈decDigits a.toNat:=by rw[h];exact List.mem_cons_self
 exact absurd (zTF _ _ h2) (by decide);have:=z3U h;omega
theorem zNC:∀{x y u v:List UInt8},(∀d∈x,d≠32)→(∀d∈y,d≠32)→x++32::u=y++32::v→x=y∧u=v
 | [],[],_,_,_,_,h=>⟨rfl,(List.cons.inj h).2⟩
 | [],c::y,_,_,_,hy,h=>absurd (List.cons.inj h).1.symm (hy c List.mem_cons_self)
 | c::x,[],_,_,hx,_,h=>absurd (List.cons.inj h).1 (hx c List.mem_cons_self)
 | c::x,d::y,u,v,hx,hy,h=>by
  obtain⟨h1,h2⟩:=List.cons.inj h;obtain⟨e1,e2⟩:=zNC (fun d hd=>hx d (List.mem_cons_of_mem _ hd)) (fun d hd=>hy d (List.mem_cons_of_mem _ hd)) h2;exact⟨by rw[h1,e1],e2⟩
theorem zV2:∀{a b:List Int},keyB a=keyB b→a=b
 | [],[],_=>rfl
 | [],y::b,h=>by
  have:=congrArg List.length h;simp[keyB] at this
 | x::a,[],h=>by
  have:=congrArg List.length h;simp[keyB] at this
 | x::a,y::b,h=>by
  have h':itoa x++32::keyB a=itoa y++32::keyB b:=by
   have e:∀(z:Int) (c:List Int),keyB (z::c)=itoa z++32::keyB c:=fun z c=>by simp[keyB]
   rw[←e,←e];exact h
  obtain⟨h1,h2⟩:=zNC (fun d hd=>zV1 hd) (fun d hd=>zV1 hd) h';rw[z3V h1,zV2 h2]
end Go.M
namespace Go.M
open Go.AV
def rg (x:Int):Prop:= -9223372036854775808≤x∧x≤9223372036854775807
theorem z6U {c e:Int} (hc:rg c) (he:e∈hdE c):rg e:=by
 unfold hdE at he;split at he;rename_i hs;unfold syl at hs;simp only[Bool.and_eq_true,decide_eq_true_eq] at hs;unfold rg;rcases List.mem_append.1 he with h | h
 simp only[List.mem_cons,List.not_mem_nil,or_false] at h;rcases h with rfl | rfl<;>omega
 split at h;simp only[List.mem_singleton] at h;subst h;omega;cases h;simp only[List.mem_singleton] at he;rw[he];exact hc
theorem z6V {l:List Mapping} {b:Bool} (hl:∀m∈l,∀y∈m.To,rg y):∀(k:Nat) (c:Int),rg c→∀e∈exF l b k c,rg e
 | 0,c,hc,e,he=>z6U hc he
 | k+1,c,hc,e,he=>by
  unfold exF at he;split at he;rename_i to hf;obtain⟨y,hy,hey⟩:=List.mem_flatMap.1 he;obtain⟨m,hm,rfl,_⟩:=zFP hf;exact z6V hl k y (hl m (zDV hm).1 y hy) e hey;exact z6U hc he
theorem z9O {n:Norm} (hok:vV n):∀m∈(usN n).Decomp,∀y∈m.To,rg y:=by intro m hm y hy;unfold usN at hm;split at hm;exact(hok.2.1.2 m hm).2.1.2 y hy;cases hm
theorem z3W {n:Norm} (hok:vV n) {t:List Int} (ht:∀x∈t,rg x):∀x∈zBD n false t,rg x:=by intro x hx;obtain⟨y,hy,hxy⟩:=zTD.1 hx;exact z6V (z9O hok) _ y (ht y hy) x hxy
theorem z9P {n:Norm} (hok:vV n) {l:List Mapping} (hl:∀m∈l,zER m) {t:List Int} (ht:∀x∈t,rg x):∀x∈skE n l t,rg x:=by refine z3W hok fun y hy=>?_;unfold mpE at hy;obtain⟨z,hz,hyz⟩:=List.mem_flatMap.1 hy;unfold apE at hyz;split at hyz;rename_i m hm;exact(hl m (z8Q (zPQ hm).1)).2.1.2 y hyz;simp only[List.mem_singleton] at hyz;rw[hyz];exact z3W hok ht z hz
def gS (S:List (List Int)) (i:Nat):List Int:=S.getD i []
def zDI (S:List (List Int)) (i:Nat):Bool:=(List.range i).all fun j=>!decide (gS S j=gS S i)
def ownU (S:List (List Int)) (i k:Nat):List Int:=((List.range k).filter fun j=>decide (gS S i=gS S j)).map fun (j:Nat)=>(j:Int)
def fsts (S:List (List Int)) (k:Nat):List Nat:=(List.range k).filter (zDI S)
def zIY (S:List (List Int)):List (List Int):=((fsts S S.length).map fun i=>ownU S i S.length).filter zJC
section
variable {S:List (List Int)}
theorem zGC {i:Nat}:zDI S i=true↔∀j,j<i→gS S j≠gS S i:=by unfold zDI;simp
theorem zPR {i k:Nat}:i∈fsts S k↔i<k∧zDI S i=true:=by unfold fsts;simp
theorem zMV (k:Nat):fsts S (k+1)=fsts S k++if zDI S k=true then [k] else []:=by unfold fsts;rw[List.range_succ,List.filter_append];congr 1;by_cases h:zDI S k=true<;>simp[h]
theorem zH3 (i k:Nat):ownU S i (k+1)=ownU S i k++if gS S i=gS S k then [(k:Int)] else []:=by unfold ownU;rw[List.range_succ,List.filter_append,List.map_append];congr 1;by_cases h:gS S i=gS S k<;>simp[h]
theorem zW3 (k:Nat):(fsts S k).Nodup:=List.Nodup.sublist List.filter_sublist List.nodup_range
theorem zW4 {i j:Nat} (hi:zDI S i=true) (hj:zDI S j=true) (h:gS S i=gS S j):i=j:=by rcases Nat.lt_trichotomy i j with q | q | q;exact absurd h (zGC.1 hj i q);exact q;exact absurd h.symm (zGC.1 hi j q)
theorem z3X {i:Nat} (hi:zDI S i=true):ownU S i i= []:=by unfold ownU;rw[List.map_eq_nil_iff,List.filter_eq_nil_iff];intro j hj h;simp only[decide_eq_true_eq] at h;exact zGC.1 hi j (List.mem_range.1 hj) h.symm
theorem zPS (i k:Nat):(ownU S i k).length≤k:=by
 unfold ownU;rw[List.length_map];have:=List.length_filter_le (fun j=>decide (gS S i=gS S j)) (List.range k)
 rwa [List.length_range] at this
structure GIv (S:List (List Int)) (k:Nat) (s:List (Str×Int)×List (List Int)):Prop where
 gs:s.2=(fsts S k).map fun i=>ownU S i k
 some:∀x g,mget s.1 (keyB x)= .some g→∃(q:Nat) (i:Nat),g=(q:Int)∧(fsts S k)[q]? = .some i∧gS S i=x
 none:∀x,mget s.1 (keyB x)= .none→∀i,i<k→gS S i≠x
theorem z3Y {k:Nat} {s:List (Str×Int)×List (List Int)} (h:GIv S k s):GIv S (k+1) (zF2 s (keyB (gS S k)) k):=by
 unfold zF2;cases hg:mget s.1 (keyB (gS S k)) with
 | some g=>
  obtain⟨q,i,rfl,hq,hi⟩:=h.some _ _ hg;have him:=zPR.1 (List.mem_of_getElem? hq);have hf:zDI S k=false:=by
   rw[Bool.eq_false_iff];exact fun hh=>zGC.1 hh i him.1 hi
  have hfs:fsts S (k+1)=fsts S k:=by rw[zMV,hf];simp
  have hql:q<(fsts S k).length:=(List.getElem?_eq_some_iff.1 hq).1;refine⟨?_,fun x g hx=>?_,fun x hx j hj=>?_⟩;dsimp only;rw[hfs,h.gs,Int.toNat_natCast];refine List.ext_getElem? fun r=>?_;simp only[List.getElem?_set,List.getElem?_map];by_cases e:q=r;subst e;rw[if_pos rfl,if_pos (by simpa using hql),hq,List.getD_eq_getElem?_getD,List.getElem?_map,hq];simp only[Option.map_some,Option.getD_some];rw[zH3,if_pos hi];rw[if_neg e];cases hr:(fsts S k)[r]? with
  | none=>rfl
  | some i'=>
   have him':=zPR.1 (List.mem_of_getElem? hr);have hne:gS S i'≠gS S k:=fun e2=>by
    have e3:=zW4 him'.2 him.2 (e2.trans hi.symm);subst e3;have hrl:=(List.getElem?_eq_some_iff.1 hr).1;have h1:=(List.getElem?_eq_some_iff.1 hr).2;have h2:=(List.getElem?_eq_some_iff.1 hq).2;exact e ((List.getElem_inj (zW3 k)).1 (h2.trans h1.symm))
   simp only[Option.map_some];rw[zH3,if_neg hne,List.append_nil]
  rw[hfs];exact h.some x g hx;rcases Nat.lt_succ_iff_lt_or_eq.1 hj with q | rfl
  exact h.none x hx j q;intro e;dsimp only at hx;rw[←e,hg] at hx;cases hx
 | none=>
  have hn:=h.none _ hg;have hf:zDI S k=true:=zGC.2 hn;have hfs:fsts S (k+1)=fsts S k++ [k]:=by rw[zMV,hf];simp
  have hlen:s.2.length=(fsts S k).length:=by rw[h.gs,List.length_map]
  refine⟨?_,fun x g hx=>?_,fun x hx j hj=>?_⟩;dsimp only;rw[hfs,List.map_append,h.gs];congr 1;refine List.map_congr_left fun i hi=>?_;rw[zH3,if_neg (hn i (zPR.1 hi).1),List.append_nil];simp only[List.map_cons,List.map_nil];rw[zH3,if_pos rfl,z3X hf,List.nil_append];dsimp only at hx;rw[xU] at hx;split at hx;rename_i e;cases hx;refine⟨s.2.length,k,rfl,?_,(zV2 e).symm⟩;rw[hfs,hlen,List.getElem?_append_right (Nat.le_refl _),Nat.sub_self];rfl;obtain⟨q,i,e1,e2,e3⟩:=h.some x g hx;refine⟨q,i,e1,?_,e3⟩;rw[hfs,List.getElem?_append_left (List.getElem?_eq_some_iff.1 e2).1];exact e2;dsimp only at hx;rw[xU] at hx;split at hx;cases hx;rename_i e;rcases Nat.lt_succ_iff_lt_or_eq.1 hj with q | rfl
  exact h.none x hx j q;exact fun e2=>e (by rw[e2])
theorem z8S (j:Nat):(S.map keyB).getD j []=keyB (gS S j):=by unfold gS;rw[List.getD_eq_getElem?_getD,List.getD_eq_getElem?_getD,List.getElem?_map];cases S[j]? <;> rfl
theorem giv:∀k,GIv S k (zHV (S.map keyB) k)
 | 0=>⟨rfl,fun x g hx=>(by cases hx),fun x _ i hi=>(by omega)⟩
 | k+1=>by
  show GIv S (k+1) (zF2 (zHV (S.map keyB) k) ((S.map keyB).getD k []) k);rw[z8S];exact z3Y (giv k)
theorem z8T:zWN (S.map keyB)=zIY S:=by unfold zWN zIY;rw[List.length_map,(giv S.length).gs]
def bU (S:List (List Int)) (i k:Nat):Bool:=(List.range k).all fun j=>!decide (gS S i=gS S j) ||decide (i≤j)
theorem z57 (i k:Nat):bU S i (k+1)=(bU S i k&&(!decide (gS S i=gS S k) ||decide (i≤k))):=by unfold bU;rw[List.range_succ,List.all_append];simp
theorem z3Z {i:Nat} (hi:i<S.length):bU S i S.length=zDI S i:=by
 rw[Bool.eq_iff_iff,zGC];unfold bU;simp only[List.all_eq_true,List.mem_range,Bool.or_eq_true,Bool.not_eq_true',decide_eq_false_iff_not,decide_eq_true_eq];constructor;intro h j hj e;rcases h j (by omega) with q | q
 exact q e.symm;omega;intro h j hj;by_cases q:i≤j;exact .inr q;exact .inl fun e=>h j (by omega) e.symm
end
section
variable {n:Norm} (hs:NSm n) (hok:vV n) {l:List Mapping} (hl:SmL l) {ts:List (List Int)} (hn:ts.length≤8) (ht:∀t∈ts,t.length≤400) (hlt:∀t∈ts,ltE n l t=true)
include hs hok hl hn ht hlt
omit hs hok hl hn ht hlt in
theorem z30 {i:Nat} (hi:i<ts.length):gS (ts.map (skE n l)) i=skE n l ts[i]:=by unfold gS;rw[List.getD_eq_getElem?_getD,List.getElem?_map,List.getElem?_eq_getElem hi];rfl
theorem z58 {i:Nat} (hi:i<ts.length):∀(m k:Nat),ts.length-k=m→k≤ts.length→
  zX (fun (x:Bool×Int×(List Int))=>uU ts (i:Int) n l x.1 x.2.1 x.2.2) (bU (ts.map (skE n l)) i k,((k:Int),ownU (ts.map (skE n l)) i k))=some (bU (ts.map (skE n l)) i ts.length,ownU (ts.map (skE n l)) i ts.length):=by
 intro m
 induction m with
 | zero=>
  intro k hk hk2;have:k=ts.length:=by omega
  subst this;exact yJ (by simp only[uU,jP (Nat.le_refl _),cond_false])
 | succ m ih=>
  intro k hk hk2;have hk':k<ts.length:=by omega
  have h1:=zPS (S:=ts.map (skE n l)) i k;rw[yS (x':=(bU (ts.map (skE n l)) i (k+1),(((k+1:Nat):Int),ownU (ts.map (skE n l)) i (k+1)))) ?_]
  ·exact ih (k+1) (by omega) (by omega)
  ·simp only[uU,jF hk',cond_true,kL hi,kL hk',zH,z0J hs hok hl (ht _ (List.getElem_mem hi)) (ht _ (List.getElem_mem hk')) (hlt _ (List.getElem_mem hi)) (hlt _ (List.getElem_mem hk')),yC (k:=k) (by omega),z57,zH3,z30 hi,z30 hk']
   by_cases e:skE n l ts[i]=skE n l ts[k]
   ·simp only[e,decide_true,cond_true,zBK (show (ownU (ts.map (skE n l)) i k).length+ [(k:Int)].length≤4294967296 by simp;omega),zH,yF,Bool.not_true,Bool.false_or,if_true]
    congr 3;congr 1;apply decide_eq_decide.2;omega
   ·simp only[e,decide_false,cond_false,zH,Bool.not_false,Bool.true_or,Bool.and_true,if_false,List.append_nil]
theorem z59:∀(m k:Nat),ts.length-k=m→k≤ts.length→
  zX (fun (x:Int×(List (List Int)))=>uV ts n l x.1 x.2) ((k:Int),((fsts (ts.map (skE n l)) k).map fun i=>ownU (ts.map (skE n l)) i ts.length).filter zJC)=some (zIY (ts.map (skE n l))):=by
 intro m
 induction m with
 | zero=>
  intro k hk hk2;have:k=ts.length:=by omega
  subst this;rw[yJ (y:=((fsts (ts.map (skE n l)) ts.length).map fun i=>ownU (ts.map (skE n l)) i ts.length).filter zJC) (by simp only[uV,jP (Nat.le_refl _),cond_false])];unfold zIY;rw[List.length_map]
 | succ m ih=>
  intro k hk hk2;have hk':k<ts.length:=by omega
  have h0:zX (fun (x:Bool×Int×(List Int))=>uU ts (k:Int) n l x.1 x.2.1 x.2.2) (true,0,[])=some (bU (ts.map (skE n l)) k ts.length,ownU (ts.map (skE n l)) k ts.length):=z58 hs hok hl hn ht hlt hk' ts.length 0 (by omega) (by omega);have hb:bU (ts.map (skE n l)) k ts.length=zDI (ts.map (skE n l)) k:=by
   have:=z3Z (S:=ts.map (skE n l)) (i:=k) (by simpa using hk')
   rwa [List.length_map] at this
  have hfl:(((fsts (ts.map (skE n l)) k).map fun i=>ownU (ts.map (skE n l)) i ts.length).filter zJC).length≤k:=by
   refine Nat.le_trans (List.length_filter_le _ _) ?_;rw[List.length_map];have:=List.length_filter_le (zDI (ts.map (skE n l))) (List.range k)
   rwa [List.length_range] at this
  have hol:=zPS (S:=ts.map (skE n l)) k ts.length;rw[yS (x':=(((k+1:Nat):Int),((fsts (ts.map (skE n l)) (k+1)).map fun i=>ownU (ts.map (skE n l)) i ts.length).filter zJC)) ?_]
  ·exact ih (k+1) (by omega) (by omega)
  ·simp only[uV,jF hk',cond_true,h0,zH,yF,hb,yC (k:=k) (by omega),zMV,List.map_append,List.filter_append]
   have hlong:decide ((1:Int)<((ownU (ts.map (skE n l)) k ts.length).length:Int))=zJC (ownU (ts.map (skE n l)) k ts.length):=by
    unfold zJC;apply decide_eq_decide.2;omega
   rw[hlong];cases hf:zDI (ts.map (skE n l)) k with
   | false=>simp
   | true=>
    cases hg:zJC (ownU (ts.map (skE n l)) k ts.length) with
    | false=>simp[hg]
    | true=>
     rw[Bool.and_self,cond_true,zBK (by simp;omega)]
     simp[hg]
theorem zW5:zEA n l ts=some (zIY (ts.map (skE n l))):=by unfold zEA;have h:zX (fun (x:Int×(List (List Int)))=>uV ts n l x.1 x.2) (0,[])=some (zIY (ts.map (skE n l))):=z59 hs hok hl hn ht hlt ts.length 0 (by omega) (by omega);rw[h];rfl
theorem zRS (hm:∀m∈l,zER m) (hr:∀t∈ts,∀x∈t,rg x):wI n l ts=some (zIY (ts.map (skE n l))):=by
 unfold wI;rw[if_pos (by omega)];have key:∀(u:List (List Int)),(∀t∈u,t∈ts)→(u.mapM fun t=>(kM n l t).bind x7)=some ((u.map (skE n l)).map keyB):=by
  intro u
  induction u with
  | nil=>intro _;rfl
  | cons t u ih=>
   intro hu;have h1:=hu t List.mem_cons_self;have hk:x7 (skE n l t)=some (keyB (skE n l t)):=by
    unfold x7 z7K;have:=zTC (hlt t h1);rw[if_pos ⟨by omega,fun i hi=>z9P hok hm (hr t h1) i hi⟩]
   rw[List.mapM_cons,zL1 hs hok hl (ht t h1) (hlt t h1),zH,hk,ih fun t' h'=>hu t' (List.mem_cons_of_mem _ h')];rfl
 rw[key ts fun _ h=>h];show some (zWN ((ts.map (skE n l)).map keyB))=_;rw[z8T]
end
theorem z32 {S:List (List Int)}:(zIY S).length≤S.length:=by
 unfold zIY;refine Nat.le_trans (List.length_filter_le _ _) ?_;rw[List.length_map];have:=List.length_filter_le (zDI S) (List.range S.length)
 rwa [List.length_range] at this
theorem z0L {S:List (List Int)} {g:List Int} (h:g∈zIY S):g.length≤S.length:=by unfold zIY at h;obtain⟨i,_,rfl⟩:=List.mem_map.1 (List.mem_filter.1 h).1;exact zPS i _
end Go.M
namespace Go.M
open Go.AV
abbrev n41:Norm:={Classes:=[],Decomp:=[],Excluded:={Ranges:=[]}}
abbrev l41:List Mapping:=[{From:=1072,To:=[97],Tag:=[]}]
abbrev p41:Property:={Names:=[[79,116,104,101,114],[76,97,116,105,110],[67,121,114,105,108,108,105,99]],Spans:=[{Lo:=97,Hi:=122,Value:=1},{Lo:=1072,Hi:=1103,Value:=2}]}
theorem zPT:NSm n41:=⟨by decide,by decide,fun m hm=>(by cases hm),fun m hm=>(by cases hm),by decide⟩
theorem zPU:vV n41:=by unfold vV zXP;simp
theorem zPV:SmL l41:=⟨by decide,by simp,by simp⟩
theorem zTH:MV l41:=by refine⟨fun m hm=>?_,fun m hm=>?_,fun m hm=>?_,fun k hk=>by simp at hk⟩;simp only[List.mem_singleton] at hm;subst hm;unfold codesOk;decide;simp only[List.mem_singleton] at hm;subst hm;decide;simp only[List.mem_singleton] at hm;subst hm;exact .inl rfl
theorem yAJ:usN n41=n41:=by unfold usN;split<;>rfl
theorem zKA {x:Int} (h:x=97∨x=98∨x=1072):zBD n41 false [x]= [x]:=by
 unfold zBD zEO;rw[yAJ];rcases h with rfl | rfl | rfl<;>rfl
theorem yAK:skE n41 l41 [97]= [97]∧skE n41 l41 [98]= [98]∧skE n41 l41 [1072]= [97]∧ltE n41 l41 [97]=true∧ltE n41 l41 [98]=true∧ltE n41 l41 [1072]=true:=by
 have m1:mpE n41 l41 [97]= [97]:=by unfold mpE;rw[zKA (.inl rfl),zPP zTH];rfl
 have m2:mpE n41 l41 [98]= [98]:=by unfold mpE;rw[zKA (.inr (.inl rfl)),zPP zTH];rfl
 have m3:mpE n41 l41 [1072]= [97]:=by unfold mpE;rw[zKA (.inr (.inr rfl)),zPP zTH];rfl
 have s1:skE n41 l41 [97]= [97]:=by unfold skE;rw[m1,zKA (.inl rfl)]
 have s2:skE n41 l41 [98]= [98]:=by unfold skE;rw[m2,zKA (.inr (.inl rfl))]
 have s3:skE n41 l41 [1072]= [97]:=by unfold skE;rw[m3,zKA (.inl rfl)]
 refine⟨s1,s2,s3,?_,?_,?_⟩;unfold ltE;rw[s1,m1,zKA (.inl rfl)];rfl;unfold ltE;rw[s2,m2,zKA (.inr (.inl rfl))];rfl;unfold ltE;rw[s3,m3,zKA (.inr (.inr rfl))];rfl
theorem zTI:Sm p41:=⟨by unfold okProperty okSpan;simp,by decide⟩
theorem z6W:ofP p41 [97]= [[76,97,116,105,110]]:=by
 refine zRP (z54 p41 zTI [97] (by decide)) ?_;have e: [97].map (zCS p41)= [[76,97,116,105,110]]:=by rfl
 rw[e];exact⟨by simp[SS],fun y=>by simp;intro h;subst h;decide⟩
theorem z9Q:ofP p41 [1072]= [[67,121,114,105,108,108,105,99]]:=by
 refine zRP (z54 p41 zTI [1072] (by decide)) ?_;have e: [1072].map (zCS p41)= [[67,121,114,105,108,108,105,99]]:=by rfl
 rw[e];exact⟨by simp[SS],fun y=>by simp;intro h;subst h;decide⟩
theorem zHJ:zA8=some true:=by
 obtain⟨s1,s2,s3,t1,t2,t3⟩:=yAK;have hg:wI n41 l41 [[97],[98],[1072]]=some [[0,2]]:=by
  rw[zRS zPT zPU zPV (by decide) (by simp) (by simp[t1,t2,t3]) (by simp[zER]) (by simp[rg])];simp only[List.map_cons,List.map_nil,s1,s2,s3];rfl
 have ha:vC n41 l41 [97] [1072]=some true:=by
  rw[zVX zPT zPU zPV (by decide) (by decide) t1 t3,s1,s3];rfl
 have hk1:wO n41 l41 p41 [97] [1072]=some 2:=by
  rw[zV0 zPT zPU zPV zTI (by decide) (by decide) t1 t3];unfold kE;rw[s1,s3,z6W,z9Q];rfl
 have hk2:wO n41 l41 p41 [97] [97]=some 1:=by
  rw[zV0 zPT zPU zPV zTI (by decide) (by decide) t1 t1];unfold kE;rw[z6W,if_pos rfl];rfl
 have hc:wJ n41 l41=some true:=by
  rw[zRR zPT zPU zPV];unfold zMU;rw[zPP zTH];simp only[List.all_cons,List.all_nil,zKA (.inl rfl)];rfl
 have he:zAB [0,2] [0,2]=some true:=by rw[zLO (by simp)];simp
 unfold zA8;rw[hg,zH,ha,zH,yF,uE,hk1,zH,yF];show (gM true _).bind _=_;rw[uE,hk2,zH,yF];show ((pv true).bind _)=_;rw[yF,uE];show (gM true (zAB [0,2] [0,2])).bind _=_;rw[uE,he,zH,yF];show (gM true _).bind _=_;rw[uE,hc];rfl
section
variable {d:Unicodetextlaw41_Data} (ok0:wA d)
theorem law41_ConfusableGroups_true (d:Unicodetextlaw41_Data) (ts:List (List Int)) (ok0:wA d) (ok1:ts.length≤9223372036854775807∧∀y0∈ts,(y0.length≤9223372036854775807∧∀y1∈y0,(-9223372036854775808≤y1∧y1≤9223372036854775807))):u2 d ts=some true:=by
 obtain⟨f,hf,pf⟩:=z6T d;unfold u2;rw[hf,zH,yF];by_cases h0:f=true∧ts.length≤8
 case neg=>
  have e:(!f ||decide ((8:Int)<(ts.length:Int)))=true:=by
   cases f
   · rfl
   · simp;simp at h0;omega
  rw[e,cond_true,zHJ];rfl
 obtain⟨rfl,h1⟩:=h0;obtain⟨hs,hl⟩:=pf rfl;have e:(!true ||decide ((8:Int)<(ts.length:Int)))=false:=by simp;omega
 rw[e,cond_false];have h:=kX (body:=fun (x:Int)=>xG ts d x) ts.length (fun j=>(nth ts j).length≤8∧ltE d.Norm d.Map (nth ts j)=true) (fun y=>y=true) (fun j hj=>by
  simp only[xG,jF hj,cond_true,yO hj,zH,yF,yC (k:=j) (by omega),zHJ];by_cases h8:8<(nth ts j).length
  ·
   have e8:decide ((8:Int)<((nth ts j).length:Int))=true:=by simp;omega
   simp only[e8,Bool.not_true,zB7,zH,Bool.true_or,cond_true];exact .inr ⟨fun hh=>(by omega),true,rfl,rfl⟩
  ·
   have e8:decide ((8:Int)<((nth ts j).length:Int))=false:=by simp;omega
   simp only[e8,Bool.not_false,uE,zH,Bool.false_or];rw[zW1 hs ok0.1 hl (by simp) (by simp;omega),zH]
   simp only[List.all_cons,List.all_nil,Bool.and_true];cases hL:ltE d.Norm d.Map (nth ts j) with
   | false=>exact .inr ⟨fun hh=>(by cases hh.2),true,rfl,rfl⟩
   | true=>exact .inl ⟨⟨by omega,rfl⟩,rfl⟩) (fun j hj=>by simp only[xG,jP hj,cond_false])
 rw[vM (p:=fun t=>t.length≤8∧ltE d.Norm d.Map t=true)] at h;rcases h with ⟨h,p⟩ | ⟨y,rfl,h,_⟩
 ·
  rw[h,zH];simp only[Sum.elim_inl];rw[zRS hs ok0.1 hl h1 (fun t ht=>by have:=(p t ht).1;omega) (fun t ht=>(p t ht).2) ok0.2.2 (fun t ht=>(ok1.2 t ht).2),zH,
   zW5 hs ok0.1 hl h1 (fun t ht=>by have:=(p t ht).1;omega) (fun t ht=>(p t ht).2),zH]
  have hg:=z32 (S:=ts.map (skE d.Norm d.Map));rw[List.length_map] at hg;have e2:(!decide (((zIY (ts.map (skE d.Norm d.Map))).length:Int)=((zIY (ts.map (skE d.Norm d.Map))).length:Int)))=false:=by simp
  rw[e2,cond_false];have h2:=kX (body:=fun (x:Int)=>xH (zIY (ts.map (skE d.Norm d.Map))) (zIY (ts.map (skE d.Norm d.Map))) x) (zIY (ts.map (skE d.Norm d.Map))).length (fun _=>True) (fun y=>y=false) (fun j hj=>by
   have hgl:=z0L (x4 hj);rw[List.length_map] at hgl;simp only[xH,jF hj,cond_true,yO hj,zH,yC (k:=j) (by omega),zLO (a:=nth (zIY (ts.map (skE d.Norm d.Map))) j) (b:=nth (zIY (ts.map (skE d.Norm d.Map))) j) (by omega),decide_true];exact .inl ⟨trivial,rfl⟩) (fun j hj=>by simp only[xH,jP hj,cond_false])
  rcases h2 with ⟨h2,_⟩ | ⟨y,rfl,h2,p2⟩
  ·
   rw[h2,zH];simp only[Sum.elim_inl];rw[zHJ];rfl
  · exact absurd (fun _ _=>trivial) p2
 · rw[h,zH];rfl
theorem law41_ConfusableClosed_true (d:Unicodetextlaw41_Data) (a:List Int) (ok0:wA d) {p:Prop} (_:p):u5 d a=some true:=by
 obtain⟨f,hf,pf⟩:=z6T d;unfold u5;rw[hf,zH,yF,yF];by_cases h0:f=true∧a.length≤12
 case neg=>
  have e:(!f ||decide ((12:Int)<(a.length:Int)))=true:=by
   cases f
   · rfl
   · simp;simp at h0;omega
  rw[e,Bool.not_true,zB7,zH,Bool.true_or,cond_true,zHJ];rfl
 obtain⟨rfl,h1⟩:=h0;obtain⟨hs,hl⟩:=pf rfl;have e:(!true ||decide ((12:Int)<(a.length:Int)))=false:=by simp;omega
 rw[e,Bool.not_false,uE,zW1 hs ok0.1 hl (by simp) (by simp;omega),zH,Bool.false_or]
 simp only[List.all_cons,List.all_nil,Bool.and_true];cases hL:ltE d.Norm d.Map a with
 | false=>rw[Bool.not_false,cond_true,zHJ];rfl
 | true=>
  have q5:=zTC hL;rw[Bool.not_true,cond_false,zRR hs ok0.1 hl,zH,zL1 hs ok0.1 hl (by omega) hL,zH,zW2 hs ok0.1 hl,zH,yF,yF,beq_self_eq_true];cases hC:zMU d.Norm d.Map with
  | false=>
   simp only[Bool.not_false,Bool.not_true,Bool.and_false,zB7,zH,Bool.true_or,yF,Bool.and_self,uE,zHJ]
  | true=>
   simp only[Bool.not_true,Bool.not_false,Bool.and_self,uE,Bool.false_or];rw[zW1 hs ok0.1 hl (by simp) (by simp;omega),zH,yF]
   simp only[List.all_cons,List.all_nil,Bool.and_true];cases hL2:ltE d.Norm d.Map (skE d.Norm d.Map a) with
   | false=>simp only[Bool.not_false,Bool.not_true,Bool.and_false,zB7,zH,Bool.true_or,yF,Bool.and_self,uE,zHJ]
   | true=>
    simp only[Bool.not_true,Bool.not_false,Bool.and_self,uE];rw[zL1 hs ok0.1 hl (by omega) hL2,zH,zVZ hs ok0.1 hC,zLO (by omega),zH];simp only[decide_true,Bool.false_or,Bool.and_self,yF,uE,zHJ,zH]
end
end Go.M


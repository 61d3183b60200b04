/- What the plain counterparts answer. Conditions: none. -/
import Derived.Test.YtlcjeomefjmhgaaGreatDoorPu2
set_option linter.unusedSimpArgs false
set_option linter.unusedVariables false
set_option linter.unnecessarySimpa false
namespace Go.M
open Go.AV Go.Plain
theorem z53 (m:Int):zFC m=some (zBL m):=by
 unfold zFC zBL;rw[zH];by_cases h:m<1∨m > 65535;have:(decide (m<1) ||decide (65535<m))=true:=by simpa using h
 rw[this,cond_true,if_pos h];have:(decide (m<1) ||decide (65535<m))=false:=by simp;omega
 rw[this,cond_false,if_neg h]
theorem rp0 {l:List Int} (T:l.length≤1000000):∀(m k:Nat),k+m=l.length→zC (fun (x:Int×(List Int))=>zAK l x.1 x.2) ((k:Int),plain (l.take k))=some (plain l)
 | 0,k,h=>by
  rw[List.take_of_length_le (by omega)];exact zF (by simp only[zAK,kB (show l.length≤k by omega),cond_false])
 | m+1,k,h=>by
  have z:k<l.length:=by omega
  have O:(plain (l.take k)).length≤1000000:=by rw[zP2,List.length_take];omega
  rw[zJ (x':=(((k+1:Nat):Int),plain (l.take (k+1)))) (by
   show zAK l (k:Int) (plain (l.take k))=_;unfold zAK;rw[z51 z,zBN z,yI z,cond_true,zP z,zA,zH];by_cases G:l[k]<0;rw[decide_eq_true G,Bool.not_true,w8,zA,Bool.true_or,cond_true,k7 (by simp;omega),zA,zA,zK (k:=k) (by omega),cl,if_neg (by omega)]
   rw[decide_eq_false G,Bool.not_false,j6,zA,Bool.false_or];by_cases H:65535<l[k];rw[decide_eq_true H,cond_true,k7 (by simp;omega),zA,zA,zK (k:=k) (by omega),cl,if_neg (by omega)]
   rw[decide_eq_false H,cond_false,zA,k7 (by simp;omega),zA,zA,zK (k:=k) (by omega),cl,if_pos (by omega)])]
  exact rp0 T m (k+1) (by omega)
theorem yAY {l:List Int} (h:l.length≤1000000):zG6 l=some (plain l):=by unfold zG6;have:=rp0 h l.length 0 (by omega);rw[show ((0:Nat):Int)=0 from rfl,List.take_zero] at this;rw[show plain ([]:List Int)= [] from rfl] at this;rw[this,zA]
theorem rq1 {L:List Int} (hL:L.length≤1000000) {m:Int} {i:Nat} (hi:i≤L.length):∀(n k:Nat),i+k+n=L.length→pkc m 0 (L.drop i)=pkc m k (L.drop (i+k))→(∀j,j<k→L.getD (i+j) 0=m)→
  ∃G:Nat,zC (fun (x:Int)=>zBK (i:Int) L m x) (k:Int)=some (G:Int)∧i+G≤L.length∧pkc m 0 (L.drop i)=pkc m G (L.drop (i+G))∧(i+G<L.length→L.getD (i+G) 0≠m):=by
 intro n
 induction n with
 | zero=>
  intro k h O _;have T:wi ((i:Int)+(k:Int))=((i+k:Nat):Int):=by rw[kQ (by omega) (by omega)];omega
  refine⟨k,zF ?_,by omega,O,fun h=>by omega⟩;unfold zBK;rw[T,kB (by omega),zH,w8,zA,Bool.false_and,cond_false]
 | succ n ih=>
  intro k h O Z;have z:i+k<L.length:=by omega
  have T:wi ((i:Int)+(k:Int))=((i+k:Nat):Int):=by rw[kQ (by omega) (by omega)];omega
  by_cases H:L.getD (i+k) 0=m
  ·obtain⟨G,q1,q2⟩:=ih (k+1) (by omega) (yM9 z H O) (fun j aa=>by
    by_cases Y:j=k
    ·subst Y;exact H
    ·exact Z j (by omega))
   refine⟨G,?_,q2⟩;rw[zBN z] at H;rw[zJ (x':=((k+1:Nat):Int)) (by
    unfold zBK;rw[T,yI z,zH,j6,zP z,zA,decide_eq_true H,Bool.and_self,cond_true,zK (k:=k) (by omega)])]
   exact q1
  ·refine⟨k,zF ?_,by omega,O,fun _=>H⟩
   rw[zBN z] at H;unfold zBK;rw[T,yI z,zH,j6,zP z,zA,decide_eq_false H,Bool.and_false,cond_false]
theorem rq2 {k:Nat} (z:k≤1000000) {m:Int} (G:1≤m∧m≤65535) {o:List Int} (H:o.length≤1000000):∀(n j:Nat),j+n=k/8→zC (fun (x:Int×(List Int))=>uV (k:Int) m x.1 x.2) ((j:Int),o++List.replicate j (m+7))=some (o++List.replicate (k/8) (m+7))
 | 0,j,h=>by
  rw[show j=k/8 by omega];refine zF ?_;show uV _ _ _ _=_;unfold uV;rw[yNB k z,zA,kB (Nat.le_refl _),cond_false]
 | n+1,j,h=>by
  rw[zJ (x':=(((j+1:Nat):Int),o++List.replicate (j+1) (m+7))) (by
   show uV (k:Int) m (j:Int) (o++List.replicate j (m+7))=_;unfold uV;rw[yNB k z,zA,yI (show j<k/8 by omega),cond_true,kQ (n:=m+7) (by omega) (by omega),k7 (by simp;omega),zA,zK (k:=j) (by omega),List.replicate_succ',List.append_assoc])]
  exact rq2 z G H n (j+1) (by omega)
theorem rq0 {L:List Int} (hL:L.length≤1000000) (ak:∀v∈L,0≤v∧v≤65535) {m:Int} (hm:1≤m∧m≤65535):∀(n i:Nat) (o:List Int),L.length≤i+n→i≤L.length→o++pkc m 0 (L.drop i)=pk m L→
  zC (fun (x:Int×(List Int))=>kP L m x.1 x.2) ((i:Int),o)=some (pk m L):=by
 intro n
 induction n with
 | zero=>
  intro i o h hi T;rw[←z78 T (by omega)];refine zF ?_;show kP _ _ _ _=_;unfold kP;rw[kB (by omega),cond_false]
 | succ n ih=>
  intro i o h hi T;by_cases z:i<L.length
  ·have an:o.length≤1000000:=by
    have Z:=congrArg List.length T;have h2:=yFH m L;rw[List.length_append] at Z;omega
   obtain⟨k,q1,q2,q3,q4⟩:=rq1 hL (m:=m) hi (L.length-i) 0 (by omega) (by rw[Nat.add_zero]) (fun j hj=>by omega);rw[show ((0:Nat):Int)=0 from rfl] at q1;by_cases hk:0<k
   ·have am:k≤1000000:=by omega
    have q5:=rq2 am hm an (k/8) 0 (by omega);rw[show ((0:Nat):Int)=0 from rfl,List.replicate_zero,List.append_nil] at q5;have hw:wi ((i:Int)+(k:Int))=((i+k:Nat):Int):=by rw[kQ (by omega) (by omega)];omega
    have H:∀o',o'++pkc m 0 (L.drop (i+k))=pk m L→kP L m (i:Int) o=some (.next (((i+k:Nat):Int),o'))→zC (fun (x:Int×(List Int))=>kP L m x.1 x.2) ((i:Int),o)=some (pk m L):=fun o' Z h2=>by
     rw[zJ (x':=(((i+k:Nat):Int),o')) h2];exact ih (i+k) o' (by omega) q2 Z
    have aw:(o++List.replicate (k/8) (m+7)).length≤2000000:=by simp;omega
    generalize hy:o++List.replicate (k/8) (m+7)=y5 at*;by_cases h0:k%8=0
    ·refine H y5 (by rw[←hy];exact yO6 T q3 q4 h0) ?_
     have Y:decide (0<((k%8:Nat):Int))=false:=decide_eq_false (by omega);unfold kP;rw[yI z,cond_true,q1,zA,decide_eq_true (show (0:Int)<(k:Int) by omega),cond_true,q5,zA,yFN,zA,Y,zH,zH,Bool.false_and,w8,zA,Bool.false_and,cond_false,zA,Y,cond_false,zA,zA,hw,Sum.elim_inl,zA]
    ·have Y:decide (0<((k%8:Nat):Int))=true:=decide_eq_true (by omega)
     by_cases ar:i+k=L.length
     ·have w2:wi (wi (m+((k%8:Nat):Int))-1)=m+((k%8:Nat):Int)-1:=by rw[kQ (n:=m+((k%8:Nat):Int)) (by omega) (by omega),kQ (by omega) (by omega)]
      refine H (y5++ [m+((k%8:Nat):Int)-1]) (by rw[←hy];exact yFI T q3 q4 h0 (.inl (by omega)) rfl) ?_
      have e2:decide (((i+k:Nat):Int)=(L.length:Int))=true:=decide_eq_true (by omega);unfold kP;rw[yI z,cond_true,q1,zA,decide_eq_true (show (0:Int)<(k:Int) by omega),cond_true,q5,zA,yFN,zA,Y,zH,hw,e2,zH,Bool.not_true,Bool.and_false,w8,zA,Bool.true_or,Bool.and_self,cond_true,zA,w2,k7 (by simp;omega),zA,zA,zA,Sum.elim_inl,zA]
     ·have O:i+k<L.length:=by omega
      have e2:decide (((i+k:Nat):Int)=(L.length:Int))=false:=decide_eq_false (by omega);by_cases G:L[i+k]<m
      ·have w2:wi (wi (m+((k%8:Nat):Int))-1)=m+((k%8:Nat):Int)-1:=by rw[kQ (n:=m+((k%8:Nat):Int)) (by omega) (by omega),kQ (by omega) (by omega)]
       refine H (y5++ [m+((k%8:Nat):Int)-1]) (by rw[←hy];exact yFI T q3 q4 h0 (.inr (by rw[zBN O];exact G)) rfl) ?_
       unfold kP;rw[yI z,cond_true,q1,zA,decide_eq_true (show (0:Int)<(k:Int) by omega),cond_true,q5,zA,yFN,zA,Y,zH,hw,e2,zH,Bool.not_false,Bool.and_self,j6,zP O,zA,decide_eq_true G,Bool.false_or,Bool.and_self,cond_true,zA,w2,k7 (by simp;omega),zA,zA,zA,Sum.elim_inl,zA]
      ·have w2:wi (wi (m+15)-((k%8:Nat):Int))=m+15-((k%8:Nat):Int):=by rw[kQ (n:=m+15) (by omega) (by omega),kQ (by omega) (by omega)]
       refine H (y5++ [m+15-((k%8:Nat):Int)]) (by rw[←hy];exact yNA T q3 q4 h0 (by rw[zBN O];omega) rfl) ?_
       unfold kP;rw[yI z,cond_true,q1,zA,decide_eq_true (show (0:Int)<(k:Int) by omega),cond_true,q5,zA,yFN,zA,Y,zH,hw,e2,zH,Bool.not_false,Bool.and_self,j6,zP O,zA,decide_eq_false G,Bool.false_or,Bool.and_false,cond_false,zA,Y,cond_true,zA,w2,k7 (by simp;omega),zA,zA,zA,Sum.elim_inl,zA]
   ·have al:k=0:=by omega
    subst al;have aa:=q4 (by omega);rw[Nat.add_zero] at aa;have hv:=ak _ (List.getElem_mem z);have e0:decide ((0:Int)<((0:Nat):Int))=false:=rfl;by_cases G:L[i]<m
    ·have Z:=z77 T z aa (w:=L[i]) (by rw[zBN z,if_pos G])
     rw[zJ (x':=(((i+1:Nat):Int),o++ [L[i]])) (by
      show kP L m (i:Int) o=_;unfold kP;rw[yI z,cond_true,q1,zA,e0,cond_false,zP z,zA,decide_eq_true G,cond_true,zA,k7 (by simp;omega),zA,zA,Sum.elim_inr,zA,zK (k:=i) (by omega)])]
     exact ih (i+1) _ (by omega) (by omega) Z
    ·have Z:=z77 T z aa (w:=L[i]+14) (by rw[zBN z,if_neg G])
     rw[zJ (x':=(((i+1:Nat):Int),o++ [L[i]+14])) (by
      show kP L m (i:Int) o=_;unfold kP;rw[yI z,cond_true,q1,zA,e0,cond_false,zP z,zA,decide_eq_false G,cond_false,zA,kQ (n:=L[i]+14) (by omega) (by omega),k7 (by simp;omega),zA,zA,Sum.elim_inr,zA,zK (k:=i) (by omega)])]
     exact ih (i+1) _ (by omega) (by omega) Z
  ·rw[←z78 T (by omega)]
   refine zF ?_;show kP _ _ _ _=_;unfold kP;rw[kB (by omega),cond_false]
theorem z3K {l:List Int} (h:l.length≤1000000) (c:Int):zF5 l c=some (pk (zBL c) (plain l)):=by
 unfold zF5;have k:(plain l).length≤1000000:=by rw[zP2];exact h
 rw[z53,zA,yAY h,zA];have:=rq0 k (fun v z=>z3I z) (zNB c) (plain l).length 0 [] (by omega) (by omega) (by rw[List.drop_zero,List.nil_append];rfl)
 rw[show ((0:Nat):Int)=0 from rfl] at this;rw[this,zA]
end Go.M
namespace Go.M
open Go.AV Go.Plain
theorem z0A:∀(a b:List Int),lx a b→wI a b= -1
 | [],[],h=>h.elim
 | [],_::_,_=>rfl
 | _::_,[],h=>h.elim
 | x::a,y::b,h=>by
  unfold wI;rcases h with h | ⟨rfl,h⟩
  rw[if_pos h];rw[if_neg (Int.lt_irrefl _),if_neg (Int.lt_irrefl _)];exact z0A a b h
theorem yFP (a b:List Int):zIP a b=wI a b:=by
 have v:=yM6 a b;rcases z50 a b with h | h | h
 have:=z72.2 h;rw[z0A a b h];omega;rw[z5Z.2 h,zKE.2 h];have:=yJJ.2 h;have k:=z0A b a h;rw[zMP] at k;omega
theorem z0B:∀{x y u v:List Int},(∀a∈x,0<a)→(∀a∈y,0<a)→(u= []↔v= [])→zz0 u→zz0 v→wI (x++u) (y++v)=if x=y then wI u v else wI x y
 | [],[],u,v,_,_,_,_,_=>by rw[if_pos rfl];rfl
 | [],b::y,u,v,_,Y,_,H,_=>by
  rw[if_neg (by simp)];have hb:=Y b (by simp);rcases H with rfl | ⟨t,rfl⟩
  rfl;simp only[List.nil_append,List.cons_append,wI];rw[if_pos hb]
 | a::x,[],u,v,T,_,_,_,O=>by
  rw[if_neg (by simp)];have ha:=T a (by simp);rcases O with rfl | ⟨t,rfl⟩
  rfl;simp only[List.nil_append,List.cons_append,wI];rw[if_neg (by omega),if_pos ha]
 | a::x,b::y,u,v,T,Y,he,H,O=>by
  have ih:=z0B (x:=x) (y:=y) (fun q G=>T q (by simp[G])) (fun q G=>Y q (by simp[G])) he H O;simp only[List.cons_append,wI];by_cases k:a<b;rw[if_pos k,if_neg (fun e=>by have:=(List.cons.inj e).1;omega),if_pos k]
  by_cases Z:b<a;rw[if_neg k,if_pos Z,if_neg (fun e=>by have:=(List.cons.inj e).1;omega),if_neg k,if_pos Z]
  have z:a=b:=by omega
  subst z;rw[if_neg k,if_neg k,if_neg k,if_neg k,ih];by_cases h:x=y;rw[if_pos h,if_pos (by rw[h])];rw[if_neg h,if_neg (fun e=>h (List.cons.inj e).2)]
def zXY:List (List Int)→List (List Int)→List (List Int)→List (List Int)→Prop
 | [],[],[],[]=>True
 | x::A,y::B,x'::k,h::z=>wI x' h=wI x y∧(∀a∈x,0<a)∧(∀a∈y,0<a)∧(∀a∈x',0<a)∧(∀a∈h,0<a)∧zXY A B k z
 | _,_,_,_=>False
theorem z0C {A:List (List Int)}:tj A= []↔A= []:=by cases A<;>simp[tj]
theorem z8A (A:List (List Int)):zz0 (tj A):=by have:=yM5 (xs:=A) (s:=[]) (.inl rfl);rwa [List.append_nil] at this
theorem yND:∀{A B h k:List (List Int)},zXY A B h k→(A= []↔B= [])∧(h= []↔k= [])
 | [],[],[],[],_=>by simp
 | _::_,_::_,_::_,_::_,_=>by simp
theorem zU1 {x y x' k:List Int} (h:wI x' k=wI x y):(x'=k)↔(x=y):=by rw[←zKE,←zKE,h]
theorem zSU (x:List Int) (A:List (List Int)):tj (x::A)=0::(x++tj A):=rfl
theorem z8B {x y x' Y:List Int} {A B G H:List (List Int)} (h:zXY (x::A) (y::B) (x'::G) (Y::H)) (ih:wI (tj G) (tj H)=wI (tj A) (tj B)):wI (x'++tj G) (Y++tj H)=wI (x++tj A) (y++tj B):=by
 obtain⟨O,Z,h3,h4,h5,h6⟩:=h;have T:=yND h6;rw[z0B h4 h5 (by rw[z0C,z0C];exact T.2) (z8A _) (z8A _),z0B Z h3 (by rw[z0C,z0C];exact T.1) (z8A _) (z8A _),ih,O]
 by_cases z:x=y;rw[if_pos z,if_pos ((zU1 O).2 z)];rw[if_neg z,if_neg (fun k=>z ((zU1 O).1 k))]
theorem yFQ:∀{A B k z:List (List Int)},zXY A B k z→wI (tj k) (tj z)=wI (tj A) (tj B)
 | [],[],[],[],_=>rfl
 | x::A,y::B,x'::k,G::z,h=>by
  rw[zSU,zSU,zSU,zSU];simp only[wI,Int.lt_irrefl,if_false];exact z8B h (yFQ h.2.2.2.2.2)
theorem yNE {A B k z:List (List Int)} (h:zXY A B k z):zIP (jn 0 [] k) (jn 0 [] z)=zIP (jn 0 [] A) (jn 0 [] B):=by
 rw[yFP,yFP]
 match A,B,k,z,h with
 | [],[],[],[],_=>rfl
 | x::A,y::B,x'::k,G::z,h=>
  rw[yJI,yJI,yJI,yJI];exact z8B h (yFQ h.2.2.2.2.2)
end Go.M
namespace Go.M
open Go.AV Go.Plain
def kF (s th:Int) (i:Nat) (x:List Int):List Int:=if i=1 then pk (zBL s) (plain x) else if i=2 then pk (zBL th) (plain x) else x
theorem z54 (s th:Int) (i:Nat) (x:List Int):(kF s th i x).length≤x.length:=by have h:=yFH (zBL s) (plain x);have k:=yFH (zBL th) (plain x);have z:=zP2 x;unfold kF;split;omega;split<;>omega
theorem yO7 {x:List Int} (O:x.length≤1000000) (s th:Int) (k:Nat):(cond (decide ((k:Int)=1)) ((jY x s).bind fun h=>some h) (cond (decide ((k:Int)=2)) ((jY x th).bind fun z=>some z) (some x)))=some (kF s th k x):=by unfold kF;by_cases G:k=1;rw[decide_eq_true (show (k:Int)=1 by omega),cond_true,zP3 O,zA,if_pos G];rw[decide_eq_false (show ¬(k:Int)=1 by omega),cond_false,if_neg G];by_cases H:k=2;rw[decide_eq_true (show (k:Int)=2 by omega),cond_true,zP3 O,zA,if_pos H];rw[decide_eq_false (show ¬(k:Int)=2 by omega),cond_false,if_neg H]
section
variable {l:List (List Int)} {N:Nat} (hl:l.length≤1000) (hN:∀x∈l,x.length≤N) (hN1:N≤1000000) (s th:Int)
include hl hN hN1
theorem kk0:∀(m k:Nat) (z:List Int),k+m=l.length→z.length+m*(N+1)≤4294967296→zC (fun (x:Int×(List Int))=>zAH l (s,th) x.1 x.2) ((k:Int),z)=some (jn k z ((l.mapIdx (kF s th)).drop k))
 | 0,k,z,h,_=>by
  rw[List.drop_of_length_le (by rw[List.length_mapIdx];omega)]
  refine zF ?_;simp only[zAH,kB (show l.length≤k by omega),cond_false,jn]
 | m+1,k,z,h,T=>by
  have G:k<l.length:=by omega
  have hx:=hN _ (List.getElem_mem G);have Z:=z54 s th k l[k];rw[Nat.add_mul] at T;have Y:(if 0<k then z++ [0] else z).length≤z.length+1:=by split<;>simp
  rw[zJ (x':=(((k+1:Nat):Int),(if 0<k then z++ [0] else z)++kF s th k l[k])) (by
   show zAH l (s,th) (k:Int) z=_;unfold zAH;rw[yI G,cond_true,zP G,zA,yO1 (k:=k) (show z.length+1≤4294967296 by omega),zA];show ((cond (decide ((k:Int)=1)) ((jY l[k] s).bind fun H=>some H) (cond (decide ((k:Int)=2)) ((jY l[k] th).bind fun O=>some O) (some l[k]))).bind _)=_;rw[yO7 (by omega),zA,k7 (by omega),zA,zK (k:=k) (by omega)])]
  rw[kk0 m (k+1) _ (by omega) (by rw[List.length_append];omega),List.drop_eq_getElem_cons (i:=k) (by rw[List.length_mapIdx];exact G),List.getElem_mapIdx]
  rfl
theorem yO8:∀(m k:Nat) (r:List (List Int)),k+m=l.length→r.length=l.length→r.take k=(l.mapIdx (kF s th)).take k→r.drop k=l.drop k→zC (fun (x:Int×(List (List Int)))=>zCJ (s,th) x.1 x.2) ((k:Int),r)=some (l.mapIdx (kF s th))
 | 0,k,r,h,hr,H,_=>by
  rw[List.take_of_length_le (by omega),List.take_of_length_le (by rw[List.length_mapIdx];omega)] at H
  rw[←H];refine zF ?_;simp only[zCJ,kB (show r.length≤k by omega),cond_false]
 | m+1,k,r,h,hr,H,O=>by
  have T:k<l.length:=by omega
  have z:k<r.length:=by omega
  have hx:=hN _ (List.getElem_mem T);have G:r[k]=l[k]:=by
   rw[List.drop_eq_getElem_cons z,List.drop_eq_getElem_cons T] at O;exact(List.cons.inj O).1
  have Y:r.drop (k+1)=l.drop (k+1):=by
   rw[List.drop_eq_getElem_cons z,List.drop_eq_getElem_cons T] at O;exact(List.cons.inj O).2
  rw[zJ (x':=(((k+1:Nat):Int),r.set k (kF s th k l[k]))) (by
   show zCJ (s,th) (k:Int) r=_;unfold zCJ kF;rw[yI z,cond_true];by_cases Z:k=1;rw[decide_eq_true (show (k:Int)=1 by omega),cond_true,zP z,zA,G,z3K (by omega),zA,zA,zEK z,zA,zA,decide_eq_false (show ¬(k:Int)=2 by omega),cond_false,zA,zK (k:=k) (by omega),if_pos Z];rw[decide_eq_false (show ¬(k:Int)=1 by omega),cond_false,zA,if_neg Z];by_cases e2:k=2;rw[decide_eq_true (show (k:Int)=2 by omega),cond_true,zP z,zA,G,z3K (by omega),zA,zA,zEK z,zA,zA,zK (k:=k) (by omega),if_pos e2];rw[decide_eq_false (show ¬(k:Int)=2 by omega),cond_false,zA,zK (k:=k) (by omega),if_neg e2,←G,List.set_getElem_self])]
  refine yO8 m (k+1) _ (by omega) (by simpa using hr) ?_ ?_;rw[List.take_add_one,List.take_set_of_le (Nat.le_refl _),H,List.take_add_one,List.getElem?_mapIdx];simp[T,z];rw[List.drop_set_of_lt (by omega),Y]
end
def kC (c:Collation):Int×Int:=if ckE c=0 then (c.Second,c.Third) else (32,2)
noncomputable def kK (n:Norm) (c:Collation) (o:Options) (t:List Int):List Int:=jn 0 [] ((wts (eLm n c t) (uL o)).mapIdx (kF (kC c).1 (kC c).2))
section
variable {n:Norm} {c:Collation} (hn:NSm n) (hok:zC5 n) (hs:Sm c) (hg:∀g∈c.Groups,g.Name.length≤MX)
include hn hok hs hg
theorem z8C (o:Options) {t:List Int} (h:TOk n t) (T:(eLm n c t).length≤1000000):zEW n c o t=some (kK n c o t):=by
 unfold zEW;have G:(cond (!decide (ckE c=0)) (some ((32:Int),(2:Int))) (some (c.Second,c.Third)))=some (kC c):=by
  unfold kC;by_cases k:ckE c=0;rw[decide_eq_true k,if_pos k];rfl;rw[decide_eq_false k,if_neg k];rfl
 have O:=zP0 (eLm n c t) (uL o);have z:=kk0 (l:=wts (eLm n c t) (uL o)) (N:=1000000) (by omega) (fun x H=>by have:=zUU H;omega) (Nat.le_refl _) (kC c).1 (kC c).2 _ 0 [] (Nat.zero_add _) (by simp;omega)
 rw[show ((0:Nat):Int)=0 from rfl,List.drop_zero] at z;rw[z2L hs hg,zA,G,zA,yQR hn hok hs hg h,zA,z5W (by omega),zA,z,zA];rfl
theorem yFR (o:Options) {t:List Int} (h:TOk n t) (hN:(eLm n c t).length≤1000000):zJY n c o t=some (kK n c o t):=by
 unfold zJY;have T:(cond (!decide (ckE c=0)) (some ((32:Int),(2:Int))) (some (c.Second,c.Third)))=some (kC c):=by
  unfold kC;by_cases k:ckE c=0;rw[decide_eq_true k,if_pos k];rfl;rw[decide_eq_false k,if_neg k];rfl
 have h4:=zP0 (eLm n c t) (uL o);have O:∀x∈wts (eLm n c t) (uL o),x.length≤1000000:=fun x z=>by have:=zUU z;omega
 have H:=yO8 (l:=wts (eLm n c t) (uL o)) (N:=1000000) (by omega) O (Nat.le_refl _) (kC c).1 (kC c).2 _ 0 (wts (eLm n c t) (uL o)) (Nat.zero_add _) rfl rfl rfl;rw[show ((0:Nat):Int)=0 from rfl] at H;have G:=yFA (l:=(wts (eLm n c t) (uL o)).mapIdx (kF (kC c).1 (kC c).2)) (N:=1000000) (fun x z=>by
  obtain⟨i,hi,rfl⟩:=List.getElem_of_mem z;rw[List.length_mapIdx] at hi;rw[List.getElem_mapIdx];have Y:=z54 (kC c).1 (kC c).2 i (wts (eLm n c t) (uL o))[i];have Z:=O _ (List.getElem_mem hi);omega) (by rw[List.length_mapIdx];omega) _ 0 [] (Nat.zero_add _) (by rw[List.length_mapIdx];simp;omega)
 rw[show ((0:Nat):Int)=0 from rfl,List.drop_zero] at G;rw[yQS hn hok hs hg h,zA,zNW (by omega),zA,zRM hs hg,zA,T,zA,H,zA];unfold zF6;rw[G,zA,zA];rfl
end
end Go.M
namespace Go.M
open Go.AV Go.Plain
def ElR (e:Element):Prop:=(0≤e.Primary∧e.Primary≤65535)∧(0≤e.Secondary∧e.Secondary≤65535)∧(0≤e.Tertiary∧e.Tertiary≤65535)
theorem yJP {e:Element} (h:elE e=0):ElR e:=by unfold elE at h;by_cases k:(e.Primary<0∨65535<e.Primary)∨(e.Secondary<0∨65535<e.Secondary)∨(e.Tertiary<0∨65535<e.Tertiary);rw[if_pos k] at h;omega;unfold ElR;omega
theorem yJQ {x:Entry} {b:Int} (h:enE x b=0):∀e∈x.Elements,ElR e:=by
 unfold enE at h;split at h;omega;cases O:chk pV x.Codes 0 with
 | some y=>
  rw[O] at h;have:y≠0:=zEL (P:=fun y=>y≠0) (fun k c y z=>by
   unfold pV at z;split at z;cases z;cases z;decide) O
  exact absurd h this
 | none=>
  rw[O] at h;simp only[] at h;cases H:chk pE x.Elements 0 with
  | some y=>
   rw[H] at h;have:y≠0:=zEL (P:=fun y=>y≠0) (fun k c y z=>by
    unfold pE at z;split at z;cases z;rename_i G;cases z;exact G) H
   exact absurd h this
  | none=>
   intro e Y;obtain⟨j,T,rfl⟩:=List.getElem_of_mem Y;have:=zKA H j T;unfold pE at this;split at this;rename_i G;exact yJP G;cases this
theorem ck0 {c:Collation} (h:ckE c=0):(1≤c.Base∧c.Base≤65502)∧(1≤c.Second∧c.Second≤65535)∧(1≤c.Third∧c.Third≤65535)∧∀x∈c.Entries,∀e∈x.Elements,ElR e:=by
 unfold ckE at h;by_cases H:c.Base<1∨65502<c.Base∨wOk c.Second=false∨wOk c.Third=false;rw[if_pos H] at h;omega;rw[if_neg H] at h;by_cases T:zZF c≠0;rw[if_pos T] at h;exact absurd h T;rw[if_neg T] at h;have G:∀w,¬wOk w=false→1≤w∧w≤65535:=fun w G=>by
  unfold wOk at G;simp at G;omega
 have Z:=G c.Second (fun e=>H (.inr (.inr (.inl e))));have aa:=G c.Third (fun e=>H (.inr (.inr (.inr e))));refine⟨by omega,Z,aa,?_⟩;cases Y:chk (pK c) c.Entries 0 with
 | some y=>
  rw[Y] at h;have:y≠0:=zEL (P:=fun y=>y≠0) (fun k x y z=>by
   unfold pK at z;split at z;rename_i O;cases z;exact O;split at z;cases z;decide;cases z) Y
  exact absurd h this
 | none=>
  intro x hm;obtain⟨j,hj,rfl⟩:=List.getElem_of_mem hm;have:=zKA Y j hj;unfold pK at this;split at this;cases this;rename_i O;exact yJQ (Decidable.not_not.1 O)
theorem z8D (c:Collation):(1≤(yG c).Base∧(yG c).Base≤65502)∧(1≤(yG c).Second∧(yG c).Second≤65535)∧(1≤(yG c).Third∧(yG c).Third≤65535)∧∀x∈(yG c).Entries,∀e∈x.Elements,ElR e:=by unfold yG;by_cases h:ckE c=0;rw[if_pos h];exact ck0 h;rw[if_neg h];exact⟨by simp,by simp,by simp,fun x k=>by simp at k⟩
theorem yJR {c:Collation} {h:Int}:∀e∈zPQ (yG c) h,ElR e:=by
 obtain⟨Z,h2,h3,_⟩:=z8D c;unfold zPQ;split;rename_i z;unfold vld at z;simp only[Bool.and_eq_true,decide_eq_true_eq] at z;have G:h.tdiv 32768=h/32768:=Int.tdiv_eq_ediv_of_nonneg z.1;have H:h.tmod 32768=h%32768:=Int.tmod_eq_emod_of_nonneg z.1;have O:wi (h.tdiv 32768)=h/32768:=by rw[G];exact kQ (by omega) (by omega)
 have T:wi ((yG c).Base+wi (h.tdiv 32768))=(yG c).Base+h/32768:=by rw[O];exact kQ (by omega) (by omega)
 have Y:wi (32768+h.tmod 32768)=32768+h%32768:=by rw[H];exact kQ (by omega) (by omega)
 intro e k;simp only[List.mem_cons,List.not_mem_nil,or_false] at k;rcases k with rfl | rfl
 unfold ElR;simp only[T];omega;unfold ElR;simp only[Y];omega;intro e k;cases k
theorem yJS {c:Collation} {q:List Int}:∀e∈(zCV (yG c).Entries q).1,ElR e:=by
 obtain⟨_,_,_,h⟩:=z8D c;unfold zCV;cases z:(yG c).Entries.find? (fun x=>decide (x.Codes=q)) with
 | none=>intro e k;cases k
 | some x=>exact h x (List.mem_of_find?_eq_some z)
theorem yNF {c:Collation} {l:List Span} {text:List Int}:∀e∈(stE c l text).2.2,ElR e:=by unfold stE;split;exact yJR;exact yJS
theorem yFS {c:Collation} {l:List Span}:∀(k:Nat) (text:List Int),∀e∈(wkE c l k text).1,ElR e
 | 0,_=>fun e he=>by cases he
 | k+1,text=>by
  unfold wkE;split;intro e he;cases he;intro e he;rcases List.mem_append.1 he with he | he
  exact yNF e he;exact yFS k _ e he
theorem yNG {v:Int} {f:Bool} {e:Element} (h:ElR e) (k:Nat):0≤col k (tr1 v f e)∧col k (tr1 v f e)≤65535:=by
 obtain⟨z,G,H⟩:=h;unfold tr1
 match k with
 | 0=>simp only[col];split;exact z;split;simp;exact z
 | 1=>simp only[col];split;exact G;split;simp;exact G
 | 2=>simp only[col];split;exact H;split;simp;exact H
 | k+3=>
  simp only[col];split;simp only[];split<;>simp;split;simp only[];split;exact z;simp;simp only[];split<;>simp
theorem z8E {v:Int}:∀{l:List Element} {f:Bool},(∀e∈l,ElR e)→∀w∈trL v f l,∀k,0≤col k w∧col k w≤65535
 | [],_,_,w,hw=>by cases hw
 | e::l,f,h,w,hw=>by
  simp only[trL] at hw;rcases List.mem_cons.1 hw with rfl | hw
  exact yNG (h e (by simp));exact z8E (fun q z=>h q (by simp[z])) w hw
theorem zP4 {k:Nat} {L:List A4Int} (h:∀w∈L,∀k,0≤col k w∧col k w≤65535):∀y∈row k L,0<y∧y≤65535:=by intro y z;unfold row at z;obtain⟨w,G,z⟩:=List.mem_flatMap.1 z;have:=h w G k;unfold nz at z;split at z;cases z;rename_i H;simp at z;subst z;omega
theorem z8F {l:List Element} {o:Options} (h:∀e∈l,ElR e) {x:List Int} (G:x∈wts l o):∀y∈x,0<y∧y≤65535:=by
 have z:=z8E (v:=o.Variable) (f:=false) h;unfold wts at G;have G:=List.mem_of_mem_take G;simp only[rows,List.mem_cons,List.not_mem_nil,or_false] at G;intro y k;rcases G with rfl | rfl | rfl | rfl
 exact zP4 z y k;unfold yAT at k;split at k;exact zP4 z y (List.mem_reverse.1 k);exact zP4 z y k;exact zP4 z y k;exact zP4 z y k
theorem yFT (n:Norm) (c:Collation) (t:List Int):∀e∈eLm n c t,ElR e:=yFS _ _
end Go.M
namespace Go.M
open Go.AV Go.Plain
theorem zU2 {l:List Int} (h:∀v∈l,0<v∧v≤65535):plain l=l:=by
 unfold plain
 induction l with
 | nil=>rfl
 | cons x l z=>
  have G:=h x (by simp);rw[List.map_cons,z (fun v k=>h v (by simp[k])),cl,if_pos (by omega)]
theorem zXZ {m:Int} (k:1≤m) {c:Nat} {lo:Bool}:∀v∈zDR m c lo,0<v:=by
 intro v hv;unfold zDR at hv;rcases List.mem_append.1 hv with hv | hv
 have:=(List.mem_replicate.1 hv).2;omega;by_cases h:c%8=0;rw[if_pos h] at hv;cases hv;rw[if_neg h] at hv;cases lo with
 | true=>rw[if_pos rfl] at hv;have:=List.mem_singleton.1 hv;omega
 | false=>rw[if_neg (by decide)] at hv;have:=List.mem_singleton.1 hv;omega
theorem zSV {m:Int} (z:1≤m):∀(l:List Int) (c:Nat),(∀v∈l,0<v)→∀v∈pkc m c l,0<v
 | [],c,_,v,hv=>zXZ z v hv
 | x::l,c,h,v,hv=>by
  have H:=h x (by simp);unfold pkc at hv;by_cases k:x=m;rw[if_pos k] at hv;exact zSV z l (c+1) (fun q G=>h q (by simp[G])) v hv;rw[if_neg k] at hv;rcases List.mem_append.1 hv with hv | hv
  exact zXZ z v hv;rcases List.mem_cons.1 hv with rfl | hv
  split<;>omega;exact zSV z l 0 (fun q G=>h q (by simp[G])) v hv
theorem yFU {s th:Int} {i:Nat} {x:List Int} (h:∀v∈x,0<v∧v≤65535):∀v∈kF s th i x,0<v:=by have k:∀v∈x,0<v:=fun v z=>(h v z).1;unfold kF;rw[zU2 h];split;exact zSV (zNB s).1 x 0 k;split;exact zSV (zNB th).1 x 0 k;exact k
theorem yNH {s th:Int} {i:Nat} {x y:List Int} (h:∀v∈x,0<v∧v≤65535) (k:∀v∈y,0<v∧v≤65535):wI (kF s th i x) (kF s th i y)=wI x y:=by unfold kF;rw[zU2 h,zU2 k];split;exact yFL _ _ _;split;exact yFL _ _ _;rfl
theorem yKY {s th:Int}:∀(A B:List (List Int)) (j:Nat),A.length=B.length→(∀x∈A,∀v∈x,0<v∧v≤65535)→(∀x∈B,∀v∈x,0<v∧v≤65535)→zXY A B (A.mapIdx fun i=>kF s th (i+j)) (B.mapIdx fun i=>kF s th (i+j))
 | [],[],_,_,_,_=>trivial
 | [],_::_,_,h,_,_=>by simp at h
 | _::_,[],_,h,_,_=>by simp at h
 | x::A,y::B,j,h,O,T=>by
  have G:=O x (by simp);have H:=T y (by simp);have Y:=yKY (s:=s) (th:=th) A B (j+1) (by simpa using h) (fun q k=>O q (by simp[k])) (fun q k=>T q (by simp[k]));rw[List.mapIdx_cons,List.mapIdx_cons];have e:(fun i=>kF s th (i+1+j))=fun i=>kF s th (i+(j+1)):=funext fun i=>by rw[show i+1+j=i+(j+1) by omega]
  rw[e];exact⟨yNH G H,fun v z=>(G v z).1,fun v z=>(H v z).1,yFU G,yFU H,Y⟩
theorem yNI (n:Norm) (c:Collation) (o:Options) (a b:List Int):zIP (kK n c o a) (kK n c o b)=zIP (jn 0 [] (wts (eLm n c a) (uL o))) (jn 0 [] (wts (eLm n c b) (uL o))):=by unfold kK;have h:=yKY (s:=(kC c).1) (th:=(kC c).2) (wts (eLm n c a) (uL o)) (wts (eLm n c b) (uL o)) 0 (by rw[zZ4 (zOG o),zZ4 (zOG o)]) (fun x k=>z8F (yFT n c a) k) (fun x k=>z8F (yFT n c b) k);exact yNE h
theorem yAZ (o:Options) (k:List Element) (t:List Int):yFB (uL {Strength:=o.Strength,Variable:=o.Variable,Backward:=o.Backward,Identical:=false}) k t=jn 0 [] (wts k (uL o)):=by have z:ckO {Strength:=o.Strength,Variable:=o.Variable,Backward:=o.Backward,Identical:=false}=ckO o:=rfl;unfold yFB uL;rw[z];by_cases h:ckO o=0;rw[if_pos h,if_pos h];simp only[Bool.false_eq_true,if_false,List.append_nil];rfl;rw[if_neg h,if_neg h];simp only[Bool.false_eq_true,if_false,List.append_nil]
theorem z8G {l:List (List Int)} (k:l.length≤4) (h:∀x∈l,x.length≤1000000):(jn 0 [] l).length≤4611686018427387904:=by have:=z5Y l 0 [] h;simp only[List.length_nil] at this;have z:l.length*(1000000+1)≤4*(1000000+1):=Nat.mul_le_mul_right _ k;omega
end Go.M
namespace Go.M
open Go.AV Go.Plain
theorem ad0 {l:List Int} (G:l.length≤1000):∀(m k:Nat) (r:List Int),k+m=l.length→r.length+m≤1000000→zC (fun (x:Int×(List Int))=>vL l x.1 x.2) ((k:Int),r)=some (r++(l.drop k).map (IntKind.u8.wrap))
 | 0,k,r,h,_=>by
  rw[List.drop_of_length_le (by omega),List.map_nil,List.append_nil];refine zF ?_;show vL l (k:Int) r=_;unfold vL;rw[kB (by omega),cond_false]
 | m+1,k,r,h,H=>by
  have z:k<l.length:=by omega
  rw[zJ (x':=(((k+1:Nat):Int),r++ [IntKind.u8.wrap l[k]])) (by
   show vL l (k:Int) r=_;unfold vL;rw[yI z,cond_true,zP z,zA,k7 (by simp;omega),zA,zK (k:=k) (by omega)])]
  rw[ad0 G m (k+1) _ (by omega) (by simp;omega),List.drop_eq_getElem_cons z,List.map_cons,List.append_assoc]
  rfl
theorem zU3 {r l:List Int} (h:l.length≤1000) (k:r.length≤100000):kW r l=some (r++l.map (IntKind.u8.wrap)):=by unfold kW;have:=ad0 h l.length 0 r (by omega) (by omega);rw[show ((0:Nat):Int)=0 from rfl,List.drop_zero] at this;rw[this,zA]
theorem un1:vK [34] 32=some ([32,32,32],0):=by unfold vK;rw[zQ9,zA,show zBL 32=32 by decide,zJ (x':=((1:Int),[32,32,32])) (by rfl),zF (y:= .inl [32,32,32]) (by rfl),zA,Sum.elim_inl,zP3 (by simp),zA,yFD (by decide),zA,show decide (pk (zBL 32) (plain [32,32,32])= [34])=true by decide];rfl
theorem un2:vK [44] 32=some ([],11):=by unfold vK;rw[zQ9,zA,show zBL 32=32 by decide,zJ (x':=((1:Int),[32,32,32])) (by rfl),zF (y:= .inl [32,32,32]) (by rfl),zA,Sum.elim_inl,zP3 (by simp),zA,yFD (by decide),zA,show decide (pk (zBL 32) (plain [32,32,32])= [44])=false by decide];rfl
theorem pa1:jY [32,32,32,33] 32=some [44,47]:=by rw[zP3 (by simp)];exact congrArg some (by decide)
theorem vi1:vM [63,64,16384]=some [63,64,64,128,0,64,0]:=by
 unfold vM;have a1:kW [] [63]=some [63]:=by rw[zU3 (by simp) (by simp)];rfl
 have a2:kW [63] [64,64]=some [63,64,64]:=by rw[zU3 (by simp) (by simp)];rfl
 have z:kW [63,64,64] [128,0,64,0]=some [63,64,64,128,0,64,0]:=by rw[zU3 (by simp) (by simp)];rfl
 have G:xL [63,64,16384] 0 []=(kW [] [63]).bind fun y=>some (.next ((1:Int),y)):=by rw[a1];show (((kW [] [63]).bind fun h=>some h).bind fun k=>some k).bind _=_;rw[a1];rfl
 have H:xL [63,64,16384] 1 [63]=(kW [63] [64,64]).bind fun y=>some (.next ((2:Int),y)):=by rw[a2];show (((kW [63] [64,64]).bind fun h=>some h).bind fun k=>some k).bind _=_;rw[a2];rfl
 have O:xL [63,64,16384] 2 [63,64,64]=(kW [63,64,64] [128,0,64,0]).bind fun y=>some (.next ((3:Int),y)):=by rw[z];show (((kW [63,64,64] [128,0,64,0]).bind fun h=>some h).bind fun k=>some k).bind _=_;rw[z];rfl
 rw[a1] at G;rw[a2] at H;rw[z] at O;rw[zJ G,zJ H,zJ O,zF (y:=[63,64,64,128,0,64,0]) (by rfl),zA];rfl
theorem vi2:vM [44,47]=some [44,47]:=by
 unfold vM;have a1:kW [] [44]=some [44]:=by rw[zU3 (by simp) (by simp)];rfl
 have a2:kW [44] [47]=some [44,47]:=by rw[zU3 (by simp) (by simp)];rfl
 have z:xL [44,47] 0 []=some (.next ((1:Int),[44])):=by show (((kW [] [44]).bind fun h=>some h).bind fun k=>some k).bind _=_;rw[a1];rfl
 have G:xL [44,47] 1 [44]=some (.next ((2:Int),[44,47])):=by show (((kW [44] [47]).bind fun h=>some h).bind fun k=>some k).bind _=_;rw[a2];rfl
 rw[zJ z,zJ G,zF (y:=[44,47]) (by rfl),zA];rfl
theorem yJT:zEV=some true:=by
 unfold zEV;have hb:zD7 [32,32,32,33] 32=some 2:=by unfold zD7;rw[pa1,zA,vi2,zA];rfl
 have q1:uT [44,47] [44,47]=some true:=by rw[zPP (by simp)];simp
 have q2:uT [32,32,32] [32,32,32]=some true:=by rw[zPP (by simp)];simp
 rw[pa1,zA,un1,zA,un2,zA,q1,zA,zH];simp only[j6,q2,zA,zH,Bool.and_self,decide_true,vi1,BEq.rfl,hb]
end Go.M
namespace Go.M
open Go.AV Go.Plain
theorem yA0 {es:List Entry} (h:∀x∈es,x.Elements.length≤20) (q:List Int):(zCV es q).1.length≤20:=by
 unfold zCV;cases k:es.find? (fun x=>decide (x.Codes=q)) with
 | none=>simp
 | some x=>exact h x (List.mem_of_find?_eq_some k)
theorem yFV {c:Collation} (k:Sm c) {l:List Span} (text:List Int):(stE c l text).2.2.length≤20:=by
 have h:∀x∈(yG c).Entries,x.Elements.length≤20:=by
  unfold yG;split;exact k.el;intro x z;cases z
 unfold stE;split;show (zPQ _ _).length≤20;unfold zPQ;split<;>simp;exact yA0 h _
theorem z3L {c:Collation} (h:Sm c) {l:List Span}:∀(k:Nat) (text:List Int),(wkE c l k text).1.length≤20*k
 | 0,_=>by simp[wkE]
 | k+1,text=>by
  unfold wkE;split;simp;have z:=yFV h (l:=l) text;have G:=z3L h (l:=l) k (stE c l text).2.1;show ((stE c l text).2.2++(wkE c l k (stE c l text).2.1).1).length≤_;rw[List.length_append];omega
theorem law48_KeypackKeys_true (d:Unicodetextlaw44_Data) (a b:List Int) (ok:zEU d) {q:Prop} (_:q) {q2:Prop} (_:q2):zC8 d a b=some true:=by
 unfold zC8;obtain⟨f,hf,hp⟩:=yJH d;rw[hf,yJT,zA,zH,zH];cases f with
 | false=>rfl
 | true=>
 obtain⟨z,H⟩:=hp rfl;by_cases ha:10<(a.length:Int);rw[decide_eq_true ha];simp only[Bool.or_true,Bool.true_or,cond_true,zA];by_cases hb:10<(b.length:Int);rw[decide_eq_true hb];simp only[Bool.or_true,cond_true,zA];rw[decide_eq_false ha,decide_eq_false hb];have O:=yH6 ok.2.1;have k:TOk d.Norm a:=⟨by omega,by have:=zXP z ok.1 false a;omega⟩
 have tb:TOk d.Norm b:=⟨by omega,by have:=zXP z ok.1 false b;omega⟩
 have Y:∀t,TOk d.Norm t→(eLm d.Norm d.Collation t).length≤1000000:=fun t G=>by
  have h1:=z3L H (l:=xR d.Norm) (zHX d.Norm false t).length (zHX d.Norm false t);have h2:=G.2;rw[←zPV] at h2;show (wkE d.Collation (xR d.Norm) (zHX d.Norm false t).length (zHX d.Norm false t)).1.length≤_;omega
 have h:∀t,TOk d.Norm t→∀x∈wts (eLm d.Norm d.Collation t) (uL d.Options),x.length≤1000000:=fun t G x hx=>Nat.le_trans (zUU hx) (Y t G);have T:∀t,TOk d.Norm t→(kK d.Norm d.Collation d.Options t).length≤4611686018427387904:=fun t G=>by
  unfold kK;refine z8G (by rw[List.length_mapIdx];exact zP0 _ _) (fun x hx=>?_)
  obtain⟨i,hi,rfl⟩:=List.getElem_of_mem hx;rw[List.length_mapIdx] at hi;rw[List.getElem_mapIdx];exact Nat.le_trans (z54 _ _ _ _) (h t G _ (List.getElem_mem hi))
 have Z:∀t,TOk d.Norm t→(jn 0 [] (wts (eLm d.Norm d.Collation t) (uL d.Options))).length≤4611686018427387904:=fun t G=>z8G (zP0 _ _) (h t G);have r1:=rkE z ok.1 H O {Strength:=d.Options.Strength,Variable:=d.Options.Variable,Backward:=d.Options.Backward,Identical:=false} k;have r2:=rkE z ok.1 H O {Strength:=d.Options.Strength,Variable:=d.Options.Variable,Backward:=d.Options.Backward,Identical:=false} tb;unfold sK at r1 r2;rw[yAZ] at r1 r2;rw[show ((!true ||false) ||false)=false from rfl,cond_false,z8C z ok.1 H O d.Options k (Y a k),zA,z8C z ok.1 H O d.Options tb (Y b tb),zA,yFR z ok.1 H O d.Options k (Y a k),zA,zPP (T a k),zA,decide_eq_true rfl,Bool.not_true,cond_false,r1,zA,r2,zA,zGP (T a k),zA,zGP (Z a k),zA,yNI];simp only[decide_true,zH,j6,zA,Bool.and_self]
end Go.M


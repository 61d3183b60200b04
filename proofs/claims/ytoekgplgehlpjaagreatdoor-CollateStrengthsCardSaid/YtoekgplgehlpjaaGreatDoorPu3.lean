/- What the plain counterparts answer. Conditions: none. -/
import Derived.Test.YtoekgplgehlpjaaGreatDoorPu2
set_option linter.unusedSimpArgs false
set_option linter.unusedVariables false
set_option linter.unnecessarySimpa false
namespace Go.M
open Go.AV
def kN (K:List (List Int)) (i:Nat):List Int:=K.getD i []
theorem zOR {K:List (List Int)} {i:Nat} (h:i < K.length):yH K (i:Int)=some (kN K i):=by rw [zW h];unfold kN;rw [List.getD_eq_getElem?_getD,List.getElem?_eq_getElem h];rfl
theorem z10 {K:List (List Int)} {i:Nat} (h:i < K.length):kN K i∈K:=by unfold kN;rw [List.getD_eq_getElem?_getD,List.getElem?_eq_getElem h];exact List.getElem_mem h
def zDH (K:List (List Int)):Bool:=(List.range (K.length - 1)).all fun i=>decide (0≤xY (kN K (i+1)) (kN K i))
theorem zFY {K:List (List Int)}:zDH K=true↔∀i,i+1 < K.length→0≤xY (kN K (i+1)) (kN K i):=by unfold zDH;simp only [List.all_eq_true,List.mem_range,decide_eq_true_eq];exact ⟨fun h i hi=>h i (by omega),fun h i hi=>h i (by omega)⟩
def zNU (K:List (List Int)) (key:List Int):Nat:=(K.findIdx? fun x=>decide (0≤xY x key)).getD K.length
noncomputable def srE (K:List (List Int)) (key:List Int):Int×Bool:=if zDH K=true then ((zNU K key:Int),decide (zNU K key < K.length∧xY (kN K (zNU K key)) key=0)) else (-1,false)
section
variable {K:List (List Int)} (hK:∀x∈K,x.length≤4611686018427387904) (hl:K.length≤1000)
include hK hl
theorem is0:∀(k:Nat),k < K.length→∃y,zG (fun (x:Int)=>yS K (fun x0 x1=>kF x0 x1) x) (k:Int)=some y∧((y= .inl ()∧∀i,i < k→0≤xY (kN K (i+1)) (kN K i))∨(y= .inr false∧∃i,i < k∧¬0≤xY (kN K (i+1)) (kN K i)))
 | 0,h=>⟨.inl (),zM (by simp only [yS,show decide ((0:Int) < ((0:Nat):Int))=false from rfl,cond_false]),.inl ⟨rfl,fun i hi=>by omega⟩⟩
 | k+1,h=>by
  have e:decide ((0:Int) < ((k+1:Nat):Int))=true:=decide_eq_true (by omega);have e1:wi (((k+1:Nat):Int) - 1)=(k:Int):=zDF (by omega);have hc:=zD5 (a:=kN K (k+1)) (b:=kN K k) (hK _ (z10 h));by_cases h0:xY (kN K (k+1)) (kN K k) < 0;refine ⟨.inr false,zM ?_,.inr ⟨rfl,k,by omega,by omega⟩⟩;simp only [yS,e,cond_true,zOR h,e1,zOR (show k < K.length by omega),zA,hc,h0,decide_true];obtain ⟨y,h1,h2⟩:=is0 k (by omega);refine ⟨y,?_,?_⟩;rw [zU (x':=(k:Int)) (by simp only [yS,e,cond_true,zOR h,e1,zOR (show k < K.length by omega),zA,hc,h0,decide_false,cond_false])];exact h1;rcases h2 with ⟨h2,h3⟩ | ⟨h2,i,h3,h4⟩
  refine .inl ⟨h2,fun i hi=>?_⟩;rcases Nat.lt_or_eq_of_le (Nat.le_of_lt_succ hi) with hi | rfl
  exact h3 i hi;omega;exact .inr ⟨h2,i,by omega,h4⟩
theorem zZU:j8 K (fun x0 x1=>kF x0 x1)=some (zDH K):=by
  unfold j8;by_cases h0:K.length=0
  · have e:wi ((K.length:Int) - 1)= -1:=by rw [h0];rfl
    have hb:zDH K=true:=by rw [zFY];intro i hi;omega
    rw [e,zM (y:= .inl ()) (by simp only [yS];rfl),hb]
    rfl
  · have e:wi ((K.length:Int) - 1)=((K.length - 1:Nat):Int):=by rw [xT (by omega) (by omega)];omega
    obtain ⟨y,h1,h2⟩:=is0 hK hl (K.length - 1) (by omega);rw [e,h1,zA];rcases h2 with ⟨rfl,h3⟩ | ⟨rfl,i,h3,h4⟩
    · have hb:zDH K=true:=by rw [zFY];intro i hi;exact h3 i (by omega)
      rw [hb];rfl
    · have hb:zDH K=false:=by
        cases h:zDH K with
        | false=>rfl
        | true=>exact absurd (zFY.1 h i (by omega)) h4
      rw [hb];rfl
omit hK hl in
theorem yAS {a b c:List Int} (h1:0≤xY b a) (h2:0≤xY c b):0≤xY c a:=by
 have q1:xY a b≤0:=by have:=zI1 a b;omega
 have q2:xY b c≤0:=by have:=zI1 b c;omega
 have:=(zR4 q1 q2).1;have:=zI1 a c;omega
omit hK hl in
theorem zOS (h:zDH K=true):∀(d i:Nat),i+d < K.length→0≤xY (kN K (i+d)) (kN K i)
 | 0,i,hi=>by rw [Nat.add_zero,zF4.2 rfl];omega
 | d+1,i,hi=>by
  have h1:=zOS h d i (by omega);have h2:=zFY.1 h (i+d) (by omega);exact yAS h1 h2
omit hK hl in
theorem yEK {key:List Int} {j:Nat} (hj:j≤K.length) (h1:∀k,k < j→xY (kN K k) key < 0) (h2:j < K.length→0≤xY (kN K j) key):zNU K key=j:=by
  unfold zNU;rcases Nat.lt_or_eq_of_le hj with hlt | rfl
  · have:K.findIdx? (fun x=>decide (0≤xY x key))=some j:=by
      rw [List.findIdx?_eq_some_iff_getElem];refine ⟨hlt,?_,fun k hk=>?_⟩
      · have:=h2 hlt
        unfold kN at this;rw [List.getD_eq_getElem?_getD,List.getElem?_eq_getElem hlt] at this;simpa using this
      · have:=h1 k hk
        unfold kN at this;rw [List.getD_eq_getElem?_getD,List.getElem?_eq_getElem (by omega)] at this;simp only [Option.getD_some] at this;simp;omega
    rw [this];rfl
  · have:K.findIdx? (fun x=>decide (0≤xY x key))=none:=by
      rw [List.findIdx?_eq_none_iff];intro x hx;obtain ⟨k,hk,rfl⟩:=List.getElem_of_mem hx;have:=h1 k hk;unfold kN at this;rw [List.getD_eq_getElem?_getD,List.getElem?_eq_getElem hk] at this;simp only [Option.getD_some] at this;simp;omega
    rw [this];rfl
theorem z11 {key:List Int} (hs:zDH K=true):k4 K key (fun x0 x1=>kF x0 x1)=some (srE K key):=by
 unfold k4 srE;obtain ⟨j,hj,hr,hlo,hhi⟩:=zQB (n:=K.length) (by omega) (body:=fun (x:Int×Int)=>yT K (fun x0 x1=>kF x0 x1) key x.1 x.2) (fun k=>decide (0≤xY (kN K k) key))
  (fun k _=>by simp only [yT,kW (Nat.le_refl _),cond_false])
  (fun lo hi h1 h2=>by
   have hm:(lo+hi) / 2 < K.length:=by omega
   simp only [yT,kK h1,cond_true,zKS (show lo+hi≤4611686018427387903 by omega),zOR hm,zA,zD5 (b:=key) (hK _ (z10 hm)),zP (k:=(lo+hi) / 2) (by omega)];by_cases hc:xY (kN K ((lo+hi) / 2)) key < 0;have:¬0≤xY (kN K ((lo+hi) / 2)) key:=by omega
   simp [hc,this];have:0≤xY (kN K ((lo+hi) / 2)) key:=by omega
   simp [hc,this])
  (fun i j hij hj hi=>by
   simp only [decide_eq_true_eq] at hi ⊢;have:=zOS hs (j - i) i (by omega);rw [show i+(j - i)=j by omega] at this;exact yAS hi this)
 simp only [decide_eq_false_iff_not,decide_eq_true_eq] at hlo hhi;have hlow:zNU K key=j:=yEK hj (fun k hk=>by have:=hlo k hk;omega) (fun h=>hhi j (Nat.le_refl _) h)
 rw [hr,zA,zS,if_pos hs,hlow];by_cases h:j < K.length;simp only [kK h,w9,zOR h,zA,zD5 (b:=key) (hK _ (z10 h)),Bool.true_and,h,true_and];simp only [kW (show K.length≤j by omega),zA5,zA,Bool.false_and,h,false_and,decide_false]
end
section
variable {n:Norm} {c:Collation} (hn:NSm n) (hok:wS n) (hs:Sm c) (hg:∀g∈c.Groups,g.Name.length≤MX)
include hn hok hs hg
theorem zOT (o:Options) {T:List (List Int)} (hT:∀t∈T,TOk n t) (hl:T.length≤1000) {t:List Int} (ht:TOk n t):wD n c o T t=some (srE (T.map (sK n c o)) (sK n c o t)):=by
 unfold wD;have hK:∀x∈T.map (sK n c o),x.length≤4611686018427387904:=fun x hx=>by
  obtain ⟨u,hu,rfl⟩:=List.mem_map.1 hx;exact kL hs o (hT u hu)
 rw [z33 hn hok hs hg o hT hl,zA,zZU hK (by simpa using hl),zA];cases h:zDH (T.map (sK n c o)) with
 | false=>
  have:srE (T.map (sK n c o)) (sK n c o t)=(-1,false):=by unfold srE;rw [h];rfl
  rw [this];rfl
 | true=>
  rw [Bool.not_true,cond_false,kE hn hok hs hg o ht,zA,z11 hK (by simpa using hl) h,zA]
end
theorem yLY {t:List Int} (h:t.length≤800) (hs:∀x∈t,syl x=false):TOk nZ t:=⟨by omega,by rw [zUM t hs];omega⟩
theorem tK (t:List Int) (h:t.all (fun x=>!syl x)=true) (hd:csE (clE []) t=t):sK nZ cL oL t=zGM oL (wk cL [] t).1 t:=sKL (fun x hx=>by simpa using List.all_eq_true.1 h x hx) hd
theorem zQL:wK=some true:=by
 have tok:∀t:List Int,t.length≤2→t.all (fun x=>!syl x)=true→TOk nZ t:=fun t h1 h2=>yLY (by omega) (fun x hx=>by simpa using List.all_eq_true.1 h2 x hx);have g0:∀g∈cL.Groups,g.Name.length≤MX:=fun g hg=>by cases hg
 have a1:=tok [97] (by simp) (by decide);have a2:=tok [65] (by simp) (by decide);have a3:=tok [98] (by simp) (by decide);have a4:=tok [97,98] (by simp) (by decide);have a5:=tok [] (by simp) (by decide);have k1:=tK [97] (by decide) (by decide);have k2:=tK [65] (by decide) (by decide);have k3:=tK [98] (by decide) (by decide);have s1:=zZT z1W zR0 z1Z g0 oL (T:=[[98],[65],[97]]) (fun t ht=>by simp only [List.mem_cons,List.not_mem_nil,or_false] at ht;rcases ht with rfl | rfl | rfl <;> assumption) (by simp)
 have s2:=zOT z1W zR0 z1Z g0 oL (T:=[[97],[65]]) (fun t ht=>by simp only [List.mem_cons,List.not_mem_nil,or_false] at ht;rcases ht with rfl | rfl <;> assumption) (by simp) a2
 have s3:=zOT z1W zR0 z1Z g0 oL (T:=[[65],[97]]) (fun t ht=>by simp only [List.mem_cons,List.not_mem_nil,or_false] at ht;rcases ht with rfl | rfl <;> assumption) (by simp) a2
 have s4:=cE z1W zR0 z1Z g0 oL a1 a2;have s5:=lE z1W zR0 z1Z g0 oL a1 a2;have s6:=yAQ z1W zR0 z1Z g0 oL a4 a2;have s7:=yAQ z1W zR0 z1Z g0 oL a5 a2;simp only [List.map_cons,List.map_nil,k1,k2,k3] at s1 s2 s3;unfold cK at s4;rw [k1,k2] at s4;have eo:zA6 oL=oL:=zZO rfl;have e1:eLm nZ cL [97]=(wk cL [] [97]).1:=by unfold eLm zB9;rw [zUM [97] (by decide),zR1,zZQ];rfl
 have e2:eLm nZ cL [65]=(wk cL [] [65]).1:=by unfold eLm zB9;rw [zUM [65] (by decide),zR1,zZQ];rfl
 have e4:eLm nZ cL [97,98]=(wk cL [] [97,98]).1:=by unfold eLm zB9;rw [zUM [97,98] (by decide),zR1,zZQ];rfl
 have e5:eLm nZ cL []=(wk cL [] []).1:=by unfold eLm zB9;rw [zUM [] (by simp),zR1,zZQ];rfl
 unfold zKW cK at s5;rw [k1,k2,e1,e2,eo] at s5;unfold stE0 stE0.row0 at s6 s7;rw [e4,e2,eo] at s6;rw [e5,e2,eo] at s7;have v1:vA (ltI [zGM oL (wk cL [] [98]).1 [98],zGM oL (wk cL [] [65]).1 [65],zGM oL (wk cL [] [97]).1 [97]]) (zCP ([[98],[65],[97]]:List (List Int)).length) []= [2,1,0]:=by decide
 have v2:srE [zGM oL (wk cL [] [97]).1 [97],zGM oL (wk cL [] [65]).1 [65]] (zGM oL (wk cL [] [65]).1 [65])=(1,true):=by decide
 have v3:srE [zGM oL (wk cL [] [65]).1 [65],zGM oL (wk cL [] [97]).1 [97]] (zGM oL (wk cL [] [65]).1 [65])=(-1,false):=by decide
 have v4:xY (zGM oL (wk cL [] [97]).1 [97]) (zGM oL (wk cL [] [65]).1 [65])= -1:=by decide
 have v5:fdf (wts (wk cL [] [97]).1 oL) (wts (wk cL [] [65]).1 oL) 0=some 3:=by decide
 have v6:decide (((wts (wk cL [] [65]).1 oL).headD []).length≤((wts (wk cL [] [97,98]).1 oL).headD []).length∧((wts (wk cL [] [97,98]).1 oL).headD []).take ((wts (wk cL [] [65]).1 oL).headD []).length=(wts (wk cL [] [65]).1 oL).headD [])=true:=by decide
 have v7:decide (((wts (wk cL [] [65]).1 oL).headD []).length≤((wts (wk cL [] []).1 oL).headD []).length∧((wts (wk cL [] []).1 oL).headD []).take ((wts (wk cL [] [65]).1 oL).headD []).length=(wts (wk cL [] [65]).1 oL).headD [])=false:=by decide
 rw [v1] at s1;rw [v2] at s2;rw [v3] at s3;rw [v4] at s4;rw [v5] at s5;rw [v6] at s6;rw [v7] at s7;have q1:zCY [2,1,0] [2,1,0]=some true:=by rw [z86 (by simp)];simp
 have hb:wK=(some cL).bind fun t9=>
   (zB2 nZ t9 oL [[98],[65],[97]]).bind fun t19=>
   (wD nZ t9 oL [[97],[65]] [65]).bind fun t28=>
   (wD nZ t9 oL [[65],[97]] [65]).bind fun t39=>
   (k5 nZ t9 oL [97] [65]).bind fun t47=>
   (pv (decide (t47=(-1)))).bind fun b49=>
   (gM b49 (xZ nZ t9 oL [97] [65])).bind fun t55=>
   (pv (b49&&(decide (t55=3)))).bind fun b58=>
   (gM b58 (zCY t19 [2,1,0])).bind fun t61=>
   (pv (b58&&t61)).bind fun b63=>
   (pv (b63&&(decide (t28.1=1)))).bind fun b67=>
   (pv (b67&&t28.2)).bind fun b70=>
   (pv (b70&&(decide (t39.1=(-1))))).bind fun b74=>
   (pv (b74&&(!t39.2))).bind fun b78=>
   (gM b78 (vM nZ t9 oL [97,98] [65])).bind fun t84=>
   (pv (b78&&t84)).bind fun b86=>
   (gM b86 (vM nZ t9 oL [] [65])).bind fun t91=>
   some (b86&&(!t91)):=rfl
 rw [hb];simp only [zA,s1,s2,s3,s4,s5,s6,s7,q1,zS,w9,decide_true,Bool.and_self,Bool.not_false,Bool.true_and,show decide (((3:Nat):Int)=3)=true from rfl]
end Go.M
namespace Go.M
open Go.AV
theorem fw0 {T:List (List Int)} {most:Int} (hl:T.length≤1000):∀(m k:Nat),k+m=T.length→∃y,zG (fun (x:Int)=>zB0 T most x) (k:Int)=some y∧(y= .inr false∨(y= .inl ()∧∀t∈T.drop k,(t.length:Int)≤most))
 | 0,k,h=>⟨.inl (),zM (by simp only [zB0,kW (show T.length≤k by omega),cond_false]),.inr ⟨rfl,by rw [List.drop_of_length_le (by omega)];intro x hx;cases hx⟩⟩
 | m+1,k,h=>by
  have hk:k < T.length:=by omega
  by_cases h1:(T[k].length:Int)≤most;obtain ⟨y,h2,h3⟩:=fw0 (most:=most) hl m (k+1) (by omega);refine ⟨y,?_,?_⟩;rw [zU (x':=((k+1:Nat):Int)) (by simp only [zB0,zIN,kK hk,cond_true,zW hk,zA,h1,decide_true,Bool.not_true,cond_false,zP (k:=k) (by omega)])];exact h2;rcases h3 with h3 | ⟨h3,h4⟩
  exact .inl h3;refine .inr ⟨h3,?_⟩;rw [List.drop_eq_getElem_cons hk];intro x hx;rcases List.mem_cons.1 hx with rfl | hx
  exact h1;exact h4 x hx;exact ⟨.inr false,zM (by simp only [zB0,zIN,kK hk,cond_true,zW hk,zA,h1,decide_false,Bool.not_false]),.inl rfl⟩
theorem z34 (s:Unicodetextlaw45_Setting) {T:List (List Int)} {most:Int} (hl:T.length≤1000):∃b,zEA s most T=some b∧(b=true→NSm s.Norm∧Sm s.Collation∧∀t∈T,(t.length:Int)≤most):=by
 obtain ⟨y,h1,h2⟩:=fw0 (T:=T) (most:=most) hl T.length 0 (by omega);rw [show ((0:Nat):Int)=0 from rfl] at h1;unfold zEA;rw [h1,zA];rcases h2 with rfl | ⟨rfl,h3⟩;exact ⟨false,rfl,fun h=>by cases h⟩;rw [List.drop_zero] at h3;obtain ⟨b,hb,hp⟩:=yDQ s.Norm;rw [Sum.elim_inl,hb,zA,zS];cases b with
 | false=>exact ⟨false,rfl,fun h=>by cases h⟩
 | true=>
  simp only [w9,z81,zA,Bool.true_and];exact ⟨_,rfl,fun h=>⟨hp rfl,yG5 h,h3⟩⟩
theorem z12 {n:Norm} (hn:NSm n) (hok:wS n) {t:List Int} (h:t.length≤12):TOk n t:=⟨by omega,by have:=z56 hn hok false t;omega⟩
theorem zZV:∀{A B:List (List Int)} {k:Nat},A.length=B.length→fdf A B k=none→A=B
 | [],[],_,_,_=>rfl
 | [],y::B,_,h,_=>by simp at h
 | x::A,[],_,h,_=>by simp at h
 | x::A,y::B,k,h,hf=>by
  simp only [fdf] at hf;split at hf;rename_i hx;rw [hx,zZV (by simpa using h) hf];cases hf
theorem zWP:∀{A B:List (List Int)} {k i:Nat},fdf A B k=some i→k < i∧i≤k+A.length∧A≠B
 | [],_,_,_,h=>by simp [fdf] at h
 | _::_,[],_,_,h=>by simp [fdf] at h
 | x::A,y::B,k,i,h=>by
  simp only [fdf] at h;split at h;rename_i hx;obtain ⟨h1,h2,h3⟩:=zWP h;refine ⟨by omega,by simp;omega,fun e=>h3 (List.cons.inj e).2⟩
  rename_i hx;cases h;exact ⟨by omega,by simp,fun e=>hx (List.cons.inj e).1⟩
theorem zZW:∀(S:Nat) (A B:List (List Int)) (k:Nat),(∀i,fdf (A.take S) (B.take S) k=some i→fdf A B k=some i)
 | 0,_,_,_,i,h=>by simp [fdf] at h
 | S+1,[],_,_,i,h=>by simp [fdf] at h
 | S+1,_::_,[],_,i,h=>by simp [fdf] at h
 | S+1,x::A,y::B,k,i,h=>by
  simp only [List.take_succ_cons,fdf] at h ⊢;split at h;rename_i hx;rw [if_pos hx];exact zZW S A B (k+1) i h;rename_i hx;rw [if_neg hx];exact h
theorem zZX:∀(S:Nat) (A B:List (List Int)) (k i:Nat),A.length=S+1→B.length=S+1→fdf (A.take S) (B.take S) k=none→fdf A B k=some i→i=k+S+1
 | 0,[x],[y],k,i,_,_,_,h=>by
  simp only [fdf] at h;split at h;cases h;cases h;rfl
 | S+1,x::A,y::B,k,i,hA,hB,hn,h=>by
  simp only [List.take_succ_cons,fdf] at hn h;split at hn;rename_i hx;rw [if_pos hx] at h;have:=zZX S A B (k+1) i (by simpa using hA) (by simpa using hB) hn h;omega;cases hn
 | 0,[],_,_,_,hA,_,_,_=>by simp at hA
 | 0,_::_::_,_,_,_,hA,_,_,_=>by simp at hA
 | 0,[_],[],_,_,_,hB,_,_=>by simp at hB
 | 0,[_],_::_::_,_,_,_,hB,_,_=>by simp at hB
 | S+1,[],_,_,_,hA,_,_,_=>by simp at hA
 | S+1,_::_,[],_,_,_,hB,_,_=>by simp at hB
theorem yFR {n:Norm} {c:Collation} {o:Options} {a b:List Int}:zKW n c o a b=0↔cK n c o a b=0:=by
 unfold zKW;cases hf:fdf (wts (eLm n c a) (zA6 o)) (wts (eLm n c b) (zA6 o)) 0 with
 | none=>
  simp only [];by_cases h:cK n c o a b=0 <;> simp [h]
 | some i=>
  obtain ⟨h1,h2,h3⟩:=zWP hf;simp only [];refine ⟨fun h=>by omega,fun h=>?_⟩;unfold cK sK at h;exact absurd (zZR (zMC o) (zF4.1 h)).1 h3
theorem yAT {n:Norm} {c:Collation} {o:Options} {a b:List Int} (h:sK n c o a=sK n c o b):cK n c o a b=0∧zKW n c o a b=0:=by have:cK n c o a b=0:=zF4.2 h;exact ⟨this,yFR.2 this⟩
theorem law45_CollateEquivalent_true (s:Unicodetextlaw45_Setting) (a:List Int) (ok:kO s) {q:Prop} (_:q):uE s a=some true:=by
 unfold uE;obtain ⟨f,hf,hp⟩:=z34 s (T:=[a]) (most:=8) (by simp);rw [hf,zA,zQL];cases f with
 | false=>rfl
 | true=>
 obtain ⟨hn,hc,ht⟩:=hp rfl;have hg:=zQA ok.2.1;have ha:=z12 hn ok.1 (t:=a) (by have:=ht a (by simp);omega)
 have hdl:(zB9 s.Norm false a).length≤900:=by rw [zKV];exact ha.2
 have hb:TOk s.Norm (zB9 s.Norm false a):=⟨by omega,by rw [zUI hn ok.1];exact hdl⟩
 have he:sK s.Norm s.Collation s.Options a=sK s.Norm s.Collation s.Options (zB9 s.Norm false a):=by
  unfold sK eLm;rw [z57 hn ok.1]
 obtain ⟨h1,h2⟩:=yAT he;rw [Bool.not_true,cond_false,yH2 hn ok.1 ha.1 ha.2,zA,cE hn ok.1 hc hg _ ha hb,zA,lE hn ok.1 hc hg _ ha hb,h1,h2];simp only [decide_true,zS,w9,zA,Bool.and_self]
theorem law45_CollateOrders_true (s:Unicodetextlaw45_Setting) (t:A3ListInt) (ok:kO s) {q:Prop} (_:q):zA7 s t=some true:=by
 unfold zA7;obtain ⟨f,hf,hp⟩:=z34 s (T:=[t.x0,t.x1,t.x2]) (most:=8) (by simp);rw [hf,zA,zQL];cases f with
 | false=>rfl
 | true=>
 obtain ⟨hn,hc,ht⟩:=hp rfl;have hg:=zQA ok.2.1;have h0:=z12 hn ok.1 (t:=t.x0) (by have:=ht t.x0 (by simp);omega)
 have h1:=z12 hn ok.1 (t:=t.x1) (by have:=ht t.x1 (by simp);omega)
 have h2:=z12 hn ok.1 (t:=t.x2) (by have:=ht t.x2 (by simp);omega)
 have c01:=cE hn ok.1 hc hg s.Options h0 h1;have c12:=cE hn ok.1 hc hg s.Options h1 h2;have c02:=cE hn ok.1 hc hg s.Options h0 h2;have c10:=cE hn ok.1 hc hg s.Options h1 h0;have c00:=cE hn ok.1 hc hg s.Options h0 h0;have l01:=lE hn ok.1 hc hg s.Options h0 h1;have z:=yFR (n:=s.Norm) (c:=s.Collation) (o:=s.Options) (a:=t.x0) (b:=t.x1);have v:=z1Y (sK s.Norm s.Collation s.Options t.x0) (sK s.Norm s.Collation s.Options t.x1);have ng:=zI1 (sK s.Norm s.Collation s.Options t.x0) (sK s.Norm s.Collation s.Options t.x1);have tr:=@zR4 (sK s.Norm s.Collation s.Options t.x0) (sK s.Norm s.Collation s.Options t.x1) (sK s.Norm s.Collation s.Options t.x2);have s00:xY (sK s.Norm s.Collation s.Options t.x0) (sK s.Norm s.Collation s.Options t.x0)=0:=zF4.2 rfl;unfold cK at c01 c12 c02 c10 c00 z;rw [ng] at c10;rw [s00] at c00;generalize xY (sK s.Norm s.Collation s.Options t.x0) (sK s.Norm s.Collation s.Options t.x1)=x at*;generalize xY (sK s.Norm s.Collation s.Options t.x1) (sK s.Norm s.Collation s.Options t.x2)=y at*;generalize xY (sK s.Norm s.Collation s.Options t.x0) (sK s.Norm s.Collation s.Options t.x2)=w at*;generalize zKW s.Norm s.Collation s.Options t.x0 t.x1=l at*;have hw:wi (-x)= -x:=xT (by omega) (by omega);have b1:decide (x < -1)=false:=by simp;omega
 have b2:decide (1 < x)=false:=by simp;omega
 have hz:(decide (l=0)==decide (x=0))=true:=by
  by_cases hx:x=0;simp [hx,z.2 hx];have:¬l=0:=fun h=>hx (z.1 h);simp [hx,this]
 rw [Bool.not_true,cond_false,c01,zA,c12,zA,c02,zA];simp only [zS,b1,b2,Bool.or_self,Bool.not_false,w9,c10,zA,hw,decide_true,Bool.not_true,c00,l01,hz,cond_false];have hfin:((decide (0 < x) ||decide (0 < y)) ||(decide (w≤0)&&(decide (w=0)==(decide (x=0)&&decide (y=0)))))=true:=by
  by_cases hx:0 < x;simp [hx];by_cases hy:0 < y;simp [hy];obtain ⟨t1,t2⟩:=tr (by omega) (by omega);by_cases hw0:w=0;obtain ⟨e1,e2⟩:=t2.1 hw0;simp [hw0,e1,e2];have:¬(x=0∧y=0):=fun h=>hw0 (t2.2 h);have h3:(decide (x=0)&&decide (y=0))=false:=by
   cases hq:(decide (x=0)&&decide (y=0)) with
   | false=>rfl
   | true=>exact absurd (by simpa using hq) this
  rw [h3];simp [hw0,t1]
 simp only [hfin,w9,zA,Bool.and_self]
theorem law45_CollateStrengths_true (s:Unicodetextlaw45_Setting) (a b:List Int) (ok:kO s) {q:Prop} (_:q) {q2:Prop} (_:q2):uP s a b=some true:=by
  unfold uP;obtain ⟨f,hf,hp⟩:=z34 s (T:=[a,b]) (most:=8) (by simp);rw [hf,zA,zQL];simp only [zS];by_cases hbad:f=false∨s.Options.Strength < 1∨3 < s.Options.Strength∨s.Options.Variable < 1∨3 < s.Options.Variable
  · have e:((((!f ||decide (s.Options.Strength < 1)) ||decide (3 < s.Options.Strength)) ||decide (s.Options.Variable < 1)) ||decide (3 < s.Options.Variable))=true:=by
      simp only [Bool.or_eq_true,decide_eq_true_eq,Bool.not_eq_true'];rcases hbad with h | h
      · simp [h]
      · omega
    rw [e];rfl
  · have e:((((!f ||decide (s.Options.Strength < 1)) ||decide (3 < s.Options.Strength)) ||decide (s.Options.Variable < 1)) ||decide (3 < s.Options.Variable))=false:=by
      simp only [Bool.or_eq_false_iff,decide_eq_false_iff_not,Bool.not_eq_false'];cases f
      · simp at hbad
      · simp only [true_and];omega
    have hft:f=true:=by cases f;simp at hbad;rfl
    obtain ⟨hn,hc,ht⟩:=hp hft;have hg:=zQA ok.2.1;have ha:=z12 hn ok.1 (t:=a) (by have:=ht a (by simp);omega)
    have hb:=z12 hn ok.1 (t:=b) (by have:=ht b (by simp);omega)
    rw [e,cond_false];generalize hS:s.Options=o at*;have hS1:1≤o.Strength∧o.Strength≤3∧1≤o.Variable∧o.Variable≤3:=by omega
    have hw:wi (o.Strength+1)=o.Strength+1:=xT (by omega) (by omega);rw [hw];have k1:ckO o=0:=by unfold ckO;rw [if_neg (by omega),if_neg (by omega)]
    have k2:ckO {Strength:=o.Strength+1,Variable:=o.Variable,Backward:=o.Backward,Identical:=o.Identical}=0:=by unfold ckO;simp only [];rw [if_neg (by omega),if_neg (by omega)]
    rw [show ({Strength:=o.Strength,Variable:=o.Variable,Backward:=o.Backward,Identical:=o.Identical}:Options)=o from rfl,lE hn ok.1 hc hg _ ha hb,zA,lE hn ok.1 hc hg _ ha hb,zA];have hA:∀t,wts (eLm s.Norm s.Collation t) o=(wts (eLm s.Norm s.Collation t) {Strength:=o.Strength+1,Variable:=o.Variable,Backward:=o.Backward,Identical:=o.Identical}).take o.Strength.toNat:=fun t=>
      yAN (o:={Strength:=o.Strength+1,Variable:=o.Variable,Backward:=o.Backward,Identical:=o.Identical}) k2 hS1.1 (by simp only [];omega)
    have hlA:=zJM (l:=eLm s.Norm s.Collation a) k2;have hlB:=zJM (l:=eLm s.Norm s.Collation b) k2;simp only [] at hlA hlB;have hcons:(zKW s.Norm s.Collation o a b=0∨zKW s.Norm s.Collation o a b=5∨zKW s.Norm s.Collation {Strength:=o.Strength+1,Variable:=o.Variable,Backward:=o.Backward,Identical:=o.Identical} a b=zKW s.Norm s.Collation o a b)∧
        (zKW s.Norm s.Collation o a b≠0∨zKW s.Norm s.Collation {Strength:=o.Strength+1,Variable:=o.Variable,Backward:=o.Backward,Identical:=o.Identical} a b=0∨zKW s.Norm s.Collation {Strength:=o.Strength+1,Variable:=o.Variable,Backward:=o.Backward,Identical:=o.Identical} a b=o.Strength+1):=by
      unfold zKW cK sK;rw [zZO k1,zZO k2,hA a,hA b];cases h1:fdf ((wts (eLm s.Norm s.Collation a) {Strength:=o.Strength+1,Variable:=o.Variable,Backward:=o.Backward,Identical:=o.Identical}).take o.Strength.toNat) ((wts (eLm s.Norm s.Collation b) {Strength:=o.Strength+1,Variable:=o.Variable,Backward:=o.Backward,Identical:=o.Identical}).take o.Strength.toNat) 0 with
      | some i=>
        have h2:=zZW _ _ _ 0 i h1;have h3:=zWP h1;rw [h2];simp only [];exact ⟨.inr (.inr trivial),.inl (by omega)⟩
      | none=>
        simp only [];by_cases h0:xY (zGM o (eLm s.Norm s.Collation a) (zB9 s.Norm false a)) (zGM o (eLm s.Norm s.Collation b) (zB9 s.Norm false b))=0
        · rw [if_pos h0]
          refine ⟨.inl rfl,.inr ?_⟩;cases h2:fdf (wts (eLm s.Norm s.Collation a) {Strength:=o.Strength+1,Variable:=o.Variable,Backward:=o.Backward,Identical:=o.Identical}) (wts (eLm s.Norm s.Collation b) {Strength:=o.Strength+1,Variable:=o.Variable,Backward:=o.Backward,Identical:=o.Identical}) 0 with
          | some i=>
            have:=zZX o.Strength.toNat _ _ 0 i (by rw [hlA];omega) (by rw [hlB];omega) h1 h2
            simp only [];exact .inr (by omega)
          | none=>
            have hw2:=zZV (by rw [hlA,hlB]) h2;have hid:=(zZR k1 (zF4.1 h0)).2;simp only [];refine .inl (if_pos (zF4.2 ?_));unfold zGM;rw [hw2];simp only [];by_cases hi:o.Identical=true
            · rw [if_pos hi,if_pos hi,hid hi]
            · rw [if_neg hi,if_neg hi]
        · rw [if_neg h0]
          exact ⟨.inr (.inl rfl),.inl (by omega)⟩
    generalize zKW s.Norm s.Collation o a b=x at*;generalize zKW s.Norm s.Collation {Strength:=o.Strength+1,Variable:=o.Variable,Backward:=o.Backward,Identical:=o.Identical} a b=y at*;have hfin:(((decide (x=0) ||decide (x=5)) ||decide (y=x))&&((!decide (x=0) ||decide (y=0)) ||decide (y=o.Strength+1)))=true:=by
      simp only [Bool.and_eq_true,Bool.or_eq_true,decide_eq_true_eq,Bool.not_eq_true',decide_eq_false_iff_not];omega
    simp only [hfin,w9,zA,Bool.and_self]
end Go.M
namespace Go.M
open Go.AV
theorem yJ6 {T:List (List Int)} {f:List Int→List Int} {i:Int} (h:0≤i∧i < T.length):∃t∈T,yH T i=some t∧kI (T.map f) i=f t:=by
 have e:i=((i.toNat:Nat):Int):=by omega
 have hlt:i.toNat < T.length:=by omega
 refine ⟨T[i.toNat],List.getElem_mem hlt,?_,?_⟩;rw [show yH T i=yH T ((i.toNat:Nat):Int) from by rw [←e]];exact zW hlt;unfold kI;rw [List.getD_eq_getElem?_getD,List.getElem?_map,List.getElem?_eq_getElem hlt];rfl
theorem z13 {T:List (List Int)} {f:List Int→List Int} {i:Nat} (h:i < T.length):kN (T.map f) i=f T[i]:=by unfold kN;rw [List.getD_eq_getElem?_getD,List.getElem?_map,List.getElem?_eq_getElem h];rfl
end Go.M
namespace Go.M
open Go.AV
theorem zWQ (n:Nat):(zCP n).Nodup:=by unfold zCP List.Nodup;rw [List.pairwise_map];exact (List.nodup_range (n:=n)).imp (fun h e=>h (by omega))
theorem zZY {K:List (List Int)} {a b:Int}:ltI K a b=false↔0≤xY (kI K a) (kI K b):=by unfold ltI;rw [decide_eq_false_iff_not];omega
theorem z6E {K:List (List Int)} {key:List Int} {j:Nat} (hj:j < K.length) (h:0≤xY (kN K j) key):zNU K key≤j∧0≤xY (kN K (zNU K key)) key:=by
 have hkj:kN K j=K[j]:=by unfold kN;rw [List.getD_eq_getElem?_getD,List.getElem?_eq_getElem hj];rfl
 cases hf:K.findIdx? fun x=>decide (0≤xY x key) with
 | none=>
  rw [List.findIdx?_eq_none_iff] at hf;have:=hf K[j] (List.getElem_mem hj);rw [hkj] at h;simp at this;omega
 | some i=>
  obtain ⟨h1,h2,h3⟩:=List.findIdx?_eq_some_iff_getElem.1 hf;have hi:zNU K key=i:=by unfold zNU;rw [hf];rfl
  have hki:kN K i=K[i]:=by unfold kN;rw [List.getD_eq_getElem?_getD,List.getElem?_eq_getElem h1];rfl
  rw [hi,hki];refine ⟨?_,by simpa using h2⟩;by_cases hlt:j < i;have:=h3 j hlt;rw [hkj] at h;simp at this;omega;omega
theorem fi0 {out:List Int} {T:List (List Int)} (hl:T.length≤1000) (ho:out.length=T.length) (hr:∀x∈out,0≤x∧x < (T.length:Int)) (hn:out.Nodup):∀(m k:Nat) (seen:List Bool),k+m=out.length→seen.length=T.length→(∀x∈out.drop k,yH seen x=some false)→
  zG (fun (x:Int×(List Bool)×(List (List Int)))=>xO out T x.1 x.2.1 x.2.2) ((k:Int),seen,(out.take k).map (kI T))=some (.inl (out.map (kI T)))
 | 0,k,seen,h,hs,hx=>by
  rw [List.take_of_length_le (by omega)];exact zM (by simp only [xO,kW (show out.length≤k by omega),cond_false])
 | m+1,k,seen,h,hs,hx=>by
  have hk:k < out.length:=by omega
  have hv:=hr _ (List.getElem_mem hk);have hd:out.drop k=out[k]::out.drop (k+1):=List.drop_eq_getElem_cons hk;have hse:=hx out[k] (hd▸List.mem_cons_self);have b1:decide (out[k] < 0)=false:=decide_eq_false (by omega);have b2:decide ((T.length:Int)≤out[k])=false:=decide_eq_false (by omega);have e:out[k]=((out[k].toNat:Nat):Int):=by omega
  have hlt:out[k].toNat < seen.length:=by omega
  have hset:vS seen out[k] true=some (seen.set out[k].toNat true):=by
   rw [show vS seen out[k] true=vS seen ((out[k].toNat:Nat):Int) true from by rw [←e]];exact zDX hlt true
  rw [zU (x':=(((k+1:Nat):Int),seen.set out[k].toNat true,(out.take (k+1)).map (kI T)))
   (by
    simp only [xO,kK hk,cond_true,zW hk,zA,zS,b1,b2,Bool.or_self,Bool.not_false,w9,hse,cond_false,hset,zR5 hv];rw [zAD (by rw [List.length_map,List.length_take];simp;omega),zA,zP (k:=k) (by omega)]
    rw [List.take_add_one,List.getElem?_eq_getElem hk,List.map_append];rfl)]
  refine fi0 hl ho hr hn m (k+1) _ (by omega) (by simpa using hs) (fun x hm=>?_);have hne:out[k]≠x:=by
   have hnd:(out.drop k).Nodup:=hn.sublist (List.drop_sublist k out);rw [hd] at hnd;exact fun he=>(List.nodup_cons.1 hnd).1 (he▸hm)
  have hxm:x∈out.drop k:=by rw [hd];exact List.mem_cons_of_mem _ hm
  have hxr:=hr x (List.mem_of_mem_drop hxm);have h0:=hx x hxm;have ex:x=((x.toNat:Nat):Int):=by omega
  have hxl:x.toNat < seen.length:=by omega
  rw [ex,zW hxl] at h0;rw [ex,zW (by rw [List.length_set];exact hxl),List.getElem_set_ne (by omega)]
  exact h0
section
variable {n:Norm} {c:Collation} (hn:NSm n) (hok:wS n) (hs:Sm c) (hg:∀g∈c.Groups,g.Name.length≤MX)
include hn hok hs hg
theorem fi1 (s:Unicodetextlaw45_Setting) (e1:s.Norm=n) (e2:s.Collation=c) {S:List (List Int)} (hS:∀t∈S,TOk n t) (hl:S.length≤1000) (hso:zDH (S.map (sK n c s.Options))=true):∀(m k:Nat),k+m=S.length→zG (fun (x:Int)=>xP S s x) (k:Int)=some (.inl ())
 | 0,k,h=>zM (by simp only [xP,kW (show S.length≤k by omega),cond_false])
 | m+1,k,h=>by
  have hk:k < S.length:=by omega
  have hkm:k < (S.map (sK n c s.Options)).length:=by simpa using hk
  have hkk:kN (S.map (sK n c s.Options)) k=sK n c s.Options S[k]:=z13 hk;obtain ⟨q1,q2⟩:=z6E (key:=sK n c s.Options S[k]) hkm (by rw [hkk,zF4.2 rfl];omega)
  have hse:=zOT hn hok hs hg s.Options hS hl (hS _ (List.getElem_mem hk));have hj:zNU (S.map (sK n c s.Options)) (sK n c s.Options S[k]) < S.length:=by omega
  have q3:=zOS hso (k - zNU (S.map (sK n c s.Options)) (sK n c s.Options S[k])) (zNU (S.map (sK n c s.Options)) (sK n c s.Options S[k])) (by rw [List.length_map];omega)
  unfold srE at hse;rw [if_pos hso] at hse;have hm:=z13 (f:=sK n c s.Options) hj;have hce:=cE hn hok hs hg s.Options (hS _ (List.getElem_mem hj)) (hS _ (List.getElem_mem hk));unfold cK at hce;rw [←hm] at hce;rw [List.length_map] at hse;have hidx:=zW hj;generalize zNU (S.map (sK n c s.Options)) (sK n c s.Options S[k])=j at*;rw [show j+(k - j)=k by omega,hkk] at q3;have q4:=zI1 (sK n c s.Options S[k]) (kN (S.map (sK n c s.Options)) j);have h0:xY (kN (S.map (sK n c s.Options)) j) (sK n c s.Options S[k])=0:=by omega
  rw [h0] at hce hse;have b0:decide (j < S.length∧(0:Int)=0)=true:=decide_eq_true ⟨hj,rfl⟩;have b1:decide ((j:Int) < 0)=false:=decide_eq_false (by omega);have b2:decide ((k:Int) < (j:Int))=false:=decide_eq_false (by omega);rw [b0] at hse;rw [zU (x':=((k+1:Nat):Int)) (by simp only [xP,e1,e2,kK hk,cond_true,zW hk,zA,hse,zS,Bool.not_true,b1,b2,Bool.or_self,Bool.not_false,w9,hidx,hce,decide_true,cond_false,zP (k:=k) (by omega)])];exact fi1 s e1 e2 hS hl hso m (k+1) (by omega)
end
theorem law45_CollateFinds_true (s:Unicodetextlaw45_Setting) (T:List (List Int)) (ok:kO s) {q:Prop} (_:q):zB3 s T=some true:=by
 unfold zB3;rw [zS,zQL];by_cases h6:5 < (T.length:Int);rw [decide_eq_true h6];simp only [Bool.not_true,zA5,zA,Bool.true_or,zS,cond_true];rw [decide_eq_false h6];have hl:T.length≤1000:=by omega
 obtain ⟨f,hf,hp⟩:=z34 s (T:=T) (most:=6) hl;simp only [Bool.not_false,w9,hf,zA,Bool.false_or];cases f with
 | false=>rfl
 | true=>
 obtain ⟨hn,hc,ht⟩:=hp rfl;have hg:=zQA ok.2.1;have hT:∀x∈T,TOk s.Norm x:=fun x hx=>z12 hn ok.1 (by have:=ht x hx;omega)
 rw [Bool.not_true,cond_false,zZT hn ok.1 hc hg _ hT (by omega),zA];have hpm:=zHC (ltI (T.map (sK s.Norm s.Collation s.Options))) (zCP T.length) [];rw [List.nil_append] at hpm;have hso:=zGI (ltI (T.map (sK s.Norm s.Collation s.Options))) (fun a b d h1 h2=>zZY.2 (yAS (zZY.1 h1) (zZY.1 h2))) (fun a b h=>by
  rw [zZY];unfold ltI at h;have:=of_decide_eq_true h;have:=zI1 (kI (T.map (sK s.Norm s.Collation s.Options)) a) (kI (T.map (sK s.Norm s.Collation s.Options)) b);omega) (zCP T.length) [] List.Pairwise.nil
 generalize vA (ltI (T.map (sK s.Norm s.Collation s.Options))) (zCP T.length) []=out at*;have hlen:out.length=T.length:=by rw [hpm.length_eq,zJN]
 have hr:∀x∈out,0≤x∧x < (T.length:Int):=fun x hx=>zR6 (hpm.mem_iff.1 hx);have hnd:out.Nodup:=hpm.nodup_iff.2 (zWQ _);have b0:decide ((out.length:Int)=(T.length:Int))=true:=decide_eq_true (by omega);rw [b0,Bool.not_true,cond_false,zOG (by omega),zA];have h0:=fi0 hl hlen hr hnd out.length 0 (List.replicate T.length false) (by omega) (by simp) (fun x hx=>by
  have hv:=hr x (by simpa using hx);have ex:x=((x.toNat:Nat):Int):=by omega
  rw [ex,zW (by rw [List.length_replicate];omega)]
  simp)
 rw [show ((0:Nat):Int)=0 from rfl,List.take_zero,List.map_nil] at h0;rw [h0,zA,Sum.elim_inl];have hS:∀t∈out.map (kI T),TOk s.Norm t:=fun t hm=>by
  obtain ⟨x,hx,rfl⟩:=List.mem_map.1 hm;obtain ⟨u,hu,hui,_⟩:=yJ6 (f:=id) (hr x hx);rw [zR5 (hr x hx)] at hui;cases hui;exact hT _ hu
 have hsb:zDH ((out.map (kI T)).map (sK s.Norm s.Collation s.Options))=true:=by
  rw [zFY];intro i hi;rw [List.length_map,List.length_map] at hi;have hL:∀j (h:j < out.length),kN ((out.map (kI T)).map (sK s.Norm s.Collation s.Options)) j=kI (T.map (sK s.Norm s.Collation s.Options)) out[j]:=fun j h=>by
   rw [z13 (by simpa using h)];obtain ⟨u,hu,hui,huk⟩:=yJ6 (f:=sK s.Norm s.Collation s.Options) (hr out[j] (List.getElem_mem h));rw [zR5 (hr out[j] (List.getElem_mem h))] at hui;rw [huk,List.getElem_map];cases hui;rfl
  rw [hL _ hi,hL _ (by omega)];exact zZY.1 (List.pairwise_iff_getElem.1 hso i (i+1) (by omega) hi (by omega))
 have h1:=fi1 hn ok.1 hc hg s rfl rfl hS (by simp;omega) hsb (out.map (kI T)).length 0 (by omega)
 rw [show ((0:Nat):Int)=0 from rfl] at h1;rw [h1];rfl
end Go.M


/- What the plain counterparts answer. Conditions: none. -/
import Derived.Test.YtoekgplgehlpjaaGreatDoorPu2
set_option linter.unusedSimpArgs false
set_option linter.unusedVariables false
set_option linter.unnecessarySimpa false
namespace Go.M
open Go.AV
def kN (K:List (List Int)) (i:Nat):List Int:=K.getD i []
theorem zQG {K:List (List Int)} {i:Nat} (h:i < K.length):z6 K (i:Int)=some (kN K i):=by rw [zT h];unfold kN;rw [List.getD_eq_getElem?_getD,List.getElem?_eq_getElem h];rfl
theorem z4K {K:List (List Int)} {i:Nat} (h:i < K.length):kN K i∈K:=by unfold kN;rw [List.getD_eq_getElem?_getD,List.getElem?_eq_getElem h];exact List.getElem_mem h
def zFB (K:List (List Int)):Bool:=(List.range (K.length - 1)).all fun i=>decide (0≤uM (kN K (i+1)) (kN K i))
theorem zI6 {K:List (List Int)}:zFB K=true↔∀i,i+1 < K.length→0≤uM (kN K (i+1)) (kN K i):=by unfold zFB;simp only [List.all_eq_true,List.mem_range,decide_eq_true_eq];exact ⟨fun h i hi=>h i (by omega),fun h i hi=>h i (by omega)⟩
def z82 (K:List (List Int)) (key:List Int):Nat:=(K.findIdx? fun x=>decide (0≤uM x key)).getD K.length
noncomputable def srE (K:List (List Int)) (key:List Int):Int×Bool:=if zFB K=true then ((z82 K key:Int),decide (z82 K key < K.length∧uM (kN K (z82 K key)) key=0)) else (-1,false)
section
variable {K:List (List Int)} (hK:∀x∈K,x.length≤4611686018427387904) (hl:K.length≤1000)
include hK hl
theorem is0:∀(k:Nat),k < K.length→∃y,zE (fun (x:Int)=>yR K (fun x0 x1=>kG x0 x1) x) (k:Int)=some y∧((y= .inl ()∧∀i,i < k→0≤uM (kN K (i+1)) (kN K i))∨(y= .inr false∧∃i,i < k∧¬0≤uM (kN K (i+1)) (kN K i)))
 | 0,h=>⟨.inl (),zJ (by simp only [yR,show decide ((0:Int) < ((0:Nat):Int))=false from rfl,cond_false]),.inl ⟨rfl,fun i hi=>by omega⟩⟩
 | k+1,h=>by
  have e:decide ((0:Int) < ((k+1:Nat):Int))=true:=decide_eq_true (by omega);have e1:wi (((k+1:Nat):Int) - 1)=(k:Int):=zCL (by omega);have hc:=zEM (a:=kN K (k+1)) (b:=kN K k) (hK _ (z4K h));by_cases h0:uM (kN K (k+1)) (kN K k) < 0;refine ⟨.inr false,zJ ?_,.inr ⟨rfl,k,by omega,by omega⟩⟩;simp only [yR,e,cond_true,zQG h,e1,zQG (show k < K.length by omega),zA,hc,h0,decide_true];obtain ⟨y,h1,h2⟩:=is0 k (by omega);refine ⟨y,?_,?_⟩;rw [zP (x':=(k:Int)) (by simp only [yR,e,cond_true,zQG h,e1,zQG (show k < K.length by omega),zA,hc,h0,decide_false,cond_false])];exact h1;rcases h2 with ⟨h2,h3⟩ | ⟨h2,i,h3,h4⟩
  refine .inl ⟨h2,fun i hi=>?_⟩;rcases Nat.lt_or_eq_of_le (Nat.le_of_lt_succ hi) with hi | rfl
  exact h3 i hi;omega;exact .inr ⟨h2,i,by omega,h4⟩
theorem z15:jZ K (fun x0 x1=>kG x0 x1)=some (zFB K):=by
  unfold jZ;by_cases h0:K.length=0
  · have e:wi ((K.length:Int) - 1)= -1:=by rw [h0];rfl
    have hb:zFB K=true:=by rw [zI6];intro i hi;omega
    rw [e,zJ (y:= .inl ()) (by simp only [yR];rfl),hb]
    rfl
  · have e:wi ((K.length:Int) - 1)=((K.length - 1:Nat):Int):=by rw [xS (by omega) (by omega)];omega
    obtain ⟨y,h1,h2⟩:=is0 hK hl (K.length - 1) (by omega);rw [e,h1,zA];rcases h2 with ⟨rfl,h3⟩ | ⟨rfl,i,h3,h4⟩
    · have hb:zFB K=true:=by rw [zI6];intro i hi;exact h3 i (by omega)
      rw [hb];rfl
    · have hb:zFB K=false:=by
        cases h:zFB K with
        | false=>rfl
        | true=>exact absurd (zI6.1 h i (by omega)) h4
      rw [hb];rfl
omit hK hl in
theorem yH9 {a b c:List Int} (h1:0≤uM b a) (h2:0≤uM c b):0≤uM c a:=by
 have q1:uM a b≤0:=by have:=zTY a b;omega
 have q2:uM b c≤0:=by have:=zTY b c;omega
 have:=(z4H q1 q2).1;have:=zTY a c;omega
omit hK hl in
theorem zWT (h:zFB K=true):∀(d i:Nat),i+d < K.length→0≤uM (kN K (i+d)) (kN K i)
 | 0,i,hi=>by rw [Nat.add_zero,zQF.2 rfl];omega
 | d+1,i,hi=>by
  have h1:=zWT h d i (by omega);have h2:=zI6.1 h (i+d) (by omega);exact yH9 h1 h2
omit hK hl in
theorem yG2 {key:List Int} {j:Nat} (hj:j≤K.length) (h1:∀k,k < j→uM (kN K k) key < 0) (h2:j < K.length→0≤uM (kN K j) key):z82 K key=j:=by
  unfold z82;rcases Nat.lt_or_eq_of_le hj with hlt | rfl
  · have:K.findIdx? (fun x=>decide (0≤uM x key))=some j:=by
      rw [List.findIdx?_eq_some_iff_getElem];refine ⟨hlt,?_,fun k hk=>?_⟩
      · have:=h2 hlt
        unfold kN at this;rw [List.getD_eq_getElem?_getD,List.getElem?_eq_getElem hlt] at this;simpa using this
      · have:=h1 k hk
        unfold kN at this;rw [List.getD_eq_getElem?_getD,List.getElem?_eq_getElem (by omega)] at this;simp only [Option.getD_some] at this;simp;omega
    rw [this];rfl
  · have:K.findIdx? (fun x=>decide (0≤uM x key))=none:=by
      rw [List.findIdx?_eq_none_iff];intro x hx;obtain ⟨k,hk,rfl⟩:=List.getElem_of_mem hx;have:=h1 k hk;unfold kN at this;rw [List.getD_eq_getElem?_getD,List.getElem?_eq_getElem hk] at this;simp only [Option.getD_some] at this;simp;omega
    rw [this];rfl
theorem z4L {key:List Int} (hs:zFB K=true):kZ K key (fun x0 x1=>kG x0 x1)=some (srE K key):=by
 unfold kZ srE;obtain ⟨j,hj,hr,hlo,hhi⟩:=zRR (n:=K.length) (by omega) (body:=fun (x:Int×Int)=>yS K (fun x0 x1=>kG x0 x1) key x.1 x.2) (fun k=>decide (0≤uM (kN K k) key))
  (fun k _=>by simp only [yS,kM (Nat.le_refl _),cond_false])
  (fun lo hi h1 h2=>by
   have hm:(lo+hi) / 2 < K.length:=by omega
   simp only [yS,yT h1,cond_true,zME (show lo+hi≤4611686018427387903 by omega),zQG hm,zA,zEM (b:=key) (hK _ (z4K hm)),zM (k:=(lo+hi) / 2) (by omega)];by_cases hc:uM (kN K ((lo+hi) / 2)) key < 0;have:¬0≤uM (kN K ((lo+hi) / 2)) key:=by omega
   simp [hc,this];have:0≤uM (kN K ((lo+hi) / 2)) key:=by omega
   simp [hc,this])
  (fun i j hij hj hi=>by
   simp only [decide_eq_true_eq] at hi ⊢;have:=zWT hs (j - i) i (by omega);rw [show i+(j - i)=j by omega] at this;exact yH9 hi this)
 simp only [decide_eq_false_iff_not,decide_eq_true_eq] at hlo hhi;have hlow:z82 K key=j:=yG2 hj (fun k hk=>by have:=hlo k hk;omega) (fun h=>hhi j (Nat.le_refl _) h)
 rw [hr,zA,zR,if_pos hs,hlow];by_cases h:j < K.length;simp only [yT h,xP,zQG h,zA,zEM (b:=key) (hK _ (z4K h)),Bool.true_and,h,true_and];simp only [kM (show K.length≤j by omega),uL,zA,Bool.false_and,h,false_and,decide_false]
end
section
variable {n:Norm} {c:Collation} (hn:NSm n) (hok:zAD n) (hs:Sm c) (hg:∀g∈c.Groups,g.Name.length≤MX)
include hn hok hs hg
theorem zWU (o:Options) {T:List (List Int)} (hT:∀t∈T,TOk n t) (hl:T.length≤1000) {t:List Int} (ht:TOk n t):vQ n c o T t=some (srE (T.map (sK n c o)) (sK n c o t)):=by
 unfold vQ;have hK:∀x∈T.map (sK n c o),x.length≤4611686018427387904:=fun x hx=>by
  obtain ⟨u,hu,rfl⟩:=List.mem_map.1 hx;exact kL hs o (hT u hu)
 rw [z6O hn hok hs hg o hT hl,zA,z15 hK (by simpa using hl),zA];cases h:zFB (T.map (sK n c o)) with
 | false=>
  have:srE (T.map (sK n c o)) (sK n c o t)=(-1,false):=by unfold srE;rw [h];rfl
  rw [this];rfl
 | true=>
  rw [Bool.not_true,cond_false,kE hn hok hs hg o ht,zA,z4L hK (by simpa using hl) h,zA]
end
theorem yN5 {t:List Int} (h:t.length≤800) (hs:∀x∈t,syl x=false):TOk nZ t:=⟨by omega,by rw [zWS t hs];omega⟩
theorem tK (t:List Int) (h:t.all (fun x=>!syl x)=true) (hd:csE (clE []) t=t):sK nZ cL oL t=zJ1 oL (wk cL [] t).1 t:=sKL (fun x hx=>by simpa using List.all_eq_true.1 h x hx) hd
theorem yG3:zEP=some true:=by
  have tok:∀t:List Int,t.length≤2→t.all (fun x=>!syl x)=true→TOk nZ t:=fun t h1 h2=>yN5 (by omega) (fun x hx=>by simpa using List.all_eq_true.1 h2 x hx);have g0:∀g∈cL.Groups,g.Name.length≤MX:=fun g hg=>by cases hg
  have a1:=tok [97] (by simp) (by decide);have a2:=tok [65] (by simp) (by decide);have a3:=tok [98] (by simp) (by decide);have a4:=tok [97,98] (by simp) (by decide);have a5:=tok [] (by simp) (by decide);have k1:=tK [97] (by decide) (by decide);have k2:=tK [65] (by decide) (by decide);have k3:=tK [98] (by decide) (by decide);have s1:=yDJ z4G zTV z4J g0 oL (T:=[[98],[65],[97]]) (fun t ht=>by simp only [List.mem_cons,List.not_mem_nil,or_false] at ht;rcases ht with rfl | rfl | rfl <;> assumption) (by simp)
  have s2:=zWU z4G zTV z4J g0 oL (T:=[[97],[65]]) (fun t ht=>by simp only [List.mem_cons,List.not_mem_nil,or_false] at ht;rcases ht with rfl | rfl <;> assumption) (by simp) a2
  have s3:=zWU z4G zTV z4J g0 oL (T:=[[65],[97]]) (fun t ht=>by simp only [List.mem_cons,List.not_mem_nil,or_false] at ht;rcases ht with rfl | rfl <;> assumption) (by simp) a2
  have s4:=cE z4G zTV z4J g0 oL a1 a2;have s5:=lE z4G zTV z4J g0 oL a1 a2;have s6:=yDH z4G zTV z4J g0 oL a4 a2;have s7:=yDH z4G zTV z4J g0 oL a5 a2;simp only [List.map_cons,List.map_nil,k1,k2,k3] at s1 s2 s3;unfold cK at s4;rw [k1,k2] at s4;have eo:wC oL=oL:=yC6 rfl;have e1:eLm nZ cL [97]=(wk cL [] [97]).1:=by unfold eLm zC3;rw [zWS [97] (by decide),zTW,z13];rfl
  have e2:eLm nZ cL [65]=(wk cL [] [65]).1:=by unfold eLm zC3;rw [zWS [65] (by decide),zTW,z13];rfl
  have e4:eLm nZ cL [97,98]=(wk cL [] [97,98]).1:=by unfold eLm zC3;rw [zWS [97,98] (by decide),zTW,z13];rfl
  have e5:eLm nZ cL []=(wk cL [] []).1:=by unfold eLm zC3;rw [zWS [] (by simp),zTW,z13];rfl
  unfold yDG cK at s5;rw [k1,k2,e1,e2,eo] at s5;unfold stE0 stE0.row0 at s6 s7;rw [e4,e2,eo] at s6;rw [e5,e2,eo] at s7;have v1:vX (ltI [zJ1 oL (wk cL [] [98]).1 [98],zJ1 oL (wk cL [] [65]).1 [65],zJ1 oL (wk cL [] [97]).1 [97]]) (zF3 ([[98],[65],[97]]:List (List Int)).length) []= [2,1,0]:=by decide
  have v2:srE [zJ1 oL (wk cL [] [97]).1 [97],zJ1 oL (wk cL [] [65]).1 [65]] (zJ1 oL (wk cL [] [65]).1 [65])=(1,true):=by decide
  have v3:srE [zJ1 oL (wk cL [] [65]).1 [65],zJ1 oL (wk cL [] [97]).1 [97]] (zJ1 oL (wk cL [] [65]).1 [65])=(-1,false):=by decide
  have v4:uM (zJ1 oL (wk cL [] [97]).1 [97]) (zJ1 oL (wk cL [] [65]).1 [65])= -1:=by decide
  have v5:fdf (wts (wk cL [] [97]).1 oL) (wts (wk cL [] [65]).1 oL) 0=some 3:=by decide
  have v6:decide (((wts (wk cL [] [65]).1 oL).headD []).length≤((wts (wk cL [] [97,98]).1 oL).headD []).length∧((wts (wk cL [] [97,98]).1 oL).headD []).take ((wts (wk cL [] [65]).1 oL).headD []).length=(wts (wk cL [] [65]).1 oL).headD [])=true:=by decide
  have v7:decide (((wts (wk cL [] [65]).1 oL).headD []).length≤((wts (wk cL [] []).1 oL).headD []).length∧((wts (wk cL [] []).1 oL).headD []).take ((wts (wk cL [] [65]).1 oL).headD []).length=(wts (wk cL [] [65]).1 oL).headD [])=false:=by decide
  rw [v1] at s1;rw [v2] at s2;rw [v3] at s3;rw [v4] at s4;rw [v5] at s5;rw [v6] at s6;rw [v7] at s7;have q1:zA6 [2,1,0] [2,1,0]=some true:=by rw [zTG (by simp)];simp
  have hb:zEP=(some cL).bind fun t9=>
      (zDS nZ t9 oL [[98],[65],[97]]).bind fun t19=>
      (vQ nZ t9 oL [[97],[65]] [65]).bind fun t28=>
      (vQ nZ t9 oL [[65],[97]] [65]).bind fun t39=>
      (wQ nZ t9 oL [97] [65]).bind fun t47=>
      (pv (decide (t47=(-1)))).bind fun b49=>
      (gM b49 (zBF nZ t9 oL [97] [65])).bind fun t55=>
      (pv (b49&&(decide (t55=3)))).bind fun b58=>
      (gM b58 (zA6 t19 [2,1,0])).bind fun t61=>
      (pv (b58&&t61)).bind fun b63=>
      (pv (b63&&(decide (t28.1=1)))).bind fun b67=>
      (pv (b67&&t28.2)).bind fun b70=>
      (pv (b70&&(decide (t39.1=(-1))))).bind fun b74=>
      (pv (b74&&(!t39.2))).bind fun b78=>
      (gM b78 (vR nZ t9 oL [97,98] [65])).bind fun t84=>
      (pv (b78&&t84)).bind fun b86=>
      (gM b86 (vR nZ t9 oL [] [65])).bind fun t91=>
      some (b86&&(!t91)):=rfl
  rw [hb];simp only [zA,s1,s2,s3,s4,s5,s6,s7,q1,zR,xP,decide_true,Bool.and_self,Bool.not_false,Bool.true_and,show decide (((3:Nat):Int)=3)=true from rfl]
end Go.M
namespace Go.M
open Go.AV
theorem fw0 {T:List (List Int)} {most:Int} (hl:T.length≤1000):∀(m k:Nat),k+m=T.length→∃y,zE (fun (x:Int)=>zCH T most x) (k:Int)=some y∧(y= .inr false∨(y= .inl ()∧∀t∈T.drop k,(t.length:Int)≤most))
 | 0,k,h=>⟨.inl (),zJ (by simp only [zCH,kM (show T.length≤k by omega),cond_false]),.inr ⟨rfl,by rw [List.drop_of_length_le (by omega)];intro x hx;cases hx⟩⟩
 | m+1,k,h=>by
  have hk:k < T.length:=by omega
  by_cases h1:(T[k].length:Int)≤most;obtain ⟨y,h2,h3⟩:=fw0 (most:=most) hl m (k+1) (by omega);refine ⟨y,?_,?_⟩;rw [zP (x':=((k+1:Nat):Int)) (by simp only [zCH,zJL,yT hk,cond_true,zT hk,zA,h1,decide_true,Bool.not_true,cond_false,zM (k:=k) (by omega)])];exact h2;rcases h3 with h3 | ⟨h3,h4⟩
  exact .inl h3;refine .inr ⟨h3,?_⟩;rw [List.drop_eq_getElem_cons hk];intro x hx;rcases List.mem_cons.1 hx with rfl | hx
  exact h1;exact h4 x hx;exact ⟨.inr false,zJ (by simp only [zCH,zJL,yT hk,cond_true,zT hk,zA,h1,decide_false,Bool.not_false]),.inl rfl⟩
theorem yMH (s:Unicodetextlaw45_Setting) {T:List (List Int)} {most:Int} (hl:T.length≤1000):∃b,zJM s most T=some b∧(b=true→NSm s.Norm∧Sm s.Collation∧∀t∈T,(t.length:Int)≤most):=by
 obtain ⟨y,h1,h2⟩:=fw0 (T:=T) (most:=most) hl T.length 0 (by omega);rw [show ((0:Nat):Int)=0 from rfl] at h1;unfold zJM;rw [h1,zA];rcases h2 with rfl | ⟨rfl,h3⟩;exact ⟨false,rfl,fun h=>by cases h⟩;rw [List.drop_zero] at h3;obtain ⟨b,hb,hp⟩:=yF8 s.Norm;rw [Sum.elim_inl,hb,zA,zR];cases b with
 | false=>exact ⟨false,rfl,fun h=>by cases h⟩
 | true=>
  simp only [xP,yBO,zA,Bool.true_and];exact ⟨_,rfl,fun h=>⟨hp rfl,yJF h,h3⟩⟩
theorem yMI {n:Norm} (hn:NSm n) (hok:zAD n) {t:List Int} (h:t.length≤12):TOk n t:=⟨by omega,by have:=z8T hn hok false t;omega⟩
theorem law45_CollateCompares_true (s:Unicodetextlaw45_Setting) (a b:List Int) (ok:zDC s) {q:Prop} (_:q) {q2:Prop} (_:q2):zAL s a b=some true:=by
 unfold zAL;obtain ⟨f,hf,hp⟩:=yMH s (T:=[a,b]) (most:=12) (by simp);rw [hf,zA,yG3];cases f with
 | false=>rfl
 | true=>
 obtain ⟨hn,hc,ht⟩:=hp rfl;have hg:=yFQ ok.2.1;have ha:=yMI hn ok.1 (t:=a) (by have:=ht a (by simp);omega)
 have hb:=yMI hn ok.1 (t:=b) (by have:=ht b (by simp);omega)
 rw [Bool.not_true,cond_false,cE hn ok.1 hc hg _ ha hb,zA,rcE hn ok.1 hc hg _ ha hb,zA,lE hn ok.1 hc hg _ ha hb,rlE hn ok.1 hc hg _ ha hb];simp only [decide_true,zR,xP,zA,Bool.and_self]
end Go.M


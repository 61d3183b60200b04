/- What the plain counterparts answer. Conditions: none. -/
import Derived.Test.YtoekgplgehlpjaaGreatDoorPu2
set_option linter.unusedSimpArgs false
set_option linter.unusedVariables false
set_option linter.unnecessarySimpa false
namespace Go.M
open Go.AV
def kN (K:List (List Int)) (i:Nat):List Int:=K.getD i []
theorem zQW {K:List (List Int)} {i:Nat} (h:i < K.length):z7 K (i:Int)=some (kN K i):=by rw [zU h];unfold kN;rw [List.getD_eq_getElem?_getD,List.getElem?_eq_getElem h];rfl
theorem z5D {K:List (List Int)} {i:Nat} (h:i < K.length):kN K i∈K:=by unfold kN;rw [List.getD_eq_getElem?_getD,List.getElem?_eq_getElem h];exact List.getElem_mem h
def zEB (K:List (List Int)):Bool:=(List.range (K.length - 1)).all fun i=>decide (0≤wY (kN K (i+1)) (kN K i))
theorem zE7 {K:List (List Int)}:zEB K=true↔∀i,i+1 < K.length→0≤wY (kN K (i+1)) (kN K i):=by unfold zEB;simp only [List.all_eq_true,List.mem_range,decide_eq_true_eq];exact ⟨fun h i hi=>h i (by omega),fun h i hi=>h i (by omega)⟩
def zOI (K:List (List Int)) (key:List Int):Nat:=(K.findIdx? fun x=>decide (0≤wY x key)).getD K.length
noncomputable def srE (K:List (List Int)) (key:List Int):Int×Bool:=if zEB K=true then ((zOI K key:Int),decide (zOI K key < K.length∧wY (kN K (zOI K key)) key=0)) else (-1,false)
section
variable {K:List (List Int)} (hK:∀x∈K,x.length≤4611686018427387904) (hl:K.length≤1000)
include hK hl
theorem is0:∀(k:Nat),k < K.length→∃y,zE (fun (x:Int)=>yX K (fun x0 x1=>kP x0 x1) x) (k:Int)=some y∧((y= .inl ()∧∀i,i < k→0≤wY (kN K (i+1)) (kN K i))∨(y= .inr false∧∃i,i < k∧¬0≤wY (kN K (i+1)) (kN K i)))
 | 0,h=>⟨.inl (),zL (by simp only [yX,show decide ((0:Int) < ((0:Nat):Int))=false from rfl,cond_false]),.inl ⟨rfl,fun i hi=>by omega⟩⟩
 | k+1,h=>by
  have e:decide ((0:Int) < ((k+1:Nat):Int))=true:=decide_eq_true (by omega);have e1:wi (((k+1:Nat):Int) - 1)=(k:Int):=zCX (by omega);have hc:=zEZ (a:=kN K (k+1)) (b:=kN K k) (hK _ (z5D h));by_cases h0:wY (kN K (k+1)) (kN K k) < 0;refine ⟨.inr false,zL ?_,.inr ⟨rfl,k,by omega,by omega⟩⟩;simp only [yX,e,cond_true,zQW h,e1,zQW (show k < K.length by omega),zA,hc,h0,decide_true];obtain ⟨y,h1,h2⟩:=is0 k (by omega);refine ⟨y,?_,?_⟩;rw [zR (x':=(k:Int)) (by simp only [yX,e,cond_true,zQW h,e1,zQW (show k < K.length by omega),zA,hc,h0,decide_false,cond_false])];exact h1;rcases h2 with ⟨h2,h3⟩ | ⟨h2,i,h3,h4⟩
  refine .inl ⟨h2,fun i hi=>?_⟩;rcases Nat.lt_or_eq_of_le (Nat.le_of_lt_succ hi) with hi | rfl
  exact h3 i hi;omega;exact .inr ⟨h2,i,by omega,h4⟩
theorem z2T:xA K (fun x0 x1=>kP x0 x1)=some (zEB K):=by
  unfold xA;by_cases h0:K.length=0
  · have e:wi ((K.length:Int) - 1)= -1:=by rw [h0];rfl
    have hb:zEB K=true:=by rw [zE7];intro i hi;omega
    rw [e,zL (y:= .inl ()) (by simp only [yX];rfl),hb]
    rfl
  · have e:wi ((K.length:Int) - 1)=((K.length - 1:Nat):Int):=by rw [xS (by omega) (by omega)];omega
    obtain ⟨y,h1,h2⟩:=is0 hK hl (K.length - 1) (by omega);rw [e,h1,zA];rcases h2 with ⟨rfl,h3⟩ | ⟨rfl,i,h3,h4⟩
    · have hb:zEB K=true:=by rw [zE7];intro i hi;exact h3 i (by omega)
      rw [hb];rfl
    · have hb:zEB K=false:=by
        cases h:zEB K with
        | false=>rfl
        | true=>exact absurd (zE7.1 h i (by omega)) h4
      rw [hb];rfl
omit hK hl in
theorem yIR {a b c:List Int} (h1:0≤wY b a) (h2:0≤wY c b):0≤wY c a:=by
 have q1:wY a b≤0:=by have:=zPW a b;omega
 have q2:wY b c≤0:=by have:=zPW b c;omega
 have:=(z49 q1 q2).1;have:=zPW a c;omega
omit hK hl in
theorem zXA (h:zEB K=true):∀(d i:Nat),i+d < K.length→0≤wY (kN K (i+d)) (kN K i)
 | 0,i,hi=>by rw [Nat.add_zero,zQV.2 rfl];omega
 | d+1,i,hi=>by
  have h1:=zXA h d i (by omega);have h2:=zE7.1 h (i+d) (by omega);exact yIR h1 h2
omit hK hl in
theorem zZE {key:List Int} {j:Nat} (hj:j≤K.length) (h1:∀k,k < j→wY (kN K k) key < 0) (h2:j < K.length→0≤wY (kN K j) key):zOI K key=j:=by
  unfold zOI;rcases Nat.lt_or_eq_of_le hj with hlt | rfl
  · have:K.findIdx? (fun x=>decide (0≤wY x key))=some j:=by
      rw [List.findIdx?_eq_some_iff_getElem];refine ⟨hlt,?_,fun k hk=>?_⟩
      · have:=h2 hlt
        unfold kN at this;rw [List.getD_eq_getElem?_getD,List.getElem?_eq_getElem hlt] at this;simpa using this
      · have:=h1 k hk
        unfold kN at this;rw [List.getD_eq_getElem?_getD,List.getElem?_eq_getElem (by omega)] at this;simp only [Option.getD_some] at this;simp;omega
    rw [this];rfl
  · have:K.findIdx? (fun x=>decide (0≤wY x key))=none:=by
      rw [List.findIdx?_eq_none_iff];intro x hx;obtain ⟨k,hk,rfl⟩:=List.getElem_of_mem hx;have:=h1 k hk;unfold kN at this;rw [List.getD_eq_getElem?_getD,List.getElem?_eq_getElem hk] at this;simp only [Option.getD_some] at this;simp;omega
    rw [this];rfl
theorem z5E {key:List Int} (hs:zEB K=true):k7 K key (fun x0 x1=>kP x0 x1)=some (srE K key):=by
 unfold k7 srE;obtain ⟨j,hj,hr,hlo,hhi⟩:=zSG (n:=K.length) (by omega) (body:=fun (x:Int×Int)=>yY K (fun x0 x1=>kP x0 x1) key x.1 x.2) (fun k=>decide (0≤wY (kN K k) key))
  (fun k _=>by simp only [yY,kO (Nat.le_refl _),cond_false])
  (fun lo hi h1 h2=>by
   have hm:(lo+hi) / 2 < K.length:=by omega
   simp only [yY,yV h1,cond_true,zMU (show lo+hi≤4611686018427387903 by omega),zQW hm,zA,zEZ (b:=key) (hK _ (z5D hm)),zO (k:=(lo+hi) / 2) (by omega)];by_cases hc:wY (kN K ((lo+hi) / 2)) key < 0;have:¬0≤wY (kN K ((lo+hi) / 2)) key:=by omega
   simp [hc,this];have:0≤wY (kN K ((lo+hi) / 2)) key:=by omega
   simp [hc,this])
  (fun i j hij hj hi=>by
   simp only [decide_eq_true_eq] at hi ⊢;have:=zXA hs (j - i) i (by omega);rw [show i+(j - i)=j by omega] at this;exact yIR hi this)
 simp only [decide_eq_false_iff_not,decide_eq_true_eq] at hlo hhi;have hlow:zOI K key=j:=zZE hj (fun k hk=>by have:=hlo k hk;omega) (fun h=>hhi j (Nat.le_refl _) h)
 rw [hr,zA,zQ,if_pos hs,hlow];by_cases h:j < K.length;simp only [yV h,xC,zQW h,zA,zEZ (b:=key) (hK _ (z5D h)),Bool.true_and,h,true_and];simp only [kO (show K.length≤j by omega),vB,zA,Bool.false_and,h,false_and,decide_false]
end
section
variable {n:Norm} {c:Collation} (hn:NSm n) (hok:vZ n) (hs:Sm c) (hg:∀g∈c.Groups,g.Name.length≤MX)
include hn hok hs hg
theorem zQX (o:Options) {T:List (List Int)} (hT:∀t∈T,TOk n t) (hl:T.length≤1000) {t:List Int} (ht:TOk n t):wO n c o T t=some (srE (T.map (sK n c o)) (sK n c o t)):=by
 unfold wO;have hK:∀x∈T.map (sK n c o),x.length≤4611686018427387904:=fun x hx=>by
  obtain ⟨u,hu,rfl⟩:=List.mem_map.1 hx;exact kL hs o (hT u hu)
 rw [z7B hn hok hs hg o hT hl,zA,z2T hK (by simpa using hl),zA];cases h:zEB (T.map (sK n c o)) with
 | false=>
  have:srE (T.map (sK n c o)) (sK n c o t)=(-1,false):=by unfold srE;rw [h];rfl
  rw [this];rfl
 | true=>
  rw [Bool.not_true,cond_false,kE hn hok hs hg o ht,zA,z5E hK (by simpa using hl) h,zA]
end
theorem yOH {t:List Int} (h:t.length≤800) (hs:∀x∈t,syl x=false):TOk nZ t:=⟨by omega,by rw [zW9 t hs];omega⟩
theorem tK (t:List Int) (h:t.all (fun x=>!syl x)=true) (hd:csE (clE []) t=t):sK nZ cL oL t=zKL oL (wk cL [] t).1 t:=sKL (fun x hx=>by simpa using List.all_eq_true.1 h x hx) hd
theorem zZF:u3=some true:=by
 have tok:∀t:List Int,t.length≤2→t.all (fun x=>!syl x)=true→TOk nZ t:=fun t h1 h2=>yOH (by omega) (fun x hx=>by simpa using List.all_eq_true.1 h2 x hx);have g0:∀g∈cL.Groups,g.Name.length≤MX:=fun g hg=>by cases hg
 have a1:=tok [97] (by simp) (by decide);have a2:=tok [65] (by simp) (by decide);have a3:=tok [98] (by simp) (by decide);have a4:=tok [97,98] (by simp) (by decide);have a5:=tok [] (by simp) (by decide);have k1:=tK [97] (by decide) (by decide);have k2:=tK [65] (by decide) (by decide);have k3:=tK [98] (by decide) (by decide);have s1:=z2S z48 zUL z5C g0 oL (T:=[[98],[65],[97]]) (fun t ht=>by simp only [List.mem_cons,List.not_mem_nil,or_false] at ht;rcases ht with rfl | rfl | rfl <;> assumption) (by simp)
 have s2:=zQX z48 zUL z5C g0 oL (T:=[[97],[65]]) (fun t ht=>by simp only [List.mem_cons,List.not_mem_nil,or_false] at ht;rcases ht with rfl | rfl <;> assumption) (by simp) a2
 have s3:=zQX z48 zUL z5C g0 oL (T:=[[65],[97]]) (fun t ht=>by simp only [List.mem_cons,List.not_mem_nil,or_false] at ht;rcases ht with rfl | rfl <;> assumption) (by simp) a2
 have s4:=cE z48 zUL z5C g0 oL a1 a2;have s5:=lE z48 zUL z5C g0 oL a1 a2;have s6:=z5A z48 zUL z5C g0 oL a4 a2;have s7:=z5A z48 zUL z5C g0 oL a5 a2;simp only [List.map_cons,List.map_nil,k1,k2,k3] at s1 s2 s3;unfold cK at s4;rw [k1,k2] at s4;have eo:wZ oL=oL:=yDT rfl;have e1:eLm nZ cL [97]=(wk cL [] [97]).1:=by unfold eLm zDI;rw [zW9 [97] (by decide),zUM,z2Q];rfl
 have e2:eLm nZ cL [65]=(wk cL [] [65]).1:=by unfold eLm zDI;rw [zW9 [65] (by decide),zUM,z2Q];rfl
 have e4:eLm nZ cL [97,98]=(wk cL [] [97,98]).1:=by unfold eLm zDI;rw [zW9 [97,98] (by decide),zUM,z2Q];rfl
 have e5:eLm nZ cL []=(wk cL [] []).1:=by unfold eLm zDI;rw [zW9 [] (by simp),zUM,z2Q];rfl
 unfold yKW cK at s5;rw [k1,k2,e1,e2,eo] at s5;unfold stE0 stE0.row0 at s6 s7;rw [e4,e2,eo] at s6;rw [e5,e2,eo] at s7;have v1:wJ (ltI [zKL oL (wk cL [] [98]).1 [98],zKL oL (wk cL [] [65]).1 [65],zKL oL (wk cL [] [97]).1 [97]]) (zBS ([[98],[65],[97]]:List (List Int)).length) []= [2,1,0]:=by decide
 have v2:srE [zKL oL (wk cL [] [97]).1 [97],zKL oL (wk cL [] [65]).1 [65]] (zKL oL (wk cL [] [65]).1 [65])=(1,true):=by decide
 have v3:srE [zKL oL (wk cL [] [65]).1 [65],zKL oL (wk cL [] [97]).1 [97]] (zKL oL (wk cL [] [65]).1 [65])=(-1,false):=by decide
 have v4:wY (zKL oL (wk cL [] [97]).1 [97]) (zKL oL (wk cL [] [65]).1 [65])= -1:=by decide
 have v5:fdf (wts (wk cL [] [97]).1 oL) (wts (wk cL [] [65]).1 oL) 0=some 3:=by decide
 have v6:decide (((wts (wk cL [] [65]).1 oL).headD []).length≤((wts (wk cL [] [97,98]).1 oL).headD []).length∧((wts (wk cL [] [97,98]).1 oL).headD []).take ((wts (wk cL [] [65]).1 oL).headD []).length=(wts (wk cL [] [65]).1 oL).headD [])=true:=by decide
 have v7:decide (((wts (wk cL [] [65]).1 oL).headD []).length≤((wts (wk cL [] []).1 oL).headD []).length∧((wts (wk cL [] []).1 oL).headD []).take ((wts (wk cL [] [65]).1 oL).headD []).length=(wts (wk cL [] [65]).1 oL).headD [])=false:=by decide
 rw [v1] at s1;rw [v2] at s2;rw [v3] at s3;rw [v4] at s4;rw [v5] at s5;rw [v6] at s6;rw [v7] at s7;have q1:u2 [2,1,0] [2,1,0]=some true:=by rw [zPN (by simp)];simp
 have hb:u3=(some cL).bind fun t9=>
   (zCT nZ t9 oL [[98],[65],[97]]).bind fun t19=>
   (wO nZ t9 oL [[97],[65]] [65]).bind fun t28=>
   (wO nZ t9 oL [[65],[97]] [65]).bind fun t39=>
   (uS nZ t9 oL [97] [65]).bind fun t47=>
   (pv (decide (t47=(-1)))).bind fun b49=>
   (gM b49 (zC9 nZ t9 oL [97] [65])).bind fun t55=>
   (pv (b49&&(decide (t55=3)))).bind fun b58=>
   (gM b58 (u2 t19 [2,1,0])).bind fun t61=>
   (pv (b58&&t61)).bind fun b63=>
   (pv (b63&&(decide (t28.1=1)))).bind fun b67=>
   (pv (b67&&t28.2)).bind fun b70=>
   (pv (b70&&(decide (t39.1=(-1))))).bind fun b74=>
   (pv (b74&&(!t39.2))).bind fun b78=>
   (gM b78 (wP nZ t9 oL [97,98] [65])).bind fun t84=>
   (pv (b78&&t84)).bind fun b86=>
   (gM b86 (wP nZ t9 oL [] [65])).bind fun t91=>
   some (b86&&(!t91)):=rfl
 rw [hb];simp only [zA,s1,s2,s3,s4,s5,s6,s7,q1,zQ,xC,decide_true,Bool.and_self,Bool.not_false,Bool.true_and,show decide (((3:Nat):Int)=3)=true from rfl]
end Go.M
namespace Go.M
open Go.AV
theorem fw0 {T:List (List Int)} {most:Int} (hl:T.length≤1000):∀(m k:Nat),k+m=T.length→∃y,zE (fun (x:Int)=>zCR T most x) (k:Int)=some y∧(y= .inr false∨(y= .inl ()∧∀t∈T.drop k,(t.length:Int)≤most))
 | 0,k,h=>⟨.inl (),zL (by simp only [zCR,kO (show T.length≤k by omega),cond_false]),.inr ⟨rfl,by rw [List.drop_of_length_le (by omega)];intro x hx;cases hx⟩⟩
 | m+1,k,h=>by
  have hk:k < T.length:=by omega
  by_cases h1:(T[k].length:Int)≤most;obtain ⟨y,h2,h3⟩:=fw0 (most:=most) hl m (k+1) (by omega);refine ⟨y,?_,?_⟩;rw [zR (x':=((k+1:Nat):Int)) (by simp only [zCR,zJ9,yV hk,cond_true,zU hk,zA,h1,decide_true,Bool.not_true,cond_false,zO (k:=k) (by omega)])];exact h2;rcases h3 with h3 | ⟨h3,h4⟩
  exact .inl h3;refine .inr ⟨h3,?_⟩;rw [List.drop_eq_getElem_cons hk];intro x hx;rcases List.mem_cons.1 hx with rfl | hx
  exact h1;exact h4 x hx;exact ⟨.inr false,zL (by simp only [zCR,zJ9,yV hk,cond_true,zU hk,zA,h1,decide_false,Bool.not_false]),.inl rfl⟩
theorem z7C (s:Unicodetextlaw45_Setting) {T:List (List Int)} {most:Int} (hl:T.length≤1000):∃b,zE3 s most T=some b∧(b=true→NSm s.Norm∧Sm s.Collation∧∀t∈T,(t.length:Int)≤most):=by
 obtain ⟨y,h1,h2⟩:=fw0 (T:=T) (most:=most) hl T.length 0 (by omega);rw [show ((0:Nat):Int)=0 from rfl] at h1;unfold zE3;rw [h1,zA];rcases h2 with rfl | ⟨rfl,h3⟩;exact ⟨false,rfl,fun h=>by cases h⟩;rw [List.drop_zero] at h3;obtain ⟨b,hb,hp⟩:=yGS s.Norm;rw [Sum.elim_inl,hb,zA,zQ];cases b with
 | false=>exact ⟨false,rfl,fun h=>by cases h⟩
 | true=>
  simp only [xC,yCB,zA,Bool.true_and];exact ⟨_,rfl,fun h=>⟨hp rfl,yJU h,h3⟩⟩
theorem yD3 {n:Norm} (hn:NSm n) (hok:vZ n) {t:List Int} (h:t.length≤12):TOk n t:=⟨by omega,by have:=z9C hn hok false t;omega⟩
end Go.M

/- What the plain counterparts answer. Conditions: none. -/
import Derived.Test.YtoekgplgehlpjaaGreatDoorPu3
set_option linter.unusedSimpArgs false
set_option linter.unusedVariables false
set_option linter.unnecessarySimpa false
namespace Go.M
open Go.AV
theorem z5F {T:List (List Int)} {f:List Int→List Int} {i:Nat} (h:i < T.length):kN (T.map f) i=f T[i]:=by unfold kN;rw [List.getD_eq_getElem?_getD,List.getElem?_map,List.getElem?_eq_getElem h];rfl
section
variable {n:Norm} {c:Collation} (hn:NSm n) (hok:vZ n) (hs:Sm c) (hg:∀g∈c.Groups,g.Name.length≤MX)
include hn hok hs hg
theorem rs0 (o:Options) {T:List (List Int)} (hT:∀t∈T,TOk n t) (hl:T.length≤1000):∀(m k:Nat),0 < k→T.length≤k+m→k≤1001→∃y,zE (fun (x:Int)=>wX T n c o x) (k:Int)=some y∧((y= .inl ()∧∀i,k≤i+1→i+1 < T.length→0≤wY (kN (T.map (sK n c o)) (i+1)) (kN (T.map (sK n c o)) i))∨(y= .inr (-1,false)∧∃i,i+1 < T.length∧¬0≤wY (kN (T.map (sK n c o)) (i+1)) (kN (T.map (sK n c o)) i)))
 | 0,k,h0,h,_=>⟨.inl (),zL (by simp only [wX,kO (show T.length≤k by omega),cond_false]),.inl ⟨rfl,fun i h1 h2=>by omega⟩⟩
 | m+1,k,h0,h,hk=>by
  by_cases hlt:k < T.length;have e1:wi ((k:Int) - 1)=((k - 1:Nat):Int):=by rw [xS (by omega) (by omega)];omega
  have h1:k - 1 < T.length:=by omega
  have hc:=rcE hn hok hs hg o (hT _ (List.getElem_mem h1)) (hT _ (List.getElem_mem hlt));have hv:cK n c o T[k - 1] T[k]= -wY (kN (T.map (sK n c o)) (k - 1+1)) (kN (T.map (sK n c o)) (k - 1)):=by
   rw [z5F h1,z5F (show k - 1+1 < T.length by omega)];unfold cK;rw [←zPW];congr 2;simp only [show k - 1+1=k by omega]
  by_cases hp:0 < cK n c o T[k - 1] T[k];refine ⟨.inr (-1,false),zL ?_,.inr ⟨rfl,k - 1,by omega,by omega⟩⟩;simp only [wX,yV hlt,cond_true,e1,zU h1,zU hlt,zA,hc,hp,decide_true];obtain ⟨y,q1,q2⟩:=rs0 o hT hl m (k+1) (by omega) (by omega) (by omega);refine ⟨y,?_,?_⟩;rw [zR (x':=((k+1:Nat):Int)) (by simp only [wX,yV hlt,cond_true,e1,zU h1,zU hlt,zA,hc,hp,decide_false,cond_false,zO (k:=k) (by omega)])];exact q1;rcases q2 with ⟨q2,q3⟩ | ⟨q2,q3⟩
  refine .inl ⟨q2,fun i h2 h3=>?_⟩;by_cases hi:i=k - 1;subst hi;omega;exact q3 i (by omega) h3;exact .inr ⟨q2,q3⟩;exact ⟨.inl (),zL (by simp only [wX,kO (show T.length≤k by omega),cond_false]),.inl ⟨rfl,fun i h1 h2=>by omega⟩⟩
theorem rs1 (o:Options) {T:List (List Int)} (hT:∀t∈T,TOk n t) (hl:T.length≤1000) {u:List Int} (hu:TOk n u):∀(m k:Nat),k+m=T.length→(∀i,i < k→wY (kN (T.map (sK n c o)) i) (sK n c o u) < 0)→zE (fun (x:Int)=>uU T n c o u x) (k:Int)=some (if zOI (T.map (sK n c o)) (sK n c o u) < T.length then .inr ((zOI (T.map (sK n c o)) (sK n c o u):Int),decide (wY (kN (T.map (sK n c o)) (zOI (T.map (sK n c o)) (sK n c o u))) (sK n c o u)=0)) else .inl ())
 | 0,k,h,hlo=>by
  have hL:zOI (T.map (sK n c o)) (sK n c o u)=T.length:=by
   have:=zZE (K:=T.map (sK n c o)) (key:=sK n c o u) (j:=T.length) (by simp) (fun i hi=>hlo i (by omega)) (fun hi=>by simp at hi);exact this
  rw [hL,if_neg (Nat.lt_irrefl _)];exact zL (by simp only [uU,kO (show T.length≤k by omega),cond_false])
 | m+1,k,h,hlo=>by
  have hlt:k < T.length:=by omega
  have hc:=rcE hn hok hs hg o (hT _ (List.getElem_mem hlt)) hu;have hk:=z5F (f:=sK n c o) hlt;by_cases h0:0≤cK n c o T[k] u;have hL:zOI (T.map (sK n c o)) (sK n c o u)=k:=zZE (by simp;omega) (fun i hi=>hlo i hi) (fun _=>by rw [hk];exact h0)
  rw [hL,if_pos hlt,hk];exact zL (by simp only [uU,yV hlt,cond_true,zU hlt,zA,hc,h0,decide_true];rfl)
  rw [zR (x':=((k+1:Nat):Int)) (by simp only [uU,yV hlt,cond_true,zU hlt,zA,hc,h0,decide_false,cond_false,zO (k:=k) (by omega)])];refine rs1 o hT hl hu m (k+1) (by omega) (fun i hi=>?_);by_cases he:i=k;subst he;rw [hk];unfold cK at h0;omega;exact hlo i (by omega)
theorem z5G (o:Options) {T:List (List Int)} (hT:∀t∈T,TOk n t) (hl:T.length≤1000) {u:List Int} (hu:TOk n u):zFK n c o T u=some (srE (T.map (sK n c o)) (sK n c o u)):=by
  unfold zFK;obtain ⟨y,h1,h2⟩:=rs0 hn hok hs hg o hT hl T.length 1 (by omega) (by omega) (by omega);rw [show ((1:Nat):Int)=1 from rfl] at h1;have h3:=rs1 hn hok hs hg o hT hl hu T.length 0 (by omega) (fun i hi=>by omega);rw [show ((0:Nat):Int)=0 from rfl] at h3;rw [h1,zA,h3];unfold srE;rcases h2 with ⟨rfl,h4⟩ | ⟨rfl,i,h4,h5⟩
  · have hb:zEB (T.map (sK n c o))=true:=by
      rw [zE7];intro i hi;exact h4 i (by omega) (by simpa using hi)
    rw [if_pos hb,Sum.elim_inl,zA,List.length_map];by_cases hj:zOI (T.map (sK n c o)) (sK n c o u) < T.length
    · rw [if_pos hj,Sum.elim_inr]
      simp only [hj,true_and]
    · have:zOI (T.map (sK n c o)) (sK n c o u)=T.length:=by
        have:zOI (T.map (sK n c o)) (sK n c o u)≤T.length:=by
          unfold zOI;cases hf:(T.map (sK n c o)).findIdx? fun x=>decide (0≤wY x (sK n c o u)) with
          | none=>simp
          | some j=>
            have:=(List.findIdx?_eq_some_iff_getElem.1 hf).1;simp at this ⊢;omega
        omega
      rw [if_neg hj,Sum.elim_inl];simp only [this,Nat.lt_irrefl,false_and,decide_false]
  · have hb:¬zEB (T.map (sK n c o))=true:=fun h=>h5 (zE7.1 h i (by simpa using h4))
    rw [if_neg hb];rfl
end
theorem law45_CollateSearches_true (s:Unicodetextlaw45_Setting) (T:List (List Int)) (t:List Int) (ok:jL s) {q:Prop} (_:q) {q2:Prop} (_:q2):zAS s T t=some true:=by
 unfold zAS;rw [zQ,zZF];by_cases h6:6 < (T.length:Int);rw [decide_eq_true h6];simp only [Bool.not_true,vB,zA,Bool.true_or,zQ,cond_true];rw [decide_eq_false h6];have hl:T.length≤1000:=by omega
 obtain ⟨f,hf,hp⟩:=z7C s (T:=T) (most:=8) hl;obtain ⟨f2,hf2,hp2⟩:=z7C s (T:=[t]) (most:=8) (by simp);simp only [Bool.not_false,xC,hf,zA,Bool.false_or,zQ];cases f with
 | false=>simp only [Bool.not_false,Bool.not_true,vB,zA,Bool.true_or,cond_true]
 | true=>
 simp only [Bool.not_true,Bool.not_false,xC,hf2,zA,Bool.false_or];cases f2 with
 | false=>rfl
 | true=>
 obtain ⟨hn,hc,ht⟩:=hp rfl;obtain ⟨_,_,ht2⟩:=hp2 rfl;have hg:=zYO ok.2.1;have hT:∀x∈T,TOk s.Norm x:=fun x hx=>yD3 hn ok.1 (by have:=ht x hx;omega)
 have hu:=yD3 hn ok.1 (t:=t) (by have:=ht2 t (by simp);omega)
 rw [Bool.not_true,cond_false,zQX hn ok.1 hc hg _ hT hl hu,zA,z5G hn ok.1 hc hg _ hT hl hu,zA];simp only [decide_true,BEq.rfl,zQ,xC,zA,Bool.and_self]
end Go.M

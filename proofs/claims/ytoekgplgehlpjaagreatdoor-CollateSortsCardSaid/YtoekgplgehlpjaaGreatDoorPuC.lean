/- What the plain counterparts answer. Conditions: none. -/
import Derived.Test.YtoekgplgehlpjaaGreatDoorPu3
set_option linter.unusedSimpArgs false
set_option linter.unusedVariables false
set_option linter.unnecessarySimpa false
namespace Go.M
open Go.AV
theorem yMR {T:List (List Int)} {f:List Int→List Int} {i:Int} (h:0≤i∧i < T.length):∃t∈T,z7 T i=some t∧kI (T.map f) i=f t:=by
 have e:i=((i.toNat:Nat):Int):=by omega
 have hlt:i.toNat < T.length:=by omega
 refine ⟨T[i.toNat],List.getElem_mem hlt,?_,?_⟩;rw [show z7 T i=z7 T ((i.toNat:Nat):Int) from by rw [←e]];exact zU hlt;unfold kI;rw [List.getD_eq_getElem?_getD,List.getElem?_map,List.getElem?_eq_getElem hlt];rfl
section
variable {n:Norm} {c:Collation} (hn:NSm n) (hok:vZ n) (hs:Sm c) (hg:∀g∈c.Groups,g.Name.length≤MX)
include hn hok hs hg
theorem yMS (o:Options) {T:List (List Int)} (hT:∀t∈T,TOk n t) {x:Int} (hx:0≤x∧x < T.length) {u:List Int} (hu:z7 T x=some u) (hut:u∈T) (huk:kI (T.map (sK n c o)) x=sK n c o u) {v:List Int} (hv:∀y∈v,0≤y∧y < (T.length:Int)) (hvl:v.length≤1000):∀(r s:List Int),v=r.reverse++s→
    ∃k:Nat,zE (fun (z:Int)=>zBQ v T n c o u z) (r.length:Int)=some (k:Int)∧k≤v.length∧vU (ltI (T.map (sK n c o))) r x s=v.take k++x::v.drop k
  | [],s,h=>by
    refine ⟨0,zL ?_,Nat.zero_le _,by rw [h];rfl⟩
    simp only [zBQ,List.length_nil,show decide ((0:Int) < ((0:Nat):Int))=false from rfl,zQ,vB,zA,Bool.false_and,cond_false]
  | y::r,s,h=>by
    have hrl:r.length < v.length:=by rw [h];simp
    have hy:z7 v (r.length:Int)=some y:=by
      rw [zU hrl];simp [h]
    have hym:y∈v:=by rw [h];simp
    obtain ⟨t,ht,hti,htk⟩:=yMR (f:=sK n c o) (hv y hym);have hc:=rcE hn hok hs hg o (hT u hut) (hT t ht);have e:decide ((0:Int) < (((y::r).length:Nat):Int))=true:=decide_eq_true (by simp only [List.length_cons];omega)
    have e1:wi ((((y::r).length:Nat):Int) - 1)=(r.length:Int):=by rw [xS (by simp only [List.length_cons];omega) (by simp only [List.length_cons];omega)];simp
    have hlt:ltI (T.map (sK n c o)) x y=decide (cK n c o u t < 0):=by unfold ltI cK;rw [huk,htk]
    unfold vU;by_cases h0:cK n c o u t < 0
    · obtain ⟨k,q1,q2,q3⟩:=yMS o hT hx hu hut huk hv hvl r (y::s) (by rw [h];simp)
      refine ⟨k,?_,q2,?_⟩
      · rw [zR (x':=(r.length:Int)) (by simp only [zBQ,e,zQ,xC,e1,hy,hti,hc,zA,h0,decide_true,Bool.and_self,cond_true])]
        exact q1
      · rw [hlt,decide_eq_true h0,if_pos rfl]
        exact q3
    · refine ⟨(y::r).length,zL ?_,by rw [h];simp,?_⟩
      · simp only [zBQ,e,zQ,xC,e1,hy,hti,hc,zA,h0,decide_false,Bool.and_false,cond_false]
      · rw [hlt,decide_eq_false h0,if_neg (by decide),h]
        rw [List.take_left' (by simp),List.drop_left' (by simp)]
theorem yMT (o:Options) {T:List (List Int)} (hT:∀t∈T,TOk n t) (hl:T.length≤1000):∀(m k:Nat),k+m=T.length→∀(v:List Int),v.length=k→(∀y∈v,0≤y∧y < (T.length:Int))→zE (fun (x:(List Int)×Int)=>zDG T n c o x.1 x.2) (v,(k:Int))=some (wJ (ltI (T.map (sK n c o))) ((zBS T.length).drop k) v)
 | 0,k,h,v,hv,hy=>by
  rw [List.drop_of_length_le (by rw [zGL];omega)]
  exact zL (by simp only [zDG,kO (show T.length≤k by omega),cond_false];rfl)
 | m+1,k,h,v,hv,hy=>by
  have hk:k < T.length:=by omega
  have hx:0≤(k:Int)∧(k:Int) < T.length:=by omega
  obtain ⟨u,hu,hui,huk⟩:=yMR (f:=sK n c o) hx;obtain ⟨j,q1,q2,q3⟩:=yMS hn hok hs hg o hT hx hui hu huk hy (by omega) v.reverse [] (by simp);rw [List.length_reverse] at q1;have hlen:(v.take j++(k:Int)::v.drop j).length=k+1:=by
   rw [List.length_append,List.length_take,List.length_cons,List.length_drop];omega
  have hd:(zBS T.length).drop k=(k:Int)::(zBS T.length).drop (k+1):=by
   rw [List.drop_eq_getElem_cons (by rw [zGL];exact hk)]
   simp [zBS]
  rw [zR (x':=(v.take j++(k:Int)::v.drop j,((k+1:Nat):Int)))
   (by
    simp only [zDG,yV hk,cond_true,hui,zA,q1,zEU q2,zMQ q2];rw [xN (by rw [List.length_take,List.length_nil];omega),zA,List.nil_append,xN (by rw [List.length_take];simp;omega),zA,xN (by simp;omega),zA,zO (k:=k) (by omega)]
    simp)]
  rw [yMT o hT hl m (k+1) (by omega) _ hlen (fun y hm=>by
   rcases List.mem_append.1 hm with hm | hm;exact hy y (List.mem_of_mem_take hm);rcases List.mem_cons.1 hm with rfl | hm;exact hx;exact hy y (List.mem_of_mem_drop hm)),hd,←q3]
  rfl
theorem yD4 (o:Options) {T:List (List Int)} (hT:∀t∈T,TOk n t) (hl:T.length≤1000):zIN n c o T=some (wJ (ltI (T.map (sK n c o))) (zBS T.length) []):=by unfold zIN;have:=yMT hn hok hs hg o hT hl T.length 0 (by omega) [] rfl (fun y hy=>by cases hy);rw [show ((0:Nat):Int)=0 from rfl] at this;rw [this];rfl
end
theorem law45_CollateSorts_true (s:Unicodetextlaw45_Setting) (T:List (List Int)) (ok:jL s) {q:Prop} (_:q):zCU s T=some true:=by
 unfold zCU;rw [zQ,zZF];by_cases h6:6 < (T.length:Int);rw [decide_eq_true h6];simp only [Bool.not_true,vB,zA,Bool.true_or,cond_true];rw [decide_eq_false h6];have hl:T.length≤1000:=by omega
 obtain ⟨f,hf,hp⟩:=z7C s (T:=T) (most:=8) hl;simp only [Bool.not_false,xC,hf,zA,Bool.false_or];cases f with
 | false=>rfl
 | true=>
 obtain ⟨hn,hc,ht⟩:=hp rfl;have hg:=zYO ok.2.1;have hT:∀x∈T,TOk s.Norm x:=fun x hx=>yD3 hn ok.1 (by have:=ht x hx;omega)
 have hlen:(wJ (ltI (T.map (sK s.Norm s.Collation s.Options))) (zBS T.length) []).length=T.length:=by
  rw [(zIV _ _ _).length_eq,List.nil_append,zGL]
 have he:=zPN (a:=wJ (ltI (T.map (sK s.Norm s.Collation s.Options))) (zBS T.length) []) (b:=wJ (ltI (T.map (sK s.Norm s.Collation s.Options))) (zBS T.length) []) (by rw [hlen];omega)
 rw [Bool.not_true,cond_false,z2S hn ok.1 hc hg _ hT (by omega),zA,yD4 hn ok.1 hc hg _ hT hl,zA,he,zA];simp only [decide_true,zQ,xC,zA,Bool.and_self]
end Go.M

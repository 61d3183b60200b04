/- What the plain counterparts answer. Conditions: none. -/
import Derived.Test.YtoekgplgehlpjaaGreatDoorPu3
set_option linter.unusedSimpArgs false
set_option linter.unusedVariables false
set_option linter.unnecessarySimpa false
namespace Go.M
open Go.AV
theorem law45_CollateStarts_true (s:Unicodetextlaw45_Setting) (a b:List Int) (ok:jL s) {q:Prop} (_:q) {q2:Prop} (_:q2):zBV s a b=some true:=by
 unfold zBV;obtain ⟨f,hf,hp⟩:=z7C s (T:=[a,b]) (most:=12) (by simp);rw [hf,zA,zZF];cases f with
 | false=>rfl
 | true=>
 obtain ⟨hn,hc,ht⟩:=hp rfl;have hg:=zYO ok.2.1;have ha:=yD3 hn ok.1 (t:=a) (by have:=ht a (by simp);omega)
 have hb:=yD3 hn ok.1 (t:=b) (by have:=ht b (by simp);omega)
 rw [Bool.not_true,cond_false,z5A hn ok.1 hc hg _ ha hb,zA,yHM hn ok.1 hc hg _ ha hb,zA];simp only [BEq.rfl,zQ,xC,zA,Bool.and_self]
end Go.M

/- Each function of the program answers as its plain counterpart does, where that answers. Conditions: none. -/
import Derived.Test.YtoekgplgehlpjaaGreatDoorMir
import Derived.Test.YtoekgplgehlpjaaGreatDoorLa3
import Derived.Test.YtoekgplgehlpjaaGreatDoorProg
import Derived.Test.YtoekgplgehlpjaaGreatDoorWk2
set_option linter.unusedSimpArgs false
set_option linter.unusedVariables false
set_option linter.unnecessarySimpa false
namespace Go.Proofs.YtoekgplgehlpjaaGreatDoor.Walk
open Go.AV Go.M Go.RowKit Go.Proofs
theorem zT2 {a0 a1 a2 a3 a4 r} (h:zFL a0 a1 a2 a3 a4=some r):zF Tryz.prog 24 [(eNorm.dv a0),(eCollation.dv a1),(eOptions.dv a2),(zP eI a3),(zP eI a4)] [(db r)]:=by
 refine co Tryz.func24 ?_;intro _ _ _ _;unfold zFL at h;refine Q89 ?_;refine Q15 ?_;refine zW MX rfl ?_;refine z1L ?_;have ⟨t16,ht16,h⟩:=bE h;refine q17 (zGH ht16) ?_;refine q22 G34 ?_;have ⟨t18,ht18,h⟩:=bE h;refine q17 (zHS ht18) ?_;refine Q39 ?_;refine yR ?_;refine zW MX rfl ?_;refine z1L ?_;have ⟨t22,ht22,h⟩:=bE h;refine q17 (zGH ht22) ?_;refine q22 G34 ?_;have ⟨t24,ht24,h⟩:=bE h;refine q17 (zHS ht24) ?_;refine Q39 ?_;refine yR ?_;refine zW MX rfl ?_;refine q3 ?_;have ⟨t26,ht26,h⟩:=bE h;refine q21 S42 ht26 ?_;refine q80 O37 ht26 ?_;refine yBT yD ?_;refine q3 ?_;have ⟨t30,ht30,h⟩:=bE h;refine q21 S42 ht30 ?_;refine q80 O37 ht30 ?_;refine yBT yD ?_;refine vV (zI7 (lq rfl) rfl rfl) ?_;have ⟨b34,hb34,h⟩:=bE h;refine vV ((zC (lq rfl) rfl).bool (oi hb34)) ?_;refine q43 (.d (zP (eL eI) t18)) ?_;have ⟨t36,ht36,h⟩:=bE h;refine dat (.ip ((eL eI).all t18) ((0:Int).toNat*(eL eI).size)) rfl (fun hb=>by subst hb;exact kJ (en:=(eL eI)) (lq rfl) S42 rfl rfl ht36) ?_
 refine dat (.d (zP eI t36)) rfl (fun hb=>by subst hb;exact z0 (en:=(eL eI)) (l:=t18) (i:=(0:Int)) (v:=t36) (off:=0) (lq rfl) O37 rfl ht36 rfl) ?_
 refine q43 (.d (zP (eL eI) t24)) ?_;have ⟨t39,ht39,h⟩:=bE h;refine dat (.ip ((eL eI).all t24) ((0:Int).toNat*(eL eI).size)) rfl (fun hb=>by subst hb;exact kJ (en:=(eL eI)) (lq rfl) S42 rfl rfl ht39) ?_
 refine dat (.d (zP eI t39)) rfl (fun hb=>by subst hb;exact z0 (en:=(eL eI)) (l:=t24) (i:=(0:Int)) (v:=t39) (off:=0) (lq rfl) O37 rfl ht39 rfl) ?_
 refine dat (.d (di (t39.length:Int))) rfl (fun hb=>by subst hb;exact z0K (en:=eI) (l:=t39) (lq rfl) yD rfl) ?_
 have ⟨t42,ht42,h⟩:=bE h;refine dat (.d (zP eI t42)) rfl (fun hb=>by subst hb;exact zL9 (en:=eI) (lq rfl) yD rfl rfl ht42) ?_
 refine q43 (.d (zP (eL eI) t24)) ?_;have ⟨t44,ht44,h⟩:=bE h;refine dat (.ip ((eL eI).all t24) ((0:Int).toNat*(eL eI).size)) rfl (fun hb=>by subst hb;exact kJ (en:=(eL eI)) (lq rfl) S42 rfl rfl ht44) ?_
 refine dat (.d (zP eI t44)) rfl (fun hb=>by subst hb;exact z0 (en:=(eL eI)) (l:=t24) (i:=(0:Int)) (v:=t44) (off:=0) (lq rfl) O37 rfl ht44 rfl) ?_
 have ⟨t46,ht46,h⟩:=bE h;refine dat (.d (db t46)) rfl (fun hb=>by subst hb;exact xI (lq rfl) rfl (zGS ht46)) ?_
 refine q67 ?_;refine Q39 ?_;cases h;refine zB ?_;exact zJ rfl
set_option maxRecDepth 40000 in
theorem law45_CollateStarts_c {a0 a1 a2 r} (h:zBV a0 a1 a2=some r):zF Tryz.prog 6 [(eUnicodetextlaw45_Setting.dv a0),(zP eI a1),(zP eI a2)] [(db r)]:=by
 refine co Tryz.func6 ?_;intro _ _ _ _;unfold zBV at h;refine yF8 ?_;refine Q56 ?_;refine q15 G36 ?_;refine Q11 ?_;refine q20 S42 ?_;have ⟨t11,ht11,h⟩:=bE h;refine q5 (zJJ ht11) ?_;refine Q38 ?_;refine z3 h (fun h=>?_) (fun h=>?_);refine Q0 ?_;have ⟨t13,ht13,h⟩:=bE h;refine q5 (zDH ht13) ?_;refine Q1 ?_;cases h;refine zB ?_;exact zJ rfl;refine Q5 ?_;refine zW MX rfl ?_;refine q23 z1A ?_;refine q62 G28 ?_;refine q23 zWR ?_;refine q62 G32 ?_;refine q23 z1B ?_;refine q62 G34 ?_;refine Q25 ?_;have ⟨t22,ht22,h⟩:=bE h;refine q17 (zGG ht22) ?_;refine q23 z1A ?_;refine q62 G28 ?_;refine q23 zWR ?_;refine q62 G32 ?_;refine q23 z1B ?_;refine q62 G34 ?_;refine Q25 ?_;have ⟨t31,ht31,h⟩:=bE h;refine q17 (zT2 ht31) ?_;refine vV (yAN (lq rfl) Tryz.underlying4 rfl rfl) ?_;have ⟨b33,hb33,h⟩:=bE h;refine vV ((zC (lq rfl) rfl).bool (oi hb33)) ?_;have ⟨t34,ht34,h⟩:=bE h;refine dat (.d (db t34)) rfl (fun hb=>by subst hb;exact xI (lq rfl) rfl (zDH ht34)) ?_
 refine q67 ?_;refine Q39 ?_;cases h;refine zB ?_;exact zJ rfl
end Go.Proofs.YtoekgplgehlpjaaGreatDoor.Walk


/- Each function of the program answers as its plain counterpart does, where that answers. Conditions: none. -/
import Derived.Test.YtjcbhabmkcdcnaaGreatDoorMir
import Derived.Test.YtjcbhabmkcdcnaaGreatDoorLa3
import Derived.Test.YtjcbhabmkcdcnaaGreatDoorProg
import Derived.Test.YtjcbhabmkcdcnaaGreatDoorWk2
set_option linter.unusedSimpArgs false
set_option linter.unusedVariables false
set_option linter.unnecessarySimpa false
namespace Go.Proofs.YtjcbhabmkcdcnaaGreatDoor.Walk
open Go.AV Go.M Go.RowKit Go.Proofs
theorem zPG {a0 a1 a2 a3 r} (h:zGI a0 a1 a2 a3=some r):zG Tryz.prog 19 [(eNorm.dv a0),(eCollation.dv a1),(eOptions.dv a2),(zS eI a3)] [(zS eI r)]:=by
 refine co Tryz.func19 ?_;intro _ _ _ _
 unfold zGI at h
 refine z1B ?_
 refine q89 ?_
 refine Q39 ?_
 refine z9 ((kM (lq rfl) G49 rfl rfl rfl rfl).data rfl) ?_
 have ⟨t13,ht13,h⟩:=bE h
 refine q8 (zJY ht13) ?_
 refine z1O ?_
 refine kF ?_
 refine zFE 6 MX rfl ?_
 refine q69 G28 ?_
 refine q69 G32 ?_
 refine q7 ?_
 have ⟨t17,ht17,h⟩:=bE h
 refine q22 (zOO ht17) ?_
 refine vO ((kM (lq rfl) G49 rfl rfl rfl rfl).data rfl) ?_
 have ⟨t19,ht19,h⟩:=bE h
 refine q22 (zP4 ht19) ?_
 refine xZ ?_
 have ⟨t20,ht20,h⟩:=bE h
 refine yF rfl (zDV [(1003,2520)] (zV3 ht20) (lq rfl) (by decide) ⟨rfl,trivial⟩ rfl rfl trivial rfl rfl rfl (fun _=>rfl) rfl) ?_
 refine Q13 ?_
 refine Q31 ?_
 refine q51 z2W ?_
 refine q28 O4 ?_
 refine Q42 ?_
 refine z1 h (fun h=>?_) (fun h=>?_)
 refine Q61 ?_
 cases h
 refine zB ?_
 exact zI rfl
 refine zL<|Q43 ?_
 refine q24 yD ?_
 have ⟨r2520_1,hr2520_1,h⟩:=bE h
 refine yF rfl (yK (en:=eI) (l:=t20) (m:=[0]) (lq rfl) yD rfl rfl rfl hr2520_1 (by decide) (by decide) rfl rfl) ?_
 refine Q13 ?_
 refine Q0 ?_
 refine q21 G28 ?_
 refine q0 ?_
 have ⟨t30,ht30,h⟩:=bE h
 refine q8 (zNL ht30) ?_
 refine Q96 ?_
 have ⟨y2,hy2,h⟩:=bE h
 refine tl (.exit 0) ⟨[(9,.row 2520)],[(2520,.row 3 eI.size false (eI.all y2))]⟩ ?_ ?_
 refine zD (fun x=>⟨[(9,.row 2520),(10,.d (zS eI t30)),(11,.d (di x.1))],[(2520,.row 3 eI.size false (eI.all x.2))]⟩) hy2 (wc) ?_
 rintro ⟨v11,r2520⟩ sy2 p2
 replace p2:zC2 t30 v11 r2520=some sy2:=p2
 unfold zC2 at p2
 refine Q12 ?_
 refine Q83 ?_
 refine z1 p2 (fun p2=>?_) (fun p2=>?_)
 refine Q5 ?_
 have ⟨y3,hy3,p2⟩:=bE p2
 refine tl .normal ⟨[(9,.row 2520),(10,.d (zS eI t30)),(11,.d (di v11))],[(2520,.row 3 eI.size false (eI.all y3))]⟩ ?_ ?_
 refine Q75 ?_
 have ⟨t39,ht39,hy3⟩:=bE hy3
 refine q11 yD ht39 ?_
 refine q35 O3 ht39 ?_
 have ⟨t41,ht41,hy3⟩:=bE hy3
 refine q8 (wV ht41) ?_
 refine zK ?_
 refine z1 hy3 (fun hy3=>?_) (fun hy3=>?_)
 refine Q63 ?_
 have ⟨t45,ht45,hy3⟩:=bE hy3
 refine q11 yD ht45 ?_
 refine q35 O3 ht45 ?_
 refine q2 ?_
 refine q24 yD ?_
 have ⟨r2520_4,hr2520_4,hy3⟩:=bE hy3
 refine yF rfl (yK (en:=eI) (l:=r2520) (m:=[wi (t45+1)]) (lq rfl) yD rfl rfl rfl hr2520_4 (by decide) (by decide) rfl rfl) ?_
 refine Q13 ?_
 cases hy3
 exact zH (wc)
 refine zL ?_
 cases hy3
 exact zH (wc)
 refine Q11 ?_
 cases p2
 exact wc
 refine zF ?_
 cases p2
 intro q;cases q
 exact zH (wc)
 refine Q61 ?_
 cases h
 refine zB ?_
 exact zI rfl
theorem zOP {a0 a1 a2 a3 a4 r} (h:zBN a0 a1 a2 a3 a4=some r):zG Tryz.prog 20 [(eNorm.dv a0),(eCollation.dv a1),(eOptions.dv a2),(zS eI a3),(di a4)] [(zS eI r)]:=by
 refine co Tryz.func20 ?_;intro _ _ _ _
 unfold zBN at h
 refine z1B ?_
 refine q89 ?_
 refine Q19 ?_
 refine q51 zPD ?_
 refine q60 O3 ?_
 refine Q52 ?_
 refine q51 z2W ?_
 refine q60 O4 ?_
 refine Q52 ?_
 refine q21 G28 ?_
 refine q21 G32 ?_
 refine z9 ((kM (lq rfl) G49 rfl rfl rfl rfl).data rfl) ?_
 refine q0 ?_
 have ⟨t18,ht18,h⟩:=bE h
 refine q8 (zIA ht18) ?_
 refine Q1 ?_
 cases h
 refine zB ?_
 exact zI rfl
theorem zRR {a0 a1 a2 a3 a4 r} (h:zGC a0 a1 a2 a3 a4=some r):zG Tryz.prog 21 [(eNorm.dv a0),(eCollation.dv a1),(eOptions.dv a2),(zS eI a3),(di a4)] [(zS eI r)]:=by
 refine co Tryz.func21 ?_;intro _ _ _ _
 unfold zGC at h
 refine z1B ?_
 refine q89 ?_
 refine Q19 ?_
 refine q51 zPD ?_
 refine q60 O3 ?_
 refine Q52 ?_
 refine q51 z2W ?_
 refine q60 O4 ?_
 refine Q52 ?_
 refine q21 G28 ?_
 refine q21 G32 ?_
 refine z9 ((kM (lq rfl) G49 rfl rfl rfl rfl).data rfl) ?_
 refine q0 ?_
 have ⟨t18,ht18,h⟩:=bE h
 refine q8 (zPG ht18) ?_
 refine Q1 ?_
 cases h
 refine zB ?_
 exact zI rfl
set_option maxRecDepth 40000 in
theorem law44_SortkeyKeys_c {a0 a1 a2 r} (h:zCE a0 a1 a2=some r):zG Tryz.prog 5 [(eUnicodetextlaw44_Data.dv a0),(zS eI a1),(di a2)] [(db r)]:=by
 refine co Tryz.func5 ?_;intro _ _ _ _
 unfold zCE at h
 refine Q0 ?_
 refine z9 (zM3 (size:=12) (lq rfl) rfl rfl) ?_
 refine Q53 ?_
 refine q21 G51 ?_
 have ⟨t12,ht12,h⟩:=bE h
 refine q8 (zS5 ht12) ?_
 refine q32 ?_
 have ⟨b14,hb14,h⟩:=bE h
 refine z9 ((zC (lq rfl) rfl).bool (oi hb14)) ?_
 refine q38 (.d (zS eI a1)) ?_
 refine q64 (.d (di (a1.length:Int))) yD ?_
 refine q43 (.d (db (decide (12 < (a1.length:Int))))) ?_
 refine Q37 ?_
 refine z1 h (fun h=>?_) (fun h=>?_)
 refine Q0 ?_
 have ⟨t19,ht19,h⟩:=bE h
 refine q8 (zL3 ht19) ?_
 refine Q1 ?_
 cases h
 refine zB ?_
 exact zI rfl
 refine Q5 ?_
 refine z3 MX rfl ?_
 refine q19 zYK ?_
 refine q61 G28 ?_
 refine q19 zYL ?_
 refine q61 G32 ?_
 refine q19 z2X ?_
 refine q61 G49 ?_
 refine q7 ?_
 have ⟨t27,ht27,h⟩:=bE h
 refine q22 (zIA ht27) ?_
 refine q19 zYK ?_
 refine q61 G28 ?_
 refine q19 zYL ?_
 refine q61 G32 ?_
 refine q19 z2X ?_
 refine q61 G49 ?_
 refine q7 ?_
 have ⟨t35,ht35,h⟩:=bE h
 refine q22 (zPG ht35) ?_
 refine z1N ?_
 refine kF ?_
 refine z3 MX rfl ?_
 refine q19 zYK ?_
 refine q61 G28 ?_
 refine q19 zYL ?_
 refine q61 G32 ?_
 refine q19 z2X ?_
 refine q61 G49 ?_
 refine Q27 ?_
 have ⟨t44,ht44,h⟩:=bE h
 refine q22 (zOP ht44) ?_
 refine q19 zYK ?_
 refine q61 G28 ?_
 refine q19 zYL ?_
 refine q61 G32 ?_
 refine q19 z2X ?_
 refine q61 G49 ?_
 refine Q27 ?_
 have ⟨t53,ht53,h⟩:=bE h
 refine q22 (zRR ht53) ?_
 refine z1N ?_
 refine Q15 ?_
 have ⟨t56,ht56,h⟩:=bE h
 refine q8 (zFB ht56) ?_
 have ⟨b57,hb57,h⟩:=bE h
 refine z9 ((zC (lq rfl) rfl).bool (oi hb57)) ?_
 refine q13 (.d (zS eI t44)) ?_
 refine q13 (.d (zS eI t53)) ?_
 have ⟨t60,ht60,h⟩:=bE h
 refine sqt (.d (db t60)) rfl (fun hb=>by subst hb;exact wD (lq rfl) rfl (zFB ht60)) ?_
 refine q14 ?_
 have ⟨b62,hb62,h⟩:=bE h
 refine z9 ((zC (lq rfl) rfl).bool (oi hb62)) ?_
 have ⟨t63,ht63,h⟩:=bE h
 refine sqt (.d (db t63)) rfl (fun hb=>by subst hb;exact wD (lq rfl) rfl (zL3 ht63)) ?_
 refine Q41 ?_
 cases h
 refine zB ?_
 exact zI rfl
end Go.Proofs.YtjcbhabmkcdcnaaGreatDoor.Walk


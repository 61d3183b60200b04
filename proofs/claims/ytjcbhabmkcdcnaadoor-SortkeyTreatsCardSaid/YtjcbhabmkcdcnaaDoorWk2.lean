/- Each function of the program answers as its plain counterpart does, where that answers. Conditions: none. -/
import Derived.Test.YtjcbhabmkcdcnaaDoorMir
import Derived.Test.YtjcbhabmkcdcnaaDoorLa3
import Derived.Test.YtjcbhabmkcdcnaaDoorProg
import Derived.Test.YtjcbhabmkcdcnaaDoorWk1
set_option linter.unusedSimpArgs false
set_option linter.unusedVariables false
set_option linter.unnecessarySimpa false
namespace Go.Proofs.YtjcbhabmkcdcnaaDoor.Walk
open Go.AV Go.M Go.RowKit Go.Proofs
theorem zII {a0} {a1} {a2} {r:(List Int)} (h:jY a0 a1 a2=some r):GC Tryd.prog 30 [.d (eNorm.dv a0),.d (yC eI a1),.d (db a2)] [] [] [.row 2531] [(2531,.row 3 eI.size false (eI.all r))]:=by
 refine zAY Tryd.func30 (by kernel_rfl) rfl (lq rfl) (lq rfl) fun w0 I0 hG0 p0=>?_
 unfold jY at h
 refine Q0 ?_
 refine q75 ?_
 refine Q45 ?_
 refine yT ((kL (lq rfl) G45 rfl rfl rfl rfl).data rfl) ?_
 have ⟨t12,ht12,h⟩:=bE h
 refine q7 (zCZ ht12) ?_
 refine q13 G45 ?_
 refine Q34 ?_
 refine yT ((kL (lq rfl) G45 rfl rfl rfl rfl).data rfl) ?_
 refine q0 ?_
 have ⟨t15,ht15,h⟩:=bE h
 refine kP rfl (zN2 [(5,2515),(6,3015),(7,3515)] (zBZ ht15) (lq rfl) (by decide) ⟨rfl,rfl,trivial⟩ rfl rfl trivial rfl rfl rfl (fun _=>rfl) rfl) ?_
 refine q98 ?_
 refine zF<|Q3 ?_
 refine zL (uJ (t:=8) 1008 3 eI.size (lq rfl) (lq rfl) rfl rfl) ?_
 refine Q4 ?_
 refine Q58 ?_
 have ⟨y1,hy1,h⟩:=bE h
 refine tl (.exit 0) ⟨[(3,.ptr 3 0),(8,.row 1008)],[(3,.box 45 [.d (yC eSpan t12.Classes),.d (yC eMapping t12.Decomp),.d (yC eRange t12.Excluded.Ranges)]),(1008,.row 3 eI.size false (eI.all y1))]⟩ ?_ ?_
 refine zG (fun x=>⟨[(3,.ptr 3 0),(7,.clo 45 [.ptr 2515 0,.d (.pt (eNorm.cells ({Classes:=t12.Classes,Decomp:=t12.Decomp,Excluded:=({Ranges:=t12.Excluded.Ranges}:Set)}:Norm))),.d (.pt [(db a2)]),.ptr 3015 0]),(8,.row 1008),(16,.d (yC eI a1)),(17,.d (di (a1.length:Int))),(18,.d (di x.1))],[(3,.box 45 [.d (yC eSpan t12.Classes),.d (yC eMapping t12.Decomp),.d (yC eRange t12.Excluded.Ranges)]),(1008,.row 3 eI.size false (eI.all x.2.1)),(2515,.box 104 [.row 3515]),(3015,.box 87 [.clo 45 [.ptr 2515 0,.d (.pt (eNorm.cells ({Classes:=t12.Classes,Decomp:=t12.Decomp,Excluded:=({Ranges:=t12.Excluded.Ranges}:Set)}:Norm))),.d (.pt [(db a2)]),.ptr 3015 0]]),(3515,.map (xQ kI (eL eI) x.2.2))]⟩) hy1 (wc) ?_
 rintro ⟨v18,r1008,r3515⟩ sy1 p1
 replace p1:jC a1 t12 a2 v18 r1008 r3515=some sy1:=p1
 unfold jC at p1
 refine Q13 ?_
 refine yX p1 (fun p1=>?_) (fun p1=>?_)
 refine Q25 ?_
 have ⟨t20,ht20,p1⟩:=bE p1
 refine q14 kB ht20 ?_
 refine q49 O3 ht20 ?_
 refine Q1 ?_
 refine Q29 ?_
 refine yT (zAX (lq rfl) rfl) ?_
 refine q0 ?_
 have ⟨t25,ht25,p1⟩:=bE p1
 refine kP rfl (zJP [(3001,2515),(3004,3015),(3120,3515)] (zA9 _ ht25) (lq rfl) (by decide) rfl ⟨rfl,rfl,rfl,rfl,rfl,trivial⟩ rfl rfl ⟨rfl,rfl,rfl,trivial⟩ rfl rfl rfl (fun _=>rfl) rfl) ?_
 have ⟨r1008_2,hr1008_2,p1⟩:=bE p1
 refine q34 kB hr1008_2 ?_
 refine Q19 ?_
 refine Q16 ?_
 cases p1
 exact wc
 refine zI ?_
 cases p1
 intro q;cases q
 exact zH (wc)
 refine Q0 ?_
 refine q41 zQA ?_
 refine q24 O39 ?_
 refine q9 ?_
 refine zFU (zAW (t:=30) (lq rfl) rfl rfl) ?_ (by simp)
 have ⟨t31,ht31,h⟩:=bE h
 refine kP rfl (zBK [(100,2531)] (zEX ht31) (lq rfl) (by decide) ⟨rfl,rfl,trivial⟩ rfl rfl trivial rfl rfl rfl (fun _=>rfl) rfl) ?_
 refine Q19 ?_
 cases h
 refine zB ?_
 exact ⟨⟨_,_,rfl,rfl,rfl⟩,⟨rfl,trivial⟩⟩
theorem uI {a0 a1 r} (h:kV a0 a1=some r):zK Tryd.prog 42 [(.pt (eColltable_table.cells a0)),(yC eI a1)] [(yC eElement r.1),(db r.2)]:=by
 refine co Tryd.func42 ?_;intro _ _ _ _
 unfold kV at h
 refine Q0 ?_
 refine Q90 ?_
 refine q6 kB ?_
 refine q36 ?_
 have ⟨b11,hb11,h⟩:=bE h
 refine yT ((zD (lq rfl) rfl).bool (oi hb11)) ?_
 refine q21 (.d (yC eI a1)) ?_
 refine q53 (.d (di (a1.length:Int))) kB ?_
 refine q21 (.d (.pt (eColltable_table.cells a0))) ?_
 refine sqf (.d (.pt (eColltable_table.cells a0))) rfl (fun hb=>by subst hb;exact zCW (lq rfl) rfl) ?_
 refine q18 (.ip (eColltable_table.cells a0) (0+6)) zS7 ?_
 refine q19 (.d (di a0.longest)) O3 ?_
 refine q32 (.d (db (decide (a0.longest < (a1.length:Int))))) ?_
 refine Q26 ?_
 refine yX h (fun h=>?_) (fun h=>?_)
 refine Q0 ?_
 refine Q24 ?_
 refine zL (zEA (t:=4) eElement.size (lq rfl) rfl) ?_
 cases h
 refine zB ?_
 exact zEB rfl rfl
 refine Q5 ?_
 refine kE MX rfl ?_
 refine q8 ?_
 refine q97 ?_
 refine q17 z29 ?_
 refine q27 O91 ?_
 refine q8 ?_
 have ⟨t26,ht26,h⟩:=bE h
 refine q26 (zDF ht26) ?_
 refine uV (zRT (kv:=zBM) (ev:=(eL eElement)) (mp:=a0.entries) (k:=t26) (zero:=[]) (lq rfl) M91 K95 rfl rfl (z0V rfl) (fun _ _=> .nil _ _ _)) ?_
 refine uV (zKC (lq rfl) rfl) ?_
 refine uV (zH5 (lq rfl) rfl rfl) ?_
 refine uV (zH5 (lq rfl) rfl rfl) ?_
 refine q43 ?_
 refine Q50 ?_
 refine Q28 ?_
 refine Q24 ?_
 cases h
 refine zB ?_
 exact zEB rfl rfl
theorem zC2 {a0 a1 r} (h:jA a0 a1=some r):zK Tryd.prog 43 [(.pt (eColltable_table.cells a0)),(di a1)] [(yC eElement r)]:=by
 refine co Tryd.func43 ?_;intro _ _ _ _
 unfold jA at h
 refine Q39 ?_
 have ⟨t6,ht6,h⟩:=bE h
 refine q7 (uS ht6) ?_
 refine Q41 ?_
 refine yX h (fun h=>?_) (fun h=>?_)
 refine Q3 ?_
 refine zL (zEA (t:=4) eElement.size (lq rfl) rfl) ?_
 cases h
 refine zB ?_
 exact zO rfl
 refine Q5 ?_
 refine kE MX rfl ?_
 refine q8 ?_
 refine q97 ?_
 refine q17 zXY ?_
 refine q94 zQC ?_
 refine q27 O3 ?_
 refine q8 ?_
 have ⟨t14,ht14,h⟩:=bE h
 refine uV (zST (lq rfl) rfl rfl ht14) ?_
 refine z1Q ?_
 refine q8 ?_
 refine q97 ?_
 refine q17 zXY ?_
 refine q94 z27 ?_
 refine q27 O3 ?_
 refine q8 ?_
 refine q97 ?_
 refine q17 zXY ?_
 refine q94 z28 ?_
 refine q27 O3 ?_
 refine uV (zDC (lq rfl) B37 rfl rfl) ?_
 refine q8 ?_
 have ⟨t28,ht28,h⟩:=bE h
 refine uV (z20 (lq rfl) rfl rfl ht28) ?_
 refine z1Q ?_
 refine uV (zDC (lq rfl) B37 rfl rfl) ?_
 refine uV (zIT (lq rfl) S22 rfl rfl rfl rfl (by decide) rfl) ?_
 refine Q50 ?_
 cases h
 refine zB ?_
 exact zO rfl
theorem zC6 {a0 a1 a2 r} (h:jU a0 a1 a2=some r):zK Tryd.prog 66 [(di a0),(.pt [(.pt (eColltable_table.cells a1))]),(.pt [(di a2)])] [(db r)]:=by
 refine co Tryd.func66 ?_;intro _ _ _ _
 unfold jU at h
 refine Q3 ?_
 refine kK ?_
 refine kE MX rfl ?_
 refine zYD O81 ?_
 refine q97 ?_
 refine q17 zKS ?_
 refine q27 O39 ?_
 refine q8 ?_
 have ⟨t10,ht10,h⟩:=bE h
 refine q42 S39 ht10 ?_
 refine q94 zKU ?_
 refine uV (uF (en:=eSpan) (l:=a1.classes) (i:=a0) (v:=t10) (off:=1) (lq rfl) O3 rfl ht10 rfl) ?_
 refine zYD O3 ?_
 refine uV (zJ7 (lq rfl) rfl rfl) ?_
 refine Q50 ?_
 cases h
 refine zB ?_
 exact zO rfl
theorem zL1 {fv1:DV} {a0:Int} {a1:Int→Option (Bool)} (hf1:∀x0 y,a1 x0=some y→FnC Tryd.prog fv1 [(di x0)] [(db y)]) {r:Int} (h:zDE a0 a1=some r):zK Tryd.prog 65 [(di a0),fv1] [(di r)]:=by
 refine co Tryd.func65 ?_;intro _ _ _ _
 unfold zDE at h
 refine Q54 ?_
 refine Q24 ?_
 refine Q42 ?_
 have ⟨y1,hy1,h⟩:=bE h
 refine tl (.exit 0) ⟨[(5,.d (di y1))],[]⟩ ?_ ?_
 refine zG (fun x=>⟨[(1,.d fv1),(5,.d (di x.1)),(6,.d (di x.2))],[]⟩) hy1 (wc) ?_
 rintro ⟨v5,v6⟩ sy1 p1
 replace p1:vY a1 v5 v6=some sy1:=p1
 unfold vY at p1
 refine Q49 ?_
 refine yX p1 (fun p1=>?_) (fun p1=>?_)
 refine zJ ?_
 have ⟨y2,hy2,p1⟩:=bE p1
 refine tl .normal ⟨[(1,.d fv1),(5,.d (di y2.1)),(6,.d (di y2.2))],[]⟩ ?_ ?_
 refine Q75 ?_
 refine Q89 ?_
 refine Q65 ?_
 have ⟨t20,ht20,hy2⟩:=bE hy2
 refine yT (zBR (lq rfl) rfl rfl (hf1 _ _ ht20)) ?_
 refine Q41 ?_
 refine yX hy2 (fun hy2=>?_) (fun hy2=>?_)
 refine Q21 ?_
 cases hy2
 exact zH (wc)
 refine Q68 ?_
 cases hy2
 exact zH (wc)
 cases p1
 exact wc
 refine zI ?_
 cases p1
 intro q;cases q
 exact zH (wc)
 refine Q32 ?_
 cases h
 refine zB ?_
 exact zO rfl
theorem zD3 {a0 a1 r} (h:xC a0 a1=some r):zK Tryd.prog 44 [(.pt (eColltable_table.cells a0)),(di a1)] [(di r)]:=by
 refine co Tryd.func44 ?_;intro _ _ _ _
 unfold xC at h
 refine Q0 ?_
 refine q74 ?_
 refine q74 ?_
 refine Q45 ?_
 refine q65 O81 ?_
 refine yT (zCW (lq rfl) rfl) ?_
 refine q5 zKS ?_
 refine q3 O39 ?_
 refine q6 S39 ?_
 refine yT (zGQ (lq rfl) rfl) ?_
 have ⟨t12,ht12,h⟩:=bE h
 refine q7 (zL1 (fun _ _ q=> .inl ⟨_,_,rfl,zC6 q⟩) ht12) ?_
 refine Q67 ?_
 refine kK ?_
 refine kE MX rfl ?_
 refine q8 ?_
 refine zYD O81 ?_
 refine q97 ?_
 refine q17 zKS ?_
 refine q27 O39 ?_
 refine uV (zMV (en:=eSpan) (l:=a0.classes) (lq rfl) S39 rfl) ?_
 refine zYE ?_
 have ⟨b20,hb20,h⟩:=bE h
 refine uV ((zD (lq rfl) rfl).bool (oi hb20)) ?_
 refine dat (.d (.pt (eColltable_table.cells a0))) rfl (fun hb=>by subst hb;exact zFW (lq rfl) O81 rfl) ?_
 refine dat (.d (.pt (eColltable_table.cells a0))) rfl (fun hb=>by subst hb;exact zCW (lq rfl) rfl) ?_
 refine q86 (.ip (eColltable_table.cells a0) (0+7)) zKS ?_
 refine q87 (.d (yC eSpan a0.classes)) O39 ?_
 refine q54 (.d (di t12)) ?_
 have ⟨t26,ht26,h⟩:=bE h
 refine dat (.ip (eSpan.all a0.classes) (t12.toNat*eSpan.size)) rfl (fun hb=>by subst hb;exact zCB (en:=eSpan) (lq rfl) S39 rfl rfl ht26) ?_
 refine dat (.ip (eSpan.all a0.classes) (t12.toNat*eSpan.size+0)) rfl (fun hb=>by subst hb;exact vS (lq rfl) zKT rfl) ?_
 refine dat (.d (di t26.Lo)) rfl (fun hb=>by subst hb;exact uF (en:=eSpan) (l:=a0.classes) (i:=t12) (v:=t26) (off:=0) (lq rfl) O3 rfl ht26 rfl) ?_
 refine dat (.d (di a1)) rfl (fun hb=>by subst hb;exact zFW (lq rfl) O3 rfl) ?_
 refine dat (.d (db (decide (t26.Lo≤a1)))) rfl (fun hb=>by subst hb;exact zIS (lq rfl) rfl rfl) ?_
 refine q69 ?_
 refine wA ?_
 refine yX h (fun h=>?_) (fun h=>?_)
 refine Q0 ?_
 refine q65 O81 ?_
 refine yT (zCW (lq rfl) rfl) ?_
 refine q5 zKS ?_
 refine q3 O39 ?_
 refine q0 ?_
 have ⟨t37,ht37,h⟩:=bE h
 refine q14 S39 ht37 ?_
 refine q90 zKV ?_
 refine yT (uF (en:=eSpan) (l:=a0.classes) (i:=t12) (v:=t37) (off:=2) (lq rfl) O3 rfl ht37 rfl) ?_
 refine Q1 ?_
 cases h
 refine zB ?_
 exact zO rfl
 refine Q43 ?_
 cases h
 refine zB ?_
 exact zO rfl
theorem zD4 {a0} {a1} {r:Int×(List Element)×Bool×(List Int)} (h:xD a0 a1=some r):GC Tryd.prog 35 [.d (.pt (eColltable_table.cells a0)),.row 3001] [(3001,.win 3 eI.size 0 (eI.all a1))] [3001] [.d (di r.1),.d (yC eElement r.2.1),.d (db r.2.2.1)] [(3001,.win 3 eI.size r.1.toNat (eI.all r.2.2.2))]:=by
 refine zAY Tryd.func35 (by kernel_rfl) rfl (lq rfl) (lq rfl) fun w0 I0 hG0 p0=>?_
 unfold xD at h
 refine Q0 ?_
 refine q1 ?_
 refine Q53 ?_
 refine yT (zCW (lq rfl) rfl) ?_
 refine q5 zS7 ?_
 refine q3 O3 ?_
 refine q9 ?_
 refine z1P kB ?_
 refine z1L ?_
 refine Q1 ?_
 refine Q42 ?_
 have ⟨y1,hy1,h⟩:=bE h
 refine tl (.exit 0) ⟨[(0,.d (.pt (eColltable_table.cells a0))),(1,.row 3001),(7,.d (di y1))],[(3001,.win 3 eI.size 0 (eI.all a1))]⟩ ?_ ?_
 refine zG (fun x=>⟨[(0,.d (.pt (eColltable_table.cells a0))),(1,.row 3001),(7,.d (di x))],[(3001,.win 3 eI.size 0 (eI.all a1))]⟩) hy1 (wc) ?_
 rintro v7 sy1 p1
 replace p1:kD a1 a0 v7=some sy1:=p1
 unfold kD at p1
 refine Q4 ?_
 refine Q46 ?_
 refine yX p1 (fun p1=>?_) (fun p1=>?_)
 refine zJ<|yO<|Q4 ?_
 refine q9 ?_
 refine q0 ?_
 have ⟨t31,ht31,p1⟩:=bE p1
 refine yT (zM1 (en:=eI) (l:=a1) (lq rfl) kB rfl rfl rfl ht31) ?_
 have ⟨t32,ht32,p1⟩:=bE p1
 refine kP rfl (z0X (lq rfl) ⟨_,_,rfl,.d _,⟨_,_,rfl,.front rfl ht31,rfl⟩⟩ (uI ht32)) ?_
 refine yT (zIX (lq rfl) rfl) ?_
 refine zYG ?_
 refine zYG ?_
 refine yT (zNW (lq rfl)) ?_
 refine Q10 ?_
 refine zF ?_
 refine yX p1 (fun p1=>?_) (fun p1=>?_)
 refine zI ?_
 cases p1
 intro q;cases q
 exact zH (wc)
 refine zJ<|Q8 ?_
 refine Q52 ?_
 cases p1
 exact wc
 refine zI ?_
 cases p1
 intro q;cases q
 exact zH (wc)
 refine Q4 ?_
 refine Q63 ?_
 refine yX h (fun h=>?_) (fun h=>?_)
 refine Q2 ?_
 refine q9 ?_
 have ⟨t42,ht42,h⟩:=bE h
 refine yT (zBW (en:=eI) (l:=a1) (lq rfl) kB rfl rfl rfl ht42) ?_
 refine yT (zEH (en:=eI) (l:=a1) (i:=(0:Int)) (v:=t42) (lq rfl) O3 rfl rfl ht42 rfl) ?_
 have ⟨t44,ht44,h⟩:=bE h
 refine q7 (zC2 ht44) ?_
 refine q1 ?_
 refine Q24 ?_
 refine zL (zRW (id:=3001) ((1:Int).toNat) rfl (Nat.zero_le _)) ?_
 cases h
 refine zB ?_
 exact ⟨⟨_,_,rfl,rfl,⟨_,_,rfl,rfl,⟨_,_,rfl,rfl,rfl⟩⟩⟩,⟨rfl,trivial⟩⟩
 refine zJ<|Q39 ?_
 refine Q1 ?_
 refine yO ?_
 have ⟨y2,hy2,h⟩:=bE h
 refine tl (.exit 2) ⟨[(0,.d (.pt (eColltable_table.cells a0))),(1,.row 3001),(7,.d (di y2.1))],[(3001,.win 3 eI.size 0 (eI.all y2.2))]⟩ ?_ ?_
 refine zG (fun x=>⟨[(0,.d (.pt (eColltable_table.cells a0))),(1,.row 3001),(7,.d (di x.1)),(10,.d (di x.2.1)),(11,.d (di x.2.2.1))],[(3001,.win 3 eI.size 0 (eI.all x.2.2.2))]⟩) hy2 (wc) ?_
 rintro ⟨v7,v10,v11,r3001⟩ sy2 p2
 replace p2:yI a0 v7 v10 v11 r3001=some sy2:=p2
 unfold yI at p2
 refine Q4 ?_
 refine q9 ?_
 refine z1P kB ?_
 refine q2 ?_
 have ⟨b50,hb50,p2⟩:=bE p2
 refine yT ((zD (lq rfl) rfl).bool (oi hb50)) ?_
 refine q20 (.d (di v10)) ?_
 refine q20 (.d (.pt (eColltable_table.cells a0))) ?_
 refine sqt (.d (.pt (eColltable_table.cells a0))) rfl (fun hb=>by subst hb;exact zCW (lq rfl) rfl) ?_
 refine q52 (.ip (eColltable_table.cells a0) (0+8)) zXZ ?_
 refine q55 (.d (di a0.top)) O3 ?_
 refine q64 (.d (db (decide (v10 < a0.top)))) ?_
 refine Q47 ?_
 refine yX p2 (fun p2=>?_) (fun p2=>?_)
 refine Q5 ?_
 have ⟨y3,hy3,p2⟩:=bE p2
 refine yB y3 (.exit 2) (fun y3=>⟨[(0,.d (.pt (eColltable_table.cells a0))),(1,.row 3001),(7,.d (di v7))],[(3001,.win 3 eI.size 0 (eI.all r3001))]⟩) .normal (fun y3=>⟨[(0,.d (.pt (eColltable_table.cells a0))),(1,.row 3001),(7,.d (di y3.1)),(10,.d (di y3.2.1)),(11,.d (di v11))],[(3001,.win 3 eI.size 0 (eI.all y3.2.2))]⟩) ?_ ?_ ?_
 refine yO<|Q27 ?_
 refine q0 ?_
 have ⟨t62,ht62,hy3⟩:=bE hy3
 refine yT (zBW (en:=eI) (l:=r3001) (lq rfl) kB rfl rfl rfl ht62) ?_
 refine yT (zEH (en:=eI) (l:=r3001) (i:=v11) (v:=t62) (lq rfl) O3 rfl rfl ht62 rfl) ?_
 refine Q65 ?_
 have ⟨t66,ht66,hy3⟩:=bE hy3
 refine q7 (zD3 ht66) ?_
 refine Q1 ?_
 refine Q4 ?_
 refine Q63 ?_
 refine yX hy3 (fun hy3=>?_) (fun hy3=>?_)
 refine zI ?_
 cases hy3
 exact ⟨rfl,wc⟩
 refine zJ<|Q14 ?_
 refine q66 ?_
 refine zF ?_
 refine yX hy3 (fun hy3=>?_) (fun hy3=>?_)
 refine zI ?_
 cases hy3
 exact ⟨rfl,wc⟩
 refine zJ<|Q4 ?_
 refine q9 ?_
 refine Q20 ?_
 have ⟨t77,ht77,hy3⟩:=bE hy3
 refine yT (zU7 (en:=eI) (l:=r3001) (lq rfl) kB rfl rfl rfl rfl ht77) ?_
 refine q0 ?_
 refine q35 kB ?_
 have ⟨r80_4,hr80_4,hy3⟩:=bE hy3
 refine kP rfl (zU8 (en:=eI) (l:=r3001) (b:=v7) (lq rfl) kB rfl rfl ht77 rfl (by simp) hr80_4 (by decide) rfl) ?_
 have ⟨t81,ht81,hy3⟩:=bE hy3
 refine kP rfl (zWQ (lq rfl) rfl rfl (uI ht81)) ?_
 refine Q70 ?_
 refine Q53 ?_
 refine Q41 ?_
 refine yX hy3 (fun hy3=>?_) (fun hy3=>?_)
 refine Q32 ?_
 refine zI ?_
 cases hy3
 exact ⟨rfl,wc⟩
 refine Q5 ?_
 refine zDV 10 MX rfl ?_
 refine Q76 ?_
 refine z1Q ?_
 refine q8 ?_
 refine z1Q ?_
 have ⟨t92,ht92,hy3⟩:=bE hy3
 refine uV (zP0 (en:=eI) (l:=r3001) (lq rfl) kB rfl rfl rfl rfl ht92) ?_
 refine q63 ?_
 refine Q38 ?_
 have ⟨t96,ht96,hy3⟩:=bE hy3
 refine uV (zP0 (en:=eI) (l:=r3001) (lq rfl) kB rfl rfl rfl rfl ht96) ?_
 refine wA ?_
 refine kP rfl (z0Z (en:=eI) (l:=r3001) (a1:=(wi (v7+1))) (b1:=(wi (v11+1))) (a2:=v7) (b2:=v11) (lq rfl) kB rfl rfl rfl ht92 ht96 rfl) ?_
 refine zF<|Q60 ?_
 have ⟨t101,ht101,hy3⟩:=bE hy3
 refine yT (zBW (en:=eI) (l:=(cpM r3001 (wi (v7+1)) (wi (v11+1)) v7 v11)) (lq rfl) kB rfl rfl rfl ht101) ?_
 have ⟨r3001_5,hr3001_5,hy3⟩:=bE hy3
 refine kP rfl (zP1 (en:=eI) (l:=(cpM r3001 (wi (v7+1)) (wi (v11+1)) v7 v11)) (i:=v7) (v:=t62) O3 rfl rfl rfl ht101 hr3001_5 rfl rfl rfl rfl) ?_
 refine zF<|Q21 ?_
 cases hy3
 exact ⟨rfl,wc⟩
 rintro y3 rfl
 replace p2:=eL p2
 cases p2
 intro q;cases q
 exact zH (wc)
 rintro y3 rfl
 replace p2:=eR p2
 refine Q21 ?_
 cases p2
 exact wc
 refine zI ?_
 cases p2
 intro q;cases q
 exact zH (wc)
 refine Q2 ?_
 refine q9 ?_
 refine q0 ?_
 have ⟨t108,ht108,h⟩:=bE h
 refine yT (zM1 (en:=eI) (l:=y2.2) (lq rfl) kB rfl rfl rfl ht108) ?_
 refine zFU (zRX (tm:=108) (en:=eI) (l:=y2.2) (b:=y2.1) (lq rfl) rfl rfl ht108) ?_ (by simp)
 have ⟨t109,ht109,h⟩:=bE h
 refine kP rfl ((zBJ (lq rfl) rfl (uI ht109)).step) ?_
 refine Q70 ?_
 refine Q53 ?_
 refine q0 ?_
 refine q1 ?_
 refine Q24 ?_
 cases h
 refine zB ?_
 exact ⟨⟨_,_,rfl,rfl,⟨_,_,rfl,rfl,⟨_,_,rfl,rfl,rfl⟩⟩⟩,⟨rfl,trivial⟩⟩
set_option maxHeartbeats 8000000 in
theorem zFN {a0 a1 a2 r} (h:wV a0 a1 a2=some r):zK Tryd.prog 29 [(eNorm.dv a0),(eCollation.dv a1),(yC eI a2)] [(yC eElement r)]:=by
 refine co Tryd.func29 ?_;intro _ _ _ _
 unfold wV at h
 refine Q44 ?_
 refine q83 ?_
 refine Q67 ?_
 have ⟨t14,ht14,h⟩:=bE h
 have ⟨t16,ht16,h⟩:=bE h
 refine tl .normal ⟨[(2,.d (yC eI a2)),(3,.d (.pt (eNorm.cells a0))),(7,.ptr 2514 0)],[(2514,.box 93 [.d (yC eEntry t16.c.Entries),.d (yC eGroup t16.c.Groups),.d (di t16.c.Base),.d (di t16.c.Second),.d (di t16.c.Third),.row 3014,.d (di t16.longest),.d (yC eSpan t16.classes),.d (di t16.top)]),(3014,.map (xQ zBM (eL eElement) t16.entries))]⟩ ?_ ?_
 refine zA8 MX ?_
 refine xn [0,2] ?_
 refine xa rfl (zC (lq rfl) G49 rfl rfl) ?_ ?_
 refine xn [1,2] ?_
 refine xb rfl (zBK [(13,2514),(11,3014)] (zBP ht14) (lq rfl) (by decide) ⟨rfl,trivial⟩ rfl rfl trivial rfl rfl rfl (fun _=>rfl) rfl) ?_ ?_
 refine xn [2] ?_
 refine z1R G45 ?_
 refine xn [3] ?_
 refine xd rfl (zBK [(3000,2514),(3105,3014)] (uH ht16) (lq rfl) (by decide) ⟨rfl,rfl,trivial⟩ rfl rfl ⟨rfl,rfl,trivial⟩ rfl rfl rfl (fun _=>rfl) rfl) ?_
 refine xn [4] ?_
 refine xc rfl (zAA (lq rfl) rfl) ?_
 exact ae
 refine z1R G45 ?_
 refine xn [1] ?_
 refine xd rfl (zBK [(13,2514),(11,3014)] (zBP ht14) (lq rfl) (by decide) ⟨rfl,trivial⟩ rfl rfl trivial rfl rfl rfl (fun _=>rfl) rfl) ?_
 refine xn [3] ?_
 refine xd rfl (zBK [(3000,2514),(3105,3014)] (uH ht16) (lq rfl) (by decide) ⟨rfl,rfl,trivial⟩ rfl rfl ⟨rfl,rfl,trivial⟩ rfl rfl rfl (fun _=>rfl) rfl) ?_
 refine xn [4] ?_
 refine xc rfl (zAA (lq rfl) rfl) ?_
 exact ae
 refine z1R G45 ?_
 refine xn [0] ?_
 refine z1R G49 ?_
 refine xn [1] ?_
 refine xd rfl (zBK [(13,2514),(11,3014)] (zBP ht14) (lq rfl) (by decide) ⟨rfl,trivial⟩ rfl rfl trivial rfl rfl rfl (fun _=>rfl) rfl) ?_
 refine xn [3] ?_
 refine xd rfl (zBK [(3000,2514),(3105,3014)] (uH ht16) (lq rfl) (by decide) ⟨rfl,rfl,trivial⟩ rfl rfl ⟨rfl,rfl,trivial⟩ rfl rfl rfl (fun _=>rfl) rfl) ?_
 refine xn [4] ?_
 refine xc rfl (zAA (lq rfl) rfl) ?_
 exact ae
 refine zL (zNY (bid:=2514) (off:=5) rfl rfl rfl) ?_
 refine zL (z0 (t:=7) (lq rfl) rfl rfl rfl) ?_
 refine Q3 ?_
 refine zL (uJ (t:=8) 1008 37 eElement.size (lq rfl) (lq rfl) rfl rfl) ?_
 refine Q11 ?_
 refine q33 G45 ?_
 refine q0 ?_
 have ⟨t19,ht19,h⟩:=bE h
 refine kP rfl (zBK [(2531,2519)] (zII ht19) (lq rfl) (by decide) ⟨rfl,rfl,rfl,trivial⟩ rfl rfl trivial rfl rfl rfl (fun _=>rfl) rfl) ?_
 refine Q19 ?_
 refine zL (zNX (id:=2519) rfl) ?_
 refine yO ?_
 have ⟨y1,hy1,h⟩:=bE h
 refine tl (.exit 0) ⟨[(8,.row 1008)],[(1008,.row 37 eElement.size false (eElement.all y1))]⟩ ?_ ?_
 refine zG (fun x=>⟨[(7,.d (.pt (eColltable_table.cells t16))),(8,.row 1008),(9,.row 2519)],[(1008,.row 37 eElement.size false (eElement.all x.1)),(2519,.win 3 eI.size 0 (eI.all x.2))]⟩) hy1 (wc) ?_
 rintro ⟨r1008,r2519⟩ sy1 p1
 replace p1:jB t16 r1008 r2519=some sy1:=p1
 unfold jB at p1
 refine Q11 ?_
 refine q9 ?_
 refine z1P kB ?_
 refine Q46 ?_
 refine yX p1 (fun p1=>?_) (fun p1=>?_)
 refine zJ<|Q64 ?_
 refine q9 ?_
 have ⟨t26,ht26,p1⟩:=bE p1
 refine kP rfl (zBK [(3001,2519)] (zD4 ht26) (lq rfl) (by decide) ⟨rfl,rfl,trivial⟩ rfl rfl ⟨rfl,trivial⟩ rfl rfl rfl (fun _=>rfl) rfl) ?_
 refine yT (zIX (lq rfl) rfl) ?_
 refine zYG ?_
 refine zYG ?_
 refine zYG ?_
 refine q1 ?_
 refine Q24 ?_
 refine Q27 ?_
 refine q0 ?_
 have ⟨r1008_2,hr1008_2,p1⟩:=bE p1
 refine q34 S22 hr1008_2 ?_
 refine Q19 ?_
 refine Q29 ?_
 refine q0 ?_
 have ⟨r2519_3,hr2519_3,p1⟩:=bE p1
 refine kP rfl (zXG (en:=eI) (l:=t26.2.2.2) (lq rfl) kB rfl rfl rfl hr2519_3 (Nat.le_refl _) rfl) ?_
 refine Q19 ?_
 cases p1
 exact wc
 refine zI ?_
 cases p1
 intro q;cases q
 exact zH (wc)
 refine Q27 ?_
 refine Q19 ?_
 cases h
 refine zB ?_
 exact zO rfl
theorem zL2 {a0 a1 a2 a3 r} (h:zA2 a0 a1 a2 a3=some r):zK Tryd.prog 21 [(eNorm.dv a0),(eCollation.dv a1),(eOptions.dv a2),(yC eI a3)] [(yC eI r)]:=by
 refine co Tryd.func21 ?_;intro _ _ _ _
 unfold zA2 at h
 refine Q44 ?_
 refine q83 ?_
 refine q75 ?_
 refine Q45 ?_
 refine yT ((kL (lq rfl) jP rfl rfl rfl rfl).data rfl) ?_
 have ⟨t15,ht15,h⟩:=bE h
 refine q7 (zB8 ht15) ?_
 refine Q79 ?_
 refine Q3 ?_
 refine zL (uJ (t:=9) 1009 3 eI.size (lq rfl) (lq rfl) rfl rfl) ?_
 refine kK<|kK ?_
 refine kE MX rfl ?_
 refine q72 G45 ?_
 refine q72 G49 ?_
 refine q8 ?_
 have ⟨t19,ht19,h⟩:=bE h
 refine q26 (zFN ht19) ?_
 refine uV ((kL (lq rfl) jP rfl rfl rfl rfl).data rfl) ?_
 have ⟨t21,ht21,h⟩:=bE h
 refine q26 (jZ ht21) ?_
 refine uV (zMV (en:=(eL eI)) (l:=t21) (lq rfl) S29 rfl) ?_
 refine q8 ?_
 refine wA<|yO ?_
 have ⟨y1,hy1,h⟩:=bE h
 refine tl (.exit 0) ⟨[(3,.d (yC eI a3)),(4,.d (.pt (eNorm.cells a0))),(6,.ptr 6 0),(9,.row 1009)],[(6,.box 24 [.d (di t15.Strength),.d (di t15.Variable),.d (db t15.Backward),.d (db t15.Identical)]),(1009,.row 3 eI.size false (eI.all y1))]⟩ ?_ ?_
 refine zG (fun x=>⟨[(3,.d (yC eI a3)),(4,.d (.pt (eNorm.cells a0))),(6,.ptr 6 0),(9,.row 1009),(21,.d (yC (eL eI) t21)),(22,.d (di (t21.length:Int))),(23,.d (di x.1))],[(6,.box 24 [.d (di t15.Strength),.d (di t15.Variable),.d (db t15.Backward),.d (db t15.Identical)]),(1009,.row 3 eI.size false (eI.all x.2))]⟩) hy1 (wc) ?_
 rintro ⟨v23,r1009⟩ sy1 p1
 replace p1:vZ t21 v23 r1009=some sy1:=p1
 unfold vZ at p1
 refine Q13 ?_
 refine yX p1 (fun p1=>?_) (fun p1=>?_)
 refine Q9 ?_
 refine Q2 ?_
 have ⟨t26,ht26,p1⟩:=bE p1
 refine q14 S29 ht26 ?_
 refine yT (uF (en:=(eL eI)) (l:=t21) (i:=v23) (v:=t26) (off:=0) (lq rfl) O32 rfl ht26 rfl) ?_
 refine Q90 ?_
 refine Q46 ?_
 have ⟨y2,hy2,p1⟩:=bE p1
 refine tl .normal ⟨[(3,.d (yC eI a3)),(4,.d (.pt (eNorm.cells a0))),(6,.ptr 6 0),(9,.row 1009),(11,.d (yC eI t26)),(21,.d (yC (eL eI) t21)),(22,.d (di (t21.length:Int))),(23,.d (di v23))],[(6,.box 24 [.d (di t15.Strength),.d (di t15.Variable),.d (db t15.Backward),.d (db t15.Identical)]),(1009,.row 3 eI.size false (eI.all y2))]⟩ ?_ ?_
 refine yX hy2 (fun hy2=>?_) (fun hy2=>?_)
 refine Q29 ?_
 refine q35 kB ?_
 have ⟨r1009_3,hr1009_3,hy2⟩:=bE hy2
 refine q34 kB hr1009_3 ?_
 refine Q19 ?_
 cases hy2
 exact zH (wc)
 refine zJ ?_
 cases hy2
 exact zH (wc)
 refine Q29 ?_
 refine q0 ?_
 have ⟨r1009_4,hr1009_4,p1⟩:=bE p1
 refine q34 kB hr1009_4 ?_
 refine Q19 ?_
 refine Q16 ?_
 cases p1
 exact wc
 refine zI ?_
 cases p1
 intro q;cases q
 exact zH (wc)
 refine Q11 ?_
 refine q41 z7V ?_
 refine q24 O4 ?_
 refine Q41 ?_
 refine yX h (fun h=>?_) (fun h=>?_)
 refine Q27 ?_
 refine Q19 ?_
 cases h
 refine zB ?_
 exact zO rfl
 refine zJ<|Q27 ?_
 refine q35 kB ?_
 have ⟨r1009_5,hr1009_5,h⟩:=bE h
 refine q34 kB hr1009_5 ?_
 refine Q19 ?_
 refine Q11 ?_
 refine q33 G45 ?_
 refine q0 ?_
 have ⟨t46,ht46,h⟩:=bE h
 refine q7 (zIH ht46) ?_
 refine Q58 ?_
 have ⟨y6,hy6,h⟩:=bE h
 refine tl (.exit 2) ⟨[(9,.row 1009)],[(1009,.row 3 eI.size false (eI.all y6))]⟩ ?_ ?_
 refine zG (fun x=>⟨[(9,.row 1009),(46,.d (yC eI t46)),(47,.d (di (t46.length:Int))),(48,.d (di x.1))],[(1009,.row 3 eI.size false (eI.all x.2))]⟩) hy6 (wc) ?_
 rintro ⟨v48,r1009⟩ sy6 p6
 replace p6:uA t46 v48 r1009=some sy6:=p6
 unfold uA at p6
 refine Q13 ?_
 refine yX p6 (fun p6=>?_) (fun p6=>?_)
 refine Q5 ?_
 have ⟨y7,hy7,p6⟩:=bE p6
 refine tl .normal ⟨[(9,.row 1009),(46,.d (yC eI t46)),(47,.d (di (t46.length:Int))),(48,.d (di v48))],[(1009,.row 3 eI.size false (eI.all y7))]⟩ ?_ ?_
 refine yO<|Q0 ?_
 have ⟨t50,ht50,hy7⟩:=bE hy7
 refine q14 kB ht50 ?_
 refine q49 O3 ht50 ?_
 refine Q10 ?_
 refine q48 ?_
 have ⟨b54,hb54,hy7⟩:=bE hy7
 refine yT ((zD (lq rfl) rfl).bool (oi hb54)) ?_
 refine q20 (.d (di t50)) ?_
 refine q76 (.d (db (decide (t50≤1114111)))) ?_
 refine Q47 ?_
 refine yX hy7 (fun hy7=>?_) (fun hy7=>?_)
 refine Q29 ?_
 refine q0 ?_
 refine q4 ?_
 refine q35 kB ?_
 have ⟨r1009_8,hr1009_8,hy7⟩:=bE hy7
 refine q34 kB hr1009_8 ?_
 refine Q19 ?_
 cases hy7
 exact zH (wc)
 refine zJ ?_
 cases hy7
 exact zH (wc)
 refine Q16 ?_
 cases p6
 exact wc
 refine zI ?_
 cases p6
 intro q;cases q
 exact zH (wc)
 refine Q27 ?_
 refine Q19 ?_
 cases h
 refine zB ?_
 exact zO rfl
theorem zJI {a0 a1 r} (h:zAR a0 a1=some r):zK Tryd.prog 16 [(yC eI a0),(yC eI a1)] [(di r)]:=by
 refine co Tryd.func16 ?_;intro _ _ _ _
 unfold zAR at h
 refine Q3 ?_
 refine Q66 ?_
 have ⟨y1,hy1,h⟩:=bE h
 refine yB y1 (.exit 0) (fun y1=>⟨[(0,.d (yC eI a0)),(1,.d (yC eI a1))],[]⟩) .ret (fun y1=>⟨[(4,.d (di y1))],[]⟩) ?_ ?_ ?_
 refine zG (fun x=>⟨[(0,.d (yC eI a0)),(1,.d (yC eI a1)),(5,.d (di x))],[]⟩) hy1 (wc) ?_
 rintro v5 sy1 p1
 replace p1:wP a0 a1 v5=some sy1:=p1
 unfold wP at p1
 refine Q14 ?_
 refine q6 kB ?_
 refine q2 ?_
 have ⟨b10,hb10,p1⟩:=bE p1
 refine yT ((zD (lq rfl) rfl).bool (oi hb10)) ?_
 refine q20 (.d (di v5)) ?_
 refine q20 (.d (yC eI a1)) ?_
 refine z5A (.d (di (a1.length:Int))) kB ?_
 refine q64 (.d (db (decide (v5 < (a1.length:Int))))) ?_
 refine Q47 ?_
 refine yX p1 (fun p1=>?_) (fun p1=>?_)
 refine Q9 ?_
 refine kK<|kK ?_
 refine kE MX rfl ?_
 refine Q38 ?_
 have ⟨t20,ht20,p1⟩:=bE p1
 refine q42 kB ht20 ?_
 refine q70 O3 ht20 ?_
 refine Q38 ?_
 have ⟨t24,ht24,p1⟩:=bE p1
 refine q42 kB ht24 ?_
 refine q70 O3 ht24 ?_
 refine zYE ?_
 refine wA ?_
 refine yX p1 (fun p1=>?_) (fun p1=>?_)
 refine Q22 ?_
 cases p1
 intro q;cases q
 exact ⟨rfl,wc⟩
 refine Q5 ?_
 refine kE MX rfl ?_
 refine Q38 ?_
 have ⟨t29,ht29,p1⟩:=bE p1
 refine q42 kB ht29 ?_
 refine q70 O3 ht29 ?_
 refine Q38 ?_
 have ⟨t33,ht33,p1⟩:=bE p1
 refine q42 kB ht33 ?_
 refine q70 O3 ht33 ?_
 refine q85 ?_
 refine wA ?_
 refine yX p1 (fun p1=>?_) (fun p1=>?_)
 refine Q22 ?_
 cases p1
 intro q;cases q
 exact ⟨rfl,wc⟩
 refine Q59 ?_
 cases p1
 exact wc
 refine zI ?_
 cases p1
 intro q;cases q
 exact ⟨rfl,wc⟩
 rintro y1 rfl
 replace h:=eL h
 refine Q4 ?_
 refine q6 kB ?_
 refine q0 ?_
 refine q6 kB ?_
 refine Q7 ?_
 refine yX h (fun h=>?_) (fun h=>?_)
 refine Q3 ?_
 cases h
 refine zB ?_
 exact zO rfl
 refine zJ<|Q4 ?_
 refine q6 kB ?_
 refine q0 ?_
 refine q6 kB ?_
 refine Q46 ?_
 refine yX h (fun h=>?_) (fun h=>?_)
 refine Q3 ?_
 cases h
 refine zB ?_
 exact zO rfl
 refine Q43 ?_
 cases h
 refine zB ?_
 exact zO rfl
 rintro y1 rfl
 replace h:=eR h
 cases h
 exact zO rfl
theorem zDS {a0 a1 r} (h:wG a0 a1=some r):zK Tryd.prog 17 [(yC eI a0),(yC eI a1)] [(db r)]:=by
 refine co Tryd.func17 ?_;intro _ _ _ _
 unfold wG at h
 refine Q3 ?_
 refine Q28 ?_
 have ⟨t7,ht7,h⟩:=bE h
 refine q7 (zJI ht7) ?_
 refine Q73 ?_
 cases h
 refine zB ?_
 exact zO rfl
theorem zJJ {a0 r} (h:zAS a0=some r):zK Tryd.prog 14 [(yC eI a0)] [(ds r)]:=by
 refine co Tryd.func14 ?_;intro _ _ _ _
 unfold zAS at h
 refine Q3 ?_
 refine Q3 ?_
 refine zL (uJ (t:=3) 1003 5 e8.size (lq rfl) (lq rfl) rfl rfl) ?_
 refine Q4 ?_
 refine Q58 ?_
 have ⟨y1,hy1,h⟩:=bE h
 refine tl (.exit 0) ⟨[(3,.row 1003)],[(1003,.row 5 e8.size false (e8.all y1))]⟩ ?_ ?_
 refine zG (fun x=>⟨[(3,.row 1003),(7,.d (yC eI a0)),(8,.d (di (a0.length:Int))),(9,.d (di x.1))],[(1003,.row 5 e8.size false (e8.all x.2))]⟩) hy1 (wc) ?_
 rintro ⟨v9,r1003⟩ sy1 p1
 replace p1:zAF a0 v9 r1003=some sy1:=p1
 unfold zAF at p1
 refine Q13 ?_
 refine yX p1 (fun p1=>?_) (fun p1=>?_)
 refine Q25 ?_
 have ⟨t11,ht11,p1⟩:=bE p1
 refine q14 kB ht11 ?_
 refine q49 O3 ht11 ?_
 refine Q10 ?_
 refine q28 Tryd.underlying3 Tryd.underlying69 ?_
 refine Q1 ?_
 refine Q29 ?_
 refine q0 ?_
 refine q45 ?_
 refine q28 Tryd.underlying69 Tryd.underlying5 ?_
 refine q0 ?_
 refine q45 ?_
 refine q28 Tryd.underlying69 Tryd.underlying5 ?_
 refine q0 ?_
 refine q45 ?_
 refine q28 Tryd.underlying69 Tryd.underlying5 ?_
 refine q0 ?_
 refine q28 Tryd.underlying69 Tryd.underlying5 ?_
 refine q35 S68 ?_
 have ⟨r1003_2,hr1003_2,p1⟩:=bE p1
 refine q34 S68 hr1003_2 ?_
 refine Q19 ?_
 refine Q16 ?_
 cases p1
 exact wc
 refine zI ?_
 cases p1
 intro q;cases q
 exact zH (wc)
 refine Q27 ?_
 refine yT (z4V (lq rfl) Tryd.underlying68 Tryd.underlying9 Tryd.underlying5 rfl rfl) ?_
 refine Q1 ?_
 cases h
 refine zB ?_
 exact zO rfl
set_option maxHeartbeats 8000000 in
set_option maxRecDepth 40000 in
theorem zGN {r} (h:zA3=some r):zK Tryd.prog 8 [] [(db r)]:=by
 refine co Tryd.func8 ?_;intro _ _ _ _
 unfold zA3 at h
 refine Q3 ?_
 refine Q0 ?_
 refine q51 B37 ?_
 refine q51 B37 ?_
 refine q35 S22 ?_
 refine Q10 ?_
 refine q51 B24 ?_
 have ⟨t10,ht10,h⟩:=bE h
 refine q7 (jZ ht10) ?_
 refine Q67 ?_
 have ⟨t13,ht13,h⟩:=bE h
 have ⟨t17,ht17,h⟩:=bE h
 refine tl .normal ⟨[(2,.d (yC (eL eI) t10)),(3,.ptr 3 0)],[(3,.box 49 [.d (yC eEntry (({Entries:=[({Codes:=[97],Elements:=t13}:Entry),({Codes:=[98],Elements:=t17}:Entry)],Groups:=[],Base:=100,Second:=32,Third:=2}:Collation).Entries)),.d (yC eGroup (({Entries:=[({Codes:=[97],Elements:=t13}:Entry),({Codes:=[98],Elements:=t17}:Entry)],Groups:=[],Base:=100,Second:=32,Third:=2}:Collation).Groups)),.d (di (({Entries:=[({Codes:=[97],Elements:=t13}:Entry),({Codes:=[98],Elements:=t17}:Entry)],Groups:=[],Base:=100,Second:=32,Third:=2}:Collation).Base)),.d (di (({Entries:=[({Codes:=[97],Elements:=t13}:Entry),({Codes:=[98],Elements:=t17}:Entry)],Groups:=[],Base:=100,Second:=32,Third:=2}:Collation).Second)),.d (di (({Entries:=[({Codes:=[97],Elements:=t13}:Entry),({Codes:=[98],Elements:=t17}:Entry)],Groups:=[],Base:=100,Second:=32,Third:=2}:Collation).Third))])]⟩ ?_ ?_
 refine zA8 MX ?_
 refine xm 1 ?_
 refine zR5 (en:=eElement) (i:=2) rfl (lq rfl) S22 rfl rfl ht13 rfl (by kernel_rfl) (by kernel_rfl) (by kernel_rfl) ?_
 refine xm 5 ?_
 refine zR6 (en:=eElement) (i:=6) rfl (lq rfl) S22 rfl rfl ht17 rfl (by kernel_rfl) (by kernel_rfl) (by kernel_rfl) ?_
 refine xn [0,4,10] ?_
 refine q80 kB ?_ ?_
 refine jS (bs:=eEntry.cells ({Codes:=[97],Elements:=t13}:Entry)) (i:=3) rfl (lq rfl) B58 rfl rfl (nlE (nlE nl0)) rfl (by kernel_rfl) (by kernel_rfl) (by kernel_rfl) ?_
 refine xn [4,10] ?_
 refine q80 kB ?_ ?_
 refine jS (bs:=eEntry.cells ({Codes:=[98],Elements:=t17}:Entry)) (i:=7) rfl (lq rfl) B58 rfl rfl (nlE (nlE nl0)) rfl (by kernel_rfl) (by kernel_rfl) (by kernel_rfl) ?_
 refine xn [8,10] ?_
 refine q80 S46 ?_ ?_
 refine jS (bs:=eCollation.cells ({Entries:=[({Codes:=[97],Elements:=t13}:Entry),({Codes:=[98],Elements:=t17}:Entry)],Groups:=[],Base:=100,Second:=32,Third:=2}:Collation)) (i:=9) rfl (lq rfl) B49 rfl rfl (nlE (nlN (nlE (nlE (nlE nl0))))) rfl (by kernel_rfl) (by kernel_rfl) (by kernel_rfl) ?_
 refine xn [10] ?_
 refine q81 ?_
 refine Q77 ?_
 exact ae
 refine q81 ?_
 refine xn [8] ?_
 refine q60 S46 ?_
 refine jS (bs:=eCollation.cells ({Entries:=[({Codes:=[97],Elements:=t13}:Entry),({Codes:=[98],Elements:=t17}:Entry)],Groups:=[],Base:=100,Second:=32,Third:=2}:Collation)) (i:=9) rfl (lq rfl) B49 rfl rfl (nlE (nlN (nlE (nlE (nlE nl0))))) rfl (by kernel_rfl) (by kernel_rfl) (by kernel_rfl) ?_
 refine Q77 ?_
 exact ae
 refine q81 ?_
 refine xn [4] ?_
 refine q60 kB ?_
 refine jS (bs:=eEntry.cells ({Codes:=[98],Elements:=t17}:Entry)) (i:=7) rfl (lq rfl) B58 rfl rfl (nlE (nlE nl0)) rfl (by kernel_rfl) (by kernel_rfl) (by kernel_rfl) ?_
 refine xn [8] ?_
 refine q60 S46 ?_
 refine jS (bs:=eCollation.cells ({Entries:=[({Codes:=[97],Elements:=t13}:Entry),({Codes:=[98],Elements:=t17}:Entry)],Groups:=[],Base:=100,Second:=32,Third:=2}:Collation)) (i:=9) rfl (lq rfl) B49 rfl rfl (nlE (nlN (nlE (nlE (nlE nl0))))) rfl (by kernel_rfl) (by kernel_rfl) (by kernel_rfl) ?_
 refine Q77 ?_
 exact ae
 refine q80 kB ?_ ?_
 refine jS (bs:=eEntry.cells ({Codes:=[98],Elements:=t17}:Entry)) (i:=7) rfl (lq rfl) B58 rfl rfl (nlE (nlE nl0)) rfl (by kernel_rfl) (by kernel_rfl) (by kernel_rfl) ?_
 refine xn [0,10] ?_
 refine q80 kB ?_ ?_
 refine jS (bs:=eEntry.cells ({Codes:=[97],Elements:=t13}:Entry)) (i:=3) rfl (lq rfl) B58 rfl rfl (nlE (nlE nl0)) rfl (by kernel_rfl) (by kernel_rfl) (by kernel_rfl) ?_
 refine xn [8,10] ?_
 refine q80 S46 ?_ ?_
 refine jS (bs:=eCollation.cells ({Entries:=[({Codes:=[97],Elements:=t13}:Entry),({Codes:=[98],Elements:=t17}:Entry)],Groups:=[],Base:=100,Second:=32,Third:=2}:Collation)) (i:=9) rfl (lq rfl) B49 rfl rfl (nlE (nlN (nlE (nlE (nlE nl0))))) rfl (by kernel_rfl) (by kernel_rfl) (by kernel_rfl) ?_
 refine xn [10] ?_
 refine q81 ?_
 refine Q77 ?_
 exact ae
 refine q81 ?_
 refine xn [8] ?_
 refine q60 S46 ?_
 refine jS (bs:=eCollation.cells ({Entries:=[({Codes:=[97],Elements:=t13}:Entry),({Codes:=[98],Elements:=t17}:Entry)],Groups:=[],Base:=100,Second:=32,Third:=2}:Collation)) (i:=9) rfl (lq rfl) B49 rfl rfl (nlE (nlN (nlE (nlE (nlE nl0))))) rfl (by kernel_rfl) (by kernel_rfl) (by kernel_rfl) ?_
 refine Q77 ?_
 exact ae
 refine q81 ?_
 refine xn [0] ?_
 refine q60 kB ?_
 refine jS (bs:=eEntry.cells ({Codes:=[97],Elements:=t13}:Entry)) (i:=3) rfl (lq rfl) B58 rfl rfl (nlE (nlE nl0)) rfl (by kernel_rfl) (by kernel_rfl) (by kernel_rfl) ?_
 refine xn [8] ?_
 refine q60 S46 ?_
 refine jS (bs:=eCollation.cells ({Entries:=[({Codes:=[97],Elements:=t13}:Entry),({Codes:=[98],Elements:=t17}:Entry)],Groups:=[],Base:=100,Second:=32,Third:=2}:Collation)) (i:=9) rfl (lq rfl) B49 rfl rfl (nlE (nlN (nlE (nlE (nlE nl0))))) rfl (by kernel_rfl) (by kernel_rfl) (by kernel_rfl) ?_
 refine Q77 ?_
 exact ae
 refine q81 ?_
 refine xn [0,4] ?_
 refine q80 kB ?_ ?_
 refine jS (bs:=eEntry.cells ({Codes:=[97],Elements:=t13}:Entry)) (i:=3) rfl (lq rfl) B58 rfl rfl (nlE (nlE nl0)) rfl (by kernel_rfl) (by kernel_rfl) (by kernel_rfl) ?_
 refine xn [4] ?_
 refine q60 kB ?_
 refine jS (bs:=eEntry.cells ({Codes:=[98],Elements:=t17}:Entry)) (i:=7) rfl (lq rfl) B58 rfl rfl (nlE (nlE nl0)) rfl (by kernel_rfl) (by kernel_rfl) (by kernel_rfl) ?_
 refine xn [8] ?_
 refine q60 S46 ?_
 refine jS (bs:=eCollation.cells ({Entries:=[({Codes:=[97],Elements:=t13}:Entry),({Codes:=[98],Elements:=t17}:Entry)],Groups:=[],Base:=100,Second:=32,Third:=2}:Collation)) (i:=9) rfl (lq rfl) B49 rfl rfl (nlE (nlN (nlE (nlE (nlE nl0))))) rfl (by kernel_rfl) (by kernel_rfl) (by kernel_rfl) ?_
 refine Q77 ?_
 exact ae
 refine q60 kB ?_
 refine jS (bs:=eEntry.cells ({Codes:=[98],Elements:=t17}:Entry)) (i:=7) rfl (lq rfl) B58 rfl rfl (nlE (nlE nl0)) rfl (by kernel_rfl) (by kernel_rfl) (by kernel_rfl) ?_
 refine xn [0] ?_
 refine q60 kB ?_
 refine jS (bs:=eEntry.cells ({Codes:=[97],Elements:=t13}:Entry)) (i:=3) rfl (lq rfl) B58 rfl rfl (nlE (nlE nl0)) rfl (by kernel_rfl) (by kernel_rfl) (by kernel_rfl) ?_
 refine xn [8] ?_
 refine q60 S46 ?_
 refine jS (bs:=eCollation.cells ({Entries:=[({Codes:=[97],Elements:=t13}:Entry),({Codes:=[98],Elements:=t17}:Entry)],Groups:=[],Base:=100,Second:=32,Third:=2}:Collation)) (i:=9) rfl (lq rfl) B49 rfl rfl (nlE (nlN (nlE (nlE (nlE nl0))))) rfl (by kernel_rfl) (by kernel_rfl) (by kernel_rfl) ?_
 refine Q77 ?_
 exact ae
 refine zL (z0 (t:=3) (lq rfl) rfl rfl rfl) ?_
 refine Q0 ?_
 refine yT ((zDC (lq rfl) B45 rfl rfl).nils (bs:=eNorm.cells ({Classes:=[],Decomp:=[],Excluded:=(({Ranges:=[]}):Set)}:Norm)) (nlN (nlN (nlN nl0)))) ?_
 refine q33 G49 ?_
 refine q51 B24 ?_
 refine q35 kB ?_
 have ⟨t25,ht25,h⟩:=bE h
 refine q7 (zL2 ht25) ?_
 refine Q10 ?_
 refine q6 S29 ?_
 refine q36 ?_
 have ⟨b29,hb29,h⟩:=bE h
 refine yT ((zD (lq rfl) rfl).bool (oi hb29)) ?_
 refine q20 (.d (yC eI t25)) ?_
 refine sqt (.d (yC eI [16,17,0,32,32])) rfl (fun hb=>by subst hb;exact zIT (lq rfl) kB rfl rfl rfl rfl (by decide) rfl) ?_
 have ⟨t32,ht32,h⟩:=bE h
 refine sqt (.d (db t32)) rfl (fun hb=>by subst hb;exact zBJ (lq rfl) rfl (zDS ht32)) ?_
 refine q16 ?_
 have ⟨b34,hb34,h⟩:=bE h
 refine yT ((zD (lq rfl) rfl).bool (oi hb34)) ?_
 refine sqt (.d (yC eI [258])) rfl (fun hb=>by subst hb;exact zIT (lq rfl) kB rfl rfl rfl rfl (by decide) rfl) ?_
 have ⟨t36,ht36,h⟩:=bE h
 refine sqt (.d (ds t36)) rfl (fun hb=>by subst hb;exact zBJ (lq rfl) rfl (zJJ ht36)) ?_
 refine sqt (.d (db (t36== [0,0,1,2]))) rfl (fun hb=>by subst hb;exact zRP (a:=t36) (b:=[0,0,1,2]) (lq rfl) rfl rfl) ?_
 refine q16 ?_
 have ⟨b39,hb39,h⟩:=bE h
 refine yT ((zD (lq rfl) rfl).bool (oi hb39)) ?_
 refine sqt (.d (eOptions.dv ({Strength:=0,Variable:=0,Backward:=false,Identical:=false}:Options))) rfl (fun hb=>by subst hb;exact zDC (lq rfl) B24 rfl rfl) ?_
 have ⟨t41,ht41,h⟩:=bE h
 refine sqt (.d (di t41)) rfl (fun hb=>by subst hb;exact zBJ (lq rfl) rfl (zB5 (gT ht41))) ?_
 refine q62 (.d (db (decide (t41=1)))) ?_
 refine q16 ?_
 have ⟨b44,hb44,h⟩:=bE h
 refine yT ((zD (lq rfl) rfl).bool (oi hb44)) ?_
 refine sqt (.d (eOptions.dv ({Strength:=1,Variable:=0,Backward:=false,Identical:=false}:Options))) rfl (fun hb=>by subst hb;exact zDC (lq rfl) B24 rfl rfl) ?_
 have ⟨t46,ht46,h⟩:=bE h
 refine sqt (.d (di t46)) rfl (fun hb=>by subst hb;exact zBJ (lq rfl) rfl (zB5 (gT ht46))) ?_
 refine q62 (.d (db (decide (t46=8)))) ?_
 refine Q35 ?_
 cases h
 refine zB ?_
 exact zO rfl
theorem zHR {a0 a1 r} (h:zBO a0 a1=some r):zK Tryd.prog 11 [(yC (eL eI) a0),(yC (eL eI) a1)] [(db r)]:=by
 refine co Tryd.func11 ?_;intro _ _ _ _
 unfold zBO at h
 refine Q39 ?_
 refine q6 S29 ?_
 refine q0 ?_
 refine q6 S29 ?_
 refine Q33 ?_
 refine yX h (fun h=>?_) (fun h=>?_)
 refine Q3 ?_
 cases h
 refine zB ?_
 exact zO rfl
 refine Q91 ?_
 have ⟨y1,hy1,h⟩:=bE h
 refine yB y1 (.exit 0) (fun y1=>⟨[],[]⟩) .ret (fun y1=>⟨[(4,.d (db y1))],[]⟩) ?_ ?_ ?_
 refine zG (fun x=>⟨[(0,.d (yC (eL eI) a0)),(1,.d (yC (eL eI) a1)),(5,.d (di x))],[]⟩) hy1 (wc) ?_
 rintro v5 sy1 p1
 replace p1:vO a0 a1 v5=some sy1:=p1
 unfold vO at p1
 refine Q14 ?_
 refine q6 S29 ?_
 refine Q7 ?_
 refine yX p1 (fun p1=>?_) (fun p1=>?_)
 refine Q9 ?_
 refine kK ?_
 refine kE MX rfl ?_
 refine Q38 ?_
 have ⟨t19,ht19,p1⟩:=bE p1
 refine q42 S29 ht19 ?_
 refine z1S O32 ht19 ?_
 refine Q38 ?_
 have ⟨t23,ht23,p1⟩:=bE p1
 refine q42 S29 ht23 ?_
 refine z1S O32 ht23 ?_
 have ⟨t25,ht25,p1⟩:=bE p1
 refine q26 (zDS ht25) ?_
 refine zYF ?_
 refine wA ?_
 refine yX p1 (fun p1=>?_) (fun p1=>?_)
 refine Q22 ?_
 cases p1
 intro q;cases q
 exact ⟨rfl,wc⟩
 refine Q59 ?_
 cases p1
 exact wc
 refine zI ?_
 cases p1
 intro q;cases q
 exact ⟨rfl,wc⟩
 rintro y1 rfl
 replace h:=eL h
 refine Q3 ?_
 cases h
 refine zB ?_
 exact zO rfl
 rintro y1 rfl
 replace h:=eR h
 cases h
 exact zO rfl
set_option maxHeartbeats 8000000 in
set_option maxRecDepth 40000 in
theorem law44_SortkeyTreats_c {a0 a1 r} (h:vP a0 a1=some r):zK Tryd.prog 5 [(yC eElement a0),(eOptions.dv a1)] [(db r)]:=by
 refine co Tryd.func5 ?_;intro _ _ _ _
 unfold vP at h
 refine Q61 ?_
 refine Q1 ?_
 refine Q4 ?_
 refine q6 S22 ?_
 refine q40 ?_
 have ⟨b19,hb19,h⟩:=bE h
 refine yT ((zD (lq rfl) rfl).bool (oi hb19)) ?_
 refine q18 (.ip (eOptions.cells a1) (0+0)) zHK ?_
 refine q19 (.d (di a1.Strength)) O3 ?_
 refine q84 (.d (db (decide (a1.Strength < 1)))) ?_
 refine q12 ?_
 have ⟨b24,hb24,h⟩:=bE h
 refine yT ((zD (lq rfl) rfl).bool (oi hb24)) ?_
 refine q18 (.ip (eOptions.cells a1) (0+0)) zHK ?_
 refine q19 (.d (di a1.Strength)) O3 ?_
 refine q32 (.d (db (decide (4 < a1.Strength)))) ?_
 refine Q26 ?_
 refine yX h (fun h=>?_) (fun h=>?_)
 refine Q0 ?_
 have ⟨t29,ht29,h⟩:=bE h
 refine q7 (zGN ht29) ?_
 refine Q1 ?_
 cases h
 refine zB ?_
 exact zO rfl
 refine Q40 ?_
 refine Q24 ?_
 refine zL (uJ (t:=5) 1005 37 eElement.size (lq rfl) (lq rfl) rfl rfl) ?_
 refine zL (uJ (t:=6) 1006 37 eElement.size (lq rfl) (lq rfl) rfl rfl) ?_
 refine Q66 ?_
 have ⟨y1,hy1,h⟩:=bE h
 refine tl (.exit 0) ⟨[(0,.d (yC eElement a0)),(3,.d (.pt (eOptions.cells a1))),(5,.row 1005),(6,.row 1006)],[(1005,.row 37 eElement.size false (eElement.all y1)),(1006,.row 37 eElement.size false (eElement.all []))]⟩ ?_ ?_
 refine zG (fun x=>⟨[(0,.d (yC eElement a0)),(3,.d (.pt (eOptions.cells a1))),(5,.row 1005),(6,.row 1006),(7,.d (di x.1))],[(1005,.row 37 eElement.size false (eElement.all x.2)),(1006,.row 37 eElement.size false (eElement.all []))]⟩) hy1 (wc) ?_
 rintro ⟨v7,r1005⟩ sy1 p1
 replace p1:jK a0 v7 r1005=some sy1:=p1
 unfold jK at p1
 refine Q14 ?_
 refine q6 S22 ?_
 refine Q7 ?_
 refine yX p1 (fun p1=>?_) (fun p1=>?_)
 refine Q9 ?_
 refine Q28 ?_
 have ⟨t38,ht38,p1⟩:=bE p1
 refine q14 S22 ht38 ?_
 refine q99 G37 ht38 ?_
 refine z1E ?_
 refine q13 G37 ?_
 refine Q34 ?_
 refine q41 zXT ?_
 refine q38 O4 ?_
 refine zF<|Q29 ?_
 refine yT ((kL (lq rfl) G37 rfl rfl rfl rfl).data rfl) ?_
 refine q35 S22 ?_
 have ⟨r1005_2,hr1005_2,p1⟩:=bE p1
 refine q34 S22 hr1005_2 ?_
 refine Q19 ?_
 refine Q21 ?_
 cases p1
 exact wc
 refine zI ?_
 cases p1
 intro q;cases q
 exact zH (wc)
 refine Q27 ?_
 refine q0 ?_
 have ⟨r1006_3,hr1006_3,h⟩:=bE h
 refine q34 S22 hr1006_3 ?_
 refine Q19 ?_
 refine Q27 ?_
 refine q51 B37 ?_
 refine q51 B37 ?_
 refine q35 S22 ?_
 have ⟨r1006_4,hr1006_4,h⟩:=bE h
 refine q34 S22 hr1006_4 ?_
 refine Q19 ?_
 refine kK<|kK ?_
 refine zL (zAW (t:=6) (lq rfl) rfl rfl) ?_
 refine kE MX rfl ?_
 refine q8 ?_
 refine q72 jP ?_
 have ⟨t55,ht55,h⟩:=bE h
 refine q26 (jZ ht55) ?_
 refine q8 ?_
 refine q72 jP ?_
 have ⟨t58,ht58,h⟩:=bE h
 refine q26 (jZ ht58) ?_
 have ⟨t59,ht59,h⟩:=bE h
 refine q26 (zHR ht59) ?_
 refine zYF ?_
 refine wA ?_
 refine yX h (fun h=>?_) (fun h=>?_)
 refine Q3 ?_
 cases h
 refine zB ?_
 exact zO rfl
 refine Q5 ?_
 refine tl .normal ⟨[(3,.d (.pt (eOptions.cells a1))),(5,.row 1005),(9,.ptr 9 0),(10,.ptr 10 0),(11,.ptr 11 0)],[(9,.box 24 [.d (di a1.Strength),.d (di a1.Variable),.d (db a1.Backward),.d (db a1.Identical)]),(10,.box 24 [.d (di a1.Strength),.d (di a1.Variable),.d (db a1.Backward),.d (db a1.Identical)]),(11,.box 24 [.d (di a1.Strength),.d (di a1.Variable),.d (db a1.Backward),.d (db a1.Identical)]),(1005,.row 37 eElement.size false (eElement.all y1))]⟩ ?_ ?_
 refine zA8 MX ?_
 refine z7P ?_
 refine zN4 0 61 (zIE (x:= .tmp 3) rfl) (lq rfl) ?_ rfl rfl
 refine zN4 1 62 (zIE (x:= .tmp 3) rfl) (lq rfl) ?_ rfl rfl
 refine zN4 2 63 (zIE (x:= .tmp 3) rfl) (lq rfl) ?_ rfl rfl
 refine zBE [3,4,5] (fa (ff rfl rfl (zC (lq rfl) jP rfl rfl) rfl)<|fa (ff rfl rfl (zC (lq rfl) jP rfl rfl) rfl)<|fa (ff rfl rfl (zC (lq rfl) jP rfl rfl) rfl)<|fz) ?_ rfl (by kernel_rfl) (by kernel_rfl) (by kernel_rfl) rfl
 refine zAI rfl rfl (zQ (zs:=[(.int IntKind.i64 (0)),(.int IntKind.i64 (0)),(.bool false),(.bool false)]) (lq rfl) (by kernel_rfl) rfl rfl) ?_ ?_
 refine zBE [4,5] (fa (ff rfl rfl (zC (lq rfl) jP rfl rfl) rfl)<|fa (ff rfl rfl (zC (lq rfl) jP rfl rfl) rfl)<|fa (ff rfl rfl (zC (lq rfl) jP rfl rfl) rfl)<|fz) ?_ rfl (by kernel_rfl) (by kernel_rfl) (by kernel_rfl) rfl
 refine zAI rfl rfl (zQ (zs:=[(.int IntKind.i64 (0)),(.int IntKind.i64 (0)),(.bool false),(.bool false)]) (lq rfl) (by kernel_rfl) rfl rfl) ?_ ?_
 refine zBE [5] (fa (ff rfl rfl (zC (lq rfl) jP rfl rfl) rfl)<|fa (ff rfl rfl (zC (lq rfl) jP rfl rfl) rfl)<|fa (ff rfl rfl (zC (lq rfl) jP rfl rfl) rfl)<|fz) ?_ rfl (by kernel_rfl) (by kernel_rfl) (by kernel_rfl) rfl
 refine zAI rfl rfl (zQ (zs:=[(.int IntKind.i64 (0)),(.int IntKind.i64 (0)),(.bool false),(.bool false)]) (lq rfl) (by kernel_rfl) rfl rfl) ?_ trivial
 refine zBE [6] (fa (ff rfl rfl (zC (lq rfl) jP rfl rfl) rfl)<|fa (ff rfl rfl (zC (lq rfl) jP rfl rfl) rfl)<|fa (ff rfl rfl (zC (lq rfl) jP rfl rfl) rfl)<|fz) ?_ rfl (by kernel_rfl) (by kernel_rfl) (by kernel_rfl) rfl
 refine zAI rfl rfl (yV jP rfl rfl rfl rfl rfl rfl) ?_ trivial
 refine zBE [7] (fa (ff rfl rfl (zC (lq rfl) jP rfl rfl) rfl)<|fa (ff rfl rfl (zC (lq rfl) jP rfl rfl) rfl)<|fa (ff rfl rfl (zC (lq rfl) jP rfl rfl) rfl)<|fz) ?_ rfl (by kernel_rfl) (by kernel_rfl) (by kernel_rfl) rfl
 refine zAI rfl rfl (yV jP rfl rfl rfl rfl rfl rfl) ?_ trivial
 refine zBE [8] (fa (ff rfl rfl (zC (lq rfl) jP rfl rfl) rfl)<|fa (ff rfl rfl (zC (lq rfl) jP rfl rfl) rfl)<|fa (ff rfl rfl (zC (lq rfl) jP rfl rfl) rfl)<|fz) ?_ rfl (by kernel_rfl) (by kernel_rfl) (by kernel_rfl) rfl
 refine zAI rfl rfl (yV jP rfl rfl rfl rfl rfl rfl) ?_ trivial
 refine zID (fa (ff rfl rfl (zC (lq rfl) jP rfl rfl) rfl)<|fa (ff rfl rfl (zC (lq rfl) jP rfl rfl) rfl)<|fa (ff rfl rfl (zC (lq rfl) jP rfl rfl) rfl)<|fz) ?_ rfl (by kernel_rfl) (by kernel_rfl) (by kernel_rfl)
 exact zH (wc)
 refine zAI rfl rfl (zQ (zs:=[(.int IntKind.i64 (0)),(.int IntKind.i64 (0)),(.bool false),(.bool false)]) (lq rfl) (by kernel_rfl) rfl rfl) ?_ trivial
 refine zBE [4] (fa (ff rfl rfl (zC (lq rfl) jP rfl rfl) rfl)<|fa (ff rfl rfl (zC (lq rfl) jP rfl rfl) rfl)<|fa (ff rfl rfl (zC (lq rfl) jP rfl rfl) rfl)<|fz) ?_ rfl (by kernel_rfl) (by kernel_rfl) (by kernel_rfl) rfl
 refine zAI rfl rfl (zQ (zs:=[(.int IntKind.i64 (0)),(.int IntKind.i64 (0)),(.bool false),(.bool false)]) (lq rfl) (by kernel_rfl) rfl rfl) ?_ trivial
 refine zBE [6] (fa (ff rfl rfl (zC (lq rfl) jP rfl rfl) rfl)<|fa (ff rfl rfl (zC (lq rfl) jP rfl rfl) rfl)<|fa (ff rfl rfl (zC (lq rfl) jP rfl rfl) rfl)<|fz) ?_ rfl (by kernel_rfl) (by kernel_rfl) (by kernel_rfl) rfl
 refine zAI rfl rfl (yV jP rfl rfl rfl rfl rfl rfl) ?_ trivial
 refine zBE [7] (fa (ff rfl rfl (zC (lq rfl) jP rfl rfl) rfl)<|fa (ff rfl rfl (zC (lq rfl) jP rfl rfl) rfl)<|fa (ff rfl rfl (zC (lq rfl) jP rfl rfl) rfl)<|fz) ?_ rfl (by kernel_rfl) (by kernel_rfl) (by kernel_rfl) rfl
 refine zAI rfl rfl (yV jP rfl rfl rfl rfl rfl rfl) ?_ trivial
 refine zBE [8] (fa (ff rfl rfl (zC (lq rfl) jP rfl rfl) rfl)<|fa (ff rfl rfl (zC (lq rfl) jP rfl rfl) rfl)<|fa (ff rfl rfl (zC (lq rfl) jP rfl rfl) rfl)<|fz) ?_ rfl (by kernel_rfl) (by kernel_rfl) (by kernel_rfl) rfl
 refine zAI rfl rfl (yV jP rfl rfl rfl rfl rfl rfl) ?_ trivial
 refine zID (fa (ff rfl rfl (zC (lq rfl) jP rfl rfl) rfl)<|fa (ff rfl rfl (zC (lq rfl) jP rfl rfl) rfl)<|fa (ff rfl rfl (zC (lq rfl) jP rfl rfl) rfl)<|fz) ?_ rfl (by kernel_rfl) (by kernel_rfl) (by kernel_rfl)
 exact zH (wc)
 refine zAI rfl rfl (zQ (zs:=[(.int IntKind.i64 (0)),(.int IntKind.i64 (0)),(.bool false),(.bool false)]) (lq rfl) (by kernel_rfl) rfl rfl) ?_ ?_
 refine zBE [3,5] (fa (ff rfl rfl (zC (lq rfl) jP rfl rfl) rfl)<|fa (ff rfl rfl (zC (lq rfl) jP rfl rfl) rfl)<|fa (ff rfl rfl (zC (lq rfl) jP rfl rfl) rfl)<|fz) ?_ rfl (by kernel_rfl) (by kernel_rfl) (by kernel_rfl) rfl
 refine zAI rfl rfl (zQ (zs:=[(.int IntKind.i64 (0)),(.int IntKind.i64 (0)),(.bool false),(.bool false)]) (lq rfl) (by kernel_rfl) rfl rfl) ?_ ?_
 refine zBE [5] (fa (ff rfl rfl (zC (lq rfl) jP rfl rfl) rfl)<|fa (ff rfl rfl (zC (lq rfl) jP rfl rfl) rfl)<|fa (ff rfl rfl (zC (lq rfl) jP rfl rfl) rfl)<|fz) ?_ rfl (by kernel_rfl) (by kernel_rfl) (by kernel_rfl) rfl
 refine zAI rfl rfl (zQ (zs:=[(.int IntKind.i64 (0)),(.int IntKind.i64 (0)),(.bool false),(.bool false)]) (lq rfl) (by kernel_rfl) rfl rfl) ?_ trivial
 refine zBE [6] (fa (ff rfl rfl (zC (lq rfl) jP rfl rfl) rfl)<|fa (ff rfl rfl (zC (lq rfl) jP rfl rfl) rfl)<|fa (ff rfl rfl (zC (lq rfl) jP rfl rfl) rfl)<|fz) ?_ rfl (by kernel_rfl) (by kernel_rfl) (by kernel_rfl) rfl
 refine zAI rfl rfl (yV jP rfl rfl rfl rfl rfl rfl) ?_ trivial
 refine zBE [7] (fa (ff rfl rfl (zC (lq rfl) jP rfl rfl) rfl)<|fa (ff rfl rfl (zC (lq rfl) jP rfl rfl) rfl)<|fa (ff rfl rfl (zC (lq rfl) jP rfl rfl) rfl)<|fz) ?_ rfl (by kernel_rfl) (by kernel_rfl) (by kernel_rfl) rfl
 refine zAI rfl rfl (yV jP rfl rfl rfl rfl rfl rfl) ?_ trivial
 refine zBE [8] (fa (ff rfl rfl (zC (lq rfl) jP rfl rfl) rfl)<|fa (ff rfl rfl (zC (lq rfl) jP rfl rfl) rfl)<|fa (ff rfl rfl (zC (lq rfl) jP rfl rfl) rfl)<|fz) ?_ rfl (by kernel_rfl) (by kernel_rfl) (by kernel_rfl) rfl
 refine zAI rfl rfl (yV jP rfl rfl rfl rfl rfl rfl) ?_ trivial
 refine zID (fa (ff rfl rfl (zC (lq rfl) jP rfl rfl) rfl)<|fa (ff rfl rfl (zC (lq rfl) jP rfl rfl) rfl)<|fa (ff rfl rfl (zC (lq rfl) jP rfl rfl) rfl)<|fz) ?_ rfl (by kernel_rfl) (by kernel_rfl) (by kernel_rfl)
 exact zH (wc)
 refine zAI rfl rfl (zQ (zs:=[(.int IntKind.i64 (0)),(.int IntKind.i64 (0)),(.bool false),(.bool false)]) (lq rfl) (by kernel_rfl) rfl rfl) ?_ trivial
 refine zBE [3] (fa (ff rfl rfl (zC (lq rfl) jP rfl rfl) rfl)<|fa (ff rfl rfl (zC (lq rfl) jP rfl rfl) rfl)<|fa (ff rfl rfl (zC (lq rfl) jP rfl rfl) rfl)<|fz) ?_ rfl (by kernel_rfl) (by kernel_rfl) (by kernel_rfl) rfl
 refine zAI rfl rfl (zQ (zs:=[(.int IntKind.i64 (0)),(.int IntKind.i64 (0)),(.bool false),(.bool false)]) (lq rfl) (by kernel_rfl) rfl rfl) ?_ trivial
 refine zBE [6] (fa (ff rfl rfl (zC (lq rfl) jP rfl rfl) rfl)<|fa (ff rfl rfl (zC (lq rfl) jP rfl rfl) rfl)<|fa (ff rfl rfl (zC (lq rfl) jP rfl rfl) rfl)<|fz) ?_ rfl (by kernel_rfl) (by kernel_rfl) (by kernel_rfl) rfl
 refine zAI rfl rfl (yV jP rfl rfl rfl rfl rfl rfl) ?_ trivial
 refine zBE [7] (fa (ff rfl rfl (zC (lq rfl) jP rfl rfl) rfl)<|fa (ff rfl rfl (zC (lq rfl) jP rfl rfl) rfl)<|fa (ff rfl rfl (zC (lq rfl) jP rfl rfl) rfl)<|fz) ?_ rfl (by kernel_rfl) (by kernel_rfl) (by kernel_rfl) rfl
 refine zAI rfl rfl (yV jP rfl rfl rfl rfl rfl rfl) ?_ trivial
 refine zBE [8] (fa (ff rfl rfl (zC (lq rfl) jP rfl rfl) rfl)<|fa (ff rfl rfl (zC (lq rfl) jP rfl rfl) rfl)<|fa (ff rfl rfl (zC (lq rfl) jP rfl rfl) rfl)<|fz) ?_ rfl (by kernel_rfl) (by kernel_rfl) (by kernel_rfl) rfl
 refine zAI rfl rfl (yV jP rfl rfl rfl rfl rfl rfl) ?_ trivial
 refine zID (fa (ff rfl rfl (zC (lq rfl) jP rfl rfl) rfl)<|fa (ff rfl rfl (zC (lq rfl) jP rfl rfl) rfl)<|fa (ff rfl rfl (zC (lq rfl) jP rfl rfl) rfl)<|fz) ?_ rfl (by kernel_rfl) (by kernel_rfl) (by kernel_rfl)
 exact zH (wc)
 refine zAI rfl rfl (zQ (zs:=[(.int IntKind.i64 (0)),(.int IntKind.i64 (0)),(.bool false),(.bool false)]) (lq rfl) (by kernel_rfl) rfl rfl) ?_ trivial
 refine zBE [3,4] (fa (ff rfl rfl (zC (lq rfl) jP rfl rfl) rfl)<|fa (ff rfl rfl (zC (lq rfl) jP rfl rfl) rfl)<|fa (ff rfl rfl (zC (lq rfl) jP rfl rfl) rfl)<|fz) ?_ rfl (by kernel_rfl) (by kernel_rfl) (by kernel_rfl) rfl
 refine zAI rfl rfl (zQ (zs:=[(.int IntKind.i64 (0)),(.int IntKind.i64 (0)),(.bool false),(.bool false)]) (lq rfl) (by kernel_rfl) rfl rfl) ?_ ?_
 refine zBE [4] (fa (ff rfl rfl (zC (lq rfl) jP rfl rfl) rfl)<|fa (ff rfl rfl (zC (lq rfl) jP rfl rfl) rfl)<|fa (ff rfl rfl (zC (lq rfl) jP rfl rfl) rfl)<|fz) ?_ rfl (by kernel_rfl) (by kernel_rfl) (by kernel_rfl) rfl
 refine zAI rfl rfl (zQ (zs:=[(.int IntKind.i64 (0)),(.int IntKind.i64 (0)),(.bool false),(.bool false)]) (lq rfl) (by kernel_rfl) rfl rfl) ?_ trivial
 refine zBE [6] (fa (ff rfl rfl (zC (lq rfl) jP rfl rfl) rfl)<|fa (ff rfl rfl (zC (lq rfl) jP rfl rfl) rfl)<|fa (ff rfl rfl (zC (lq rfl) jP rfl rfl) rfl)<|fz) ?_ rfl (by kernel_rfl) (by kernel_rfl) (by kernel_rfl) rfl
 refine zAI rfl rfl (yV jP rfl rfl rfl rfl rfl rfl) ?_ trivial
 refine zBE [7] (fa (ff rfl rfl (zC (lq rfl) jP rfl rfl) rfl)<|fa (ff rfl rfl (zC (lq rfl) jP rfl rfl) rfl)<|fa (ff rfl rfl (zC (lq rfl) jP rfl rfl) rfl)<|fz) ?_ rfl (by kernel_rfl) (by kernel_rfl) (by kernel_rfl) rfl
 refine zAI rfl rfl (yV jP rfl rfl rfl rfl rfl rfl) ?_ trivial
 refine zBE [8] (fa (ff rfl rfl (zC (lq rfl) jP rfl rfl) rfl)<|fa (ff rfl rfl (zC (lq rfl) jP rfl rfl) rfl)<|fa (ff rfl rfl (zC (lq rfl) jP rfl rfl) rfl)<|fz) ?_ rfl (by kernel_rfl) (by kernel_rfl) (by kernel_rfl) rfl
 refine zAI rfl rfl (yV jP rfl rfl rfl rfl rfl rfl) ?_ trivial
 refine zID (fa (ff rfl rfl (zC (lq rfl) jP rfl rfl) rfl)<|fa (ff rfl rfl (zC (lq rfl) jP rfl rfl) rfl)<|fa (ff rfl rfl (zC (lq rfl) jP rfl rfl) rfl)<|fz) ?_ rfl (by kernel_rfl) (by kernel_rfl) (by kernel_rfl)
 exact zH (wc)
 refine zAI rfl rfl (zQ (zs:=[(.int IntKind.i64 (0)),(.int IntKind.i64 (0)),(.bool false),(.bool false)]) (lq rfl) (by kernel_rfl) rfl rfl) ?_ trivial
 refine zBE [3] (fa (ff rfl rfl (zC (lq rfl) jP rfl rfl) rfl)<|fa (ff rfl rfl (zC (lq rfl) jP rfl rfl) rfl)<|fa (ff rfl rfl (zC (lq rfl) jP rfl rfl) rfl)<|fz) ?_ rfl (by kernel_rfl) (by kernel_rfl) (by kernel_rfl) rfl
 refine zAI rfl rfl (zQ (zs:=[(.int IntKind.i64 (0)),(.int IntKind.i64 (0)),(.bool false),(.bool false)]) (lq rfl) (by kernel_rfl) rfl rfl) ?_ trivial
 refine zBE [6] (fa (ff rfl rfl (zC (lq rfl) jP rfl rfl) rfl)<|fa (ff rfl rfl (zC (lq rfl) jP rfl rfl) rfl)<|fa (ff rfl rfl (zC (lq rfl) jP rfl rfl) rfl)<|fz) ?_ rfl (by kernel_rfl) (by kernel_rfl) (by kernel_rfl) rfl
 refine zAI rfl rfl (yV jP rfl rfl rfl rfl rfl rfl) ?_ trivial
 refine zBE [7] (fa (ff rfl rfl (zC (lq rfl) jP rfl rfl) rfl)<|fa (ff rfl rfl (zC (lq rfl) jP rfl rfl) rfl)<|fa (ff rfl rfl (zC (lq rfl) jP rfl rfl) rfl)<|fz) ?_ rfl (by kernel_rfl) (by kernel_rfl) (by kernel_rfl) rfl
 refine zAI rfl rfl (yV jP rfl rfl rfl rfl rfl rfl) ?_ trivial
 refine zBE [8] (fa (ff rfl rfl (zC (lq rfl) jP rfl rfl) rfl)<|fa (ff rfl rfl (zC (lq rfl) jP rfl rfl) rfl)<|fa (ff rfl rfl (zC (lq rfl) jP rfl rfl) rfl)<|fz) ?_ rfl (by kernel_rfl) (by kernel_rfl) (by kernel_rfl) rfl
 refine zAI rfl rfl (yV jP rfl rfl rfl rfl rfl rfl) ?_ trivial
 refine zID (fa (ff rfl rfl (zC (lq rfl) jP rfl rfl) rfl)<|fa (ff rfl rfl (zC (lq rfl) jP rfl rfl) rfl)<|fa (ff rfl rfl (zC (lq rfl) jP rfl rfl) rfl)<|fz) ?_ rfl (by kernel_rfl) (by kernel_rfl) (by kernel_rfl)
 exact zH (wc)
 refine Q0 ?_
 refine q41 zP8 ?_
 refine q38 O3 ?_
 refine Q34 ?_
 refine q41 zP8 ?_
 refine q38 O3 ?_
 refine Q34 ?_
 refine q41 zP8 ?_
 refine Q56 ?_
 refine kK ?_
 refine zL (zAW (t:=5) (lq rfl) rfl rfl) ?_
 refine kE MX rfl ?_
 refine q8 ?_
 refine uV ((kL (lq rfl) jP rfl rfl rfl rfl).data rfl) ?_
 have ⟨t69,ht69,h⟩:=bE h
 refine q26 (jZ ht69) ?_
 refine q8 ?_
 refine uV ((kL (lq rfl) jP rfl rfl rfl rfl).data rfl) ?_
 have ⟨t72,ht72,h⟩:=bE h
 refine q26 (jZ ht72) ?_
 refine q8 ?_
 refine uV ((kL (lq rfl) jP rfl rfl rfl rfl).data rfl) ?_
 have ⟨t75,ht75,h⟩:=bE h
 refine q26 (jZ ht75) ?_
 refine q43 ?_
 refine q43 ?_
 refine Q50 ?_
 refine Q4 ?_
 refine q6 S29 ?_
 refine q5 zHK ?_
 refine q3 O3 ?_
 refine q29 ?_
 have ⟨b81,hb81,h⟩:=bE h
 refine yT ((zD (lq rfl) rfl).bool (oi hb81)) ?_
 refine q21 (.d (yC (eL eI) t72)) ?_
 refine q53 (.d (di (t72.length:Int))) S29 ?_
 refine q18 (.ip (eOptions.cells a1) (0+0)) zHK ?_
 refine q19 (.d (di a1.Strength)) O3 ?_
 refine z90 (.d (db (!decide ((t72.length:Int)=a1.Strength)))) ?_
 refine q12 ?_
 have ⟨b88,hb88,h⟩:=bE h
 refine yT ((zD (lq rfl) rfl).bool (oi hb88)) ?_
 refine q21 (.d (yC (eL eI) t69)) ?_
 refine q21 (.d (yC (eL eI) t75)) ?_
 have ⟨t91,ht91,h⟩:=bE h
 refine sqf (.d (db t91)) rfl (fun hb=>by subst hb;exact zBJ (lq rfl) rfl (zHR ht91)) ?_
 refine q88 (.d (db (!t91))) ?_
 refine Q26 ?_
 refine yX h (fun h=>?_) (fun h=>?_)
 refine Q3 ?_
 cases h
 refine zB ?_
 exact zO rfl
 refine Q91 ?_
 have ⟨y5,hy5,h⟩:=bE h
 refine yB y5 (.exit 2) (fun y5=>⟨[(3,.d (.pt (eOptions.cells a1))),(13,.d (yC (eL eI) t72))],[]⟩) .ret (fun y5=>⟨[(4,.d (db y5))],[]⟩) ?_ ?_ ?_
 refine zG (fun x=>⟨[(3,.d (.pt (eOptions.cells a1))),(12,.d (yC (eL eI) t69)),(13,.d (yC (eL eI) t72)),(15,.d (di x))],[]⟩) hy5 (wc) ?_
 rintro v15 sy5 p5
 replace p5:kZ a1 t69 t72 v15=some sy5:=p5
 unfold kZ at p5
 refine Q4 ?_
 refine q5 zHK ?_
 refine Q72 ?_
 have ⟨b98,hb98,p5⟩:=bE p5
 refine yT ((zD (lq rfl) rfl).bool (oi hb98)) ?_
 refine q20 (.d (di v15)) ?_
 refine q64 (.d (db (decide (v15 < 3)))) ?_
 refine Q47 ?_
 refine yX p5 (fun p5=>?_) (fun p5=>?_)
 refine Q9 ?_
 refine kK ?_
 refine kE MX rfl ?_
 refine Q38 ?_
 have ⟨t106,ht106,p5⟩:=bE p5
 refine q42 S29 ht106 ?_
 refine z1S O32 ht106 ?_
 refine Q38 ?_
 have ⟨t110,ht110,p5⟩:=bE p5
 refine q42 S29 ht110 ?_
 refine z1S O32 ht110 ?_
 have ⟨t112,ht112,p5⟩:=bE p5
 refine q26 (zDS ht112) ?_
 refine zYF ?_
 refine wA ?_
 refine yX p5 (fun p5=>?_) (fun p5=>?_)
 refine Q22 ?_
 cases p5
 intro q;cases q
 exact ⟨rfl,wc⟩
 refine Q59 ?_
 cases p5
 exact wc
 refine zI ?_
 cases p5
 intro q;cases q
 exact ⟨rfl,wc⟩
 rintro y5 rfl
 replace h:=eL h
 refine Q0 ?_
 refine q5 zHK ?_
 refine Q72 ?_
 have ⟨b117,hb117,h⟩:=bE h
 refine yT ((zD (lq rfl) rfl).bool (oi hb117)) ?_
 refine q21 (.d (yC (eL eI) t72)) ?_
 have ⟨t119,ht119,h⟩:=bE h
 refine sqf (.ip ((eL eI).all t72) ((3:Int).toNat*(eL eI).size)) rfl (fun hb=>by subst hb;exact zCB (en:=(eL eI)) (lq rfl) S29 rfl rfl ht119) ?_
 refine sqf (.d (yC eI t119)) rfl (fun hb=>by subst hb;exact uF (en:=(eL eI)) (l:=t72) (i:=(3:Int)) (v:=t119) (off:=0) (lq rfl) O32 rfl ht119 rfl) ?_
 refine q53 (.d (di (t119.length:Int))) kB ?_
 refine q82 (.d (db (decide ((t119.length:Int)=0)))) ?_
 refine q12 ?_
 have ⟨b124,hb124,h⟩:=bE h
 refine yT ((zD (lq rfl) rfl).bool (oi hb124)) ?_
 have ⟨t125,ht125,h⟩:=bE h
 refine sqt (.d (db t125)) rfl (fun hb=>by subst hb;exact zBJ (lq rfl) rfl (zGN ht125)) ?_
 refine Q35 ?_
 cases h
 refine zB ?_
 exact zO rfl
 rintro y5 rfl
 replace h:=eR h
 cases h
 exact zO rfl
end Go.Proofs.YtjcbhabmkcdcnaaDoor.Walk


/- Each function of the program answers as its plain counterpart does, where that answers. Conditions: none. -/
import Derived.Test.YtjcbhabmkcdcnaaDoorMir
import Derived.Test.YtjcbhabmkcdcnaaDoorLa3
import Derived.Test.YtjcbhabmkcdcnaaDoorProg
import Derived.Test.YtjcbhabmkcdcnaaDoorWk1
set_option linter.unusedSimpArgs false
set_option linter.unusedVariables false
set_option linter.unnecessarySimpa false
namespace Go.Proofs.YtjcbhabmkcdcnaaDoor.Walk
open Go.AV Go.M Go.RowKit Go.Proofs
theorem zIU {a0} {a1} {a2} {r:(List Int)} (h:jV a0 a1 a2=some r):GC Tryd.prog 30 [.d (eNorm.dv a0),.d (z8 eI a1),.d (db a2)] [] [] [.row 2531] [(2531,.row 3 eI.size false (eI.all r))]:=by
 refine zA5 Tryd.func30 (by kernel_rfl) rfl (lq rfl) (lq rfl) fun w0 I0 hG0 p0=>?_
 unfold jV at h
 refine Q0 ?_
 refine q75 ?_
 refine Q45 ?_
 refine yK ((k9 (lq rfl) G45 rfl rfl rfl rfl).data rfl) ?_
 have ⟨t12,ht12,h⟩:=bE h
 refine q7 (zC4 ht12) ?_
 refine q13 G45 ?_
 refine Q34 ?_
 refine yK ((k9 (lq rfl) G45 rfl rfl rfl rfl).data rfl) ?_
 refine q0 ?_
 have ⟨t15,ht15,h⟩:=bE h
 refine kN rfl (zN4 [(5,2515),(6,3015),(7,3515)] (zB7 ht15) (lq rfl) (by decide) ⟨rfl,rfl,trivial⟩ rfl rfl trivial rfl rfl rfl (fun _=>rfl) rfl) ?_
 refine q98 ?_
 refine zF<|Q3 ?_
 refine zN (zAQ (t:=8) 1008 3 eI.size (lq rfl) (lq rfl) rfl rfl) ?_
 refine Q4 ?_
 refine Q58 ?_
 have ⟨y1,hy1,h⟩:=bE h
 refine tl (.exit 0) ⟨[(3,.ptr 3 0),(8,.row 1008)],[(3,.box 45 [.d (z8 eSpan t12.Classes),.d (z8 eMapping t12.Decomp),.d (z8 eRange t12.Excluded.Ranges)]),(1008,.row 3 eI.size false (eI.all y1))]⟩ ?_ ?_
 refine zE (fun x=>⟨[(3,.ptr 3 0),(7,.clo 45 [.ptr 2515 0,.d (.pt (eNorm.cells ({Classes:=t12.Classes,Decomp:=t12.Decomp,Excluded:=({Ranges:=t12.Excluded.Ranges}:Set)}:Norm))),.d (.pt [(db a2)]),.ptr 3015 0]),(8,.row 1008),(16,.d (z8 eI a1)),(17,.d (di (a1.length:Int))),(18,.d (di x.1))],[(3,.box 45 [.d (z8 eSpan t12.Classes),.d (z8 eMapping t12.Decomp),.d (z8 eRange t12.Excluded.Ranges)]),(1008,.row 3 eI.size false (eI.all x.2.1)),(2515,.box 104 [.row 3515]),(3015,.box 87 [.clo 45 [.ptr 2515 0,.d (.pt (eNorm.cells ({Classes:=t12.Classes,Decomp:=t12.Decomp,Excluded:=({Ranges:=t12.Excluded.Ranges}:Set)}:Norm))),.d (.pt [(db a2)]),.ptr 3015 0]]),(3515,.map (xL kI (eL eI) x.2.2))]⟩) hy1 (wc) ?_
 rintro ⟨v18,r1008,r3515⟩ sy1 p1
 replace p1:jB a1 t12 a2 v18 r1008 r3515=some sy1:=p1
 unfold jB at p1
 refine Q13 ?_
 refine yY p1 (fun p1=>?_) (fun p1=>?_)
 refine Q25 ?_
 have ⟨t20,ht20,p1⟩:=bE p1
 refine q14 yX ht20 ?_
 refine q49 O3 ht20 ?_
 refine Q1 ?_
 refine Q29 ?_
 refine yK (zA4 (lq rfl) rfl) ?_
 refine q0 ?_
 have ⟨t25,ht25,p1⟩:=bE p1
 refine kN rfl (zJ0 [(3001,2515),(3004,3015),(3120,3515)] (zBE _ ht25) (lq rfl) (by decide) rfl ⟨rfl,rfl,rfl,rfl,rfl,trivial⟩ rfl rfl ⟨rfl,rfl,rfl,trivial⟩ rfl rfl rfl (fun _=>rfl) rfl) ?_
 have ⟨r1008_2,hr1008_2,p1⟩:=bE p1
 refine q34 yX hr1008_2 ?_
 refine Q19 ?_
 refine Q16 ?_
 cases p1
 exact wc
 refine zH ?_
 cases p1
 intro q;cases q
 exact zJ (wc)
 refine Q0 ?_
 refine q41 zM6 ?_
 refine q24 O39 ?_
 refine q9 ?_
 refine zF5 (zCZ (t:=30) (lq rfl) rfl rfl) ?_ (by simp)
 have ⟨t31,ht31,h⟩:=bE h
 refine kN rfl (zBO [(100,2531)] (zE6 ht31) (lq rfl) (by decide) ⟨rfl,rfl,trivial⟩ rfl rfl trivial rfl rfl rfl (fun _=>rfl) rfl) ?_
 refine Q19 ?_
 cases h
 refine zB ?_
 exact ⟨⟨_,_,rfl,rfl,rfl⟩,⟨rfl,trivial⟩⟩
theorem uP {a0 a1 r} (h:kT a0 a1=some r):zG Tryd.prog 42 [(.pt (eColltable_table.cells a0)),(z8 eI a1)] [(z8 eElement r.1),(db r.2)]:=by
 refine co Tryd.func42 ?_;intro _ _ _ _
 unfold kT at h
 refine Q0 ?_
 refine Q90 ?_
 refine q6 yX ?_
 refine q36 ?_
 have ⟨b11,hb11,h⟩:=bE h
 refine yK ((zC (lq rfl) rfl).bool (oi hb11)) ?_
 refine q21 (.d (z8 eI a1)) ?_
 refine q53 (.d (di (a1.length:Int))) yX ?_
 refine q21 (.d (.pt (eColltable_table.cells a0))) ?_
 refine sqf (.d (.pt (eColltable_table.cells a0))) rfl (fun hb=>by subst hb;exact zC1 (lq rfl) rfl) ?_
 refine q18 (.ip (eColltable_table.cells a0) (0+6)) zTH ?_
 refine q19 (.d (di a0.longest)) O3 ?_
 refine q32 (.d (db (decide (a0.longest < (a1.length:Int))))) ?_
 refine Q26 ?_
 refine yY h (fun h=>?_) (fun h=>?_)
 refine Q0 ?_
 refine Q24 ?_
 refine zN (zEJ (t:=4) eElement.size (lq rfl) rfl) ?_
 cases h
 refine zB ?_
 exact zEK rfl rfl
 refine Q5 ?_
 refine kH MX rfl ?_
 refine q8 ?_
 refine q97 ?_
 refine q17 z3O ?_
 refine q27 O91 ?_
 refine q8 ?_
 have ⟨t26,ht26,h⟩:=bE h
 refine q26 (zDK ht26) ?_
 refine daa (zRY (kv:=zBR) (ev:=(eL eElement)) (mp:=a0.entries) (k:=t26) (zero:=[]) (lq rfl) M91 K95 rfl rfl (z06 rfl) (fun _ _=> .nil _ _ _)) ?_
 refine daa (zKM (lq rfl) rfl) ?_
 refine daa (zIF (lq rfl) rfl rfl) ?_
 refine daa (zIF (lq rfl) rfl rfl) ?_
 refine q43 ?_
 refine Q50 ?_
 refine Q28 ?_
 refine Q24 ?_
 cases h
 refine zB ?_
 exact zEK rfl rfl
theorem zC7 {a0 a1 r} (h:k8 a0 a1=some r):zG Tryd.prog 43 [(.pt (eColltable_table.cells a0)),(di a1)] [(z8 eElement r)]:=by
 refine co Tryd.func43 ?_;intro _ _ _ _
 unfold k8 at h
 refine Q39 ?_
 have ⟨t6,ht6,h⟩:=bE h
 refine q7 (u0 ht6) ?_
 refine Q41 ?_
 refine yY h (fun h=>?_) (fun h=>?_)
 refine Q3 ?_
 refine zN (zEJ (t:=4) eElement.size (lq rfl) rfl) ?_
 cases h
 refine zB ?_
 exact zL rfl
 refine Q5 ?_
 refine kH MX rfl ?_
 refine q8 ?_
 refine q97 ?_
 refine q17 zX8 ?_
 refine q94 zQA ?_
 refine q27 O3 ?_
 refine q8 ?_
 have ⟨t14,ht14,h⟩:=bE h
 refine daa (zSW (lq rfl) rfl rfl ht14) ?_
 refine z10 ?_
 refine q8 ?_
 refine q97 ?_
 refine q17 zX8 ?_
 refine q94 z3M ?_
 refine q27 O3 ?_
 refine q8 ?_
 refine q97 ?_
 refine q17 zX8 ?_
 refine q94 z3N ?_
 refine q27 O3 ?_
 refine daa (zDG (lq rfl) B37 rfl rfl) ?_
 refine q8 ?_
 have ⟨t28,ht28,h⟩:=bE h
 refine daa (z3C (lq rfl) rfl rfl ht28) ?_
 refine z10 ?_
 refine daa (zDG (lq rfl) B37 rfl rfl) ?_
 refine daa (zI6 (lq rfl) S22 rfl rfl rfl rfl (by decide) rfl) ?_
 refine Q50 ?_
 cases h
 refine zB ?_
 exact zL rfl
theorem zDA {a0 a1 a2 r} (h:jR a0 a1 a2=some r):zG Tryd.prog 66 [(di a0),(.pt [(.pt (eColltable_table.cells a1))]),(.pt [(di a2)])] [(db r)]:=by
 refine co Tryd.func66 ?_;intro _ _ _ _
 unfold jR at h
 refine Q3 ?_
 refine kQ ?_
 refine kH MX rfl ?_
 refine zYM O81 ?_
 refine q97 ?_
 refine q17 zKZ ?_
 refine q27 O39 ?_
 refine q8 ?_
 have ⟨t10,ht10,h⟩:=bE h
 refine q42 S39 ht10 ?_
 refine q94 zK1 ?_
 refine daa (wU (en:=eSpan) (l:=a1.classes) (i:=a0) (v:=t10) (off:=1) (lq rfl) O3 rfl ht10 rfl) ?_
 refine zYM O3 ?_
 refine daa (zKK (lq rfl) rfl rfl) ?_
 refine Q50 ?_
 cases h
 refine zB ?_
 exact zL rfl
theorem zLZ {fv1:DV} {a0:Int} {a1:Int→Option (Bool)} (hf1:∀x0 y,a1 x0=some y→FnC Tryd.prog fv1 [(di x0)] [(db y)]) {r:Int} (h:zDI a0 a1=some r):zG Tryd.prog 65 [(di a0),fv1] [(di r)]:=by
 refine co Tryd.func65 ?_;intro _ _ _ _
 unfold zDI at h
 refine Q54 ?_
 refine Q24 ?_
 refine Q42 ?_
 have ⟨y1,hy1,h⟩:=bE h
 refine tl (.exit 0) ⟨[(5,.d (di y1))],[]⟩ ?_ ?_
 refine zE (fun x=>⟨[(1,.d fv1),(5,.d (di x.1)),(6,.d (di x.2))],[]⟩) hy1 (wc) ?_
 rintro ⟨v5,v6⟩ sy1 p1
 replace p1:uE a1 v5 v6=some sy1:=p1
 unfold uE at p1
 refine Q49 ?_
 refine yY p1 (fun p1=>?_) (fun p1=>?_)
 refine zI ?_
 have ⟨y2,hy2,p1⟩:=bE p1
 refine tl .normal ⟨[(1,.d fv1),(5,.d (di y2.1)),(6,.d (di y2.2))],[]⟩ ?_ ?_
 refine Q75 ?_
 refine Q89 ?_
 refine Q65 ?_
 have ⟨t20,ht20,hy2⟩:=bE hy2
 refine yK (zBW (lq rfl) rfl rfl (hf1 _ _ ht20)) ?_
 refine Q41 ?_
 refine yY hy2 (fun hy2=>?_) (fun hy2=>?_)
 refine Q21 ?_
 cases hy2
 exact zJ (wc)
 refine Q68 ?_
 cases hy2
 exact zJ (wc)
 cases p1
 exact wc
 refine zH ?_
 cases p1
 intro q;cases q
 exact zJ (wc)
 refine Q32 ?_
 cases h
 refine zB ?_
 exact zL rfl
theorem zD9 {a0 a1 r} (h:j8 a0 a1=some r):zG Tryd.prog 44 [(.pt (eColltable_table.cells a0)),(di a1)] [(di r)]:=by
 refine co Tryd.func44 ?_;intro _ _ _ _
 unfold j8 at h
 refine Q0 ?_
 refine q74 ?_
 refine q74 ?_
 refine Q45 ?_
 refine q65 O81 ?_
 refine yK (zC1 (lq rfl) rfl) ?_
 refine q5 zKZ ?_
 refine q3 O39 ?_
 refine q6 S39 ?_
 refine yK (zG4 (lq rfl) rfl) ?_
 have ⟨t12,ht12,h⟩:=bE h
 refine q7 (zLZ (fun _ _ q=> .inl ⟨_,_,rfl,zDA q⟩) ht12) ?_
 refine Q67 ?_
 refine kQ ?_
 refine kH MX rfl ?_
 refine q8 ?_
 refine zYM O81 ?_
 refine q97 ?_
 refine q17 zKZ ?_
 refine q27 O39 ?_
 refine daa (zMS (en:=eSpan) (l:=a0.classes) (lq rfl) S39 rfl) ?_
 refine zYN ?_
 have ⟨b20,hb20,h⟩:=bE h
 refine daa ((zC (lq rfl) rfl).bool (oi hb20)) ?_
 refine dat (.d (.pt (eColltable_table.cells a0))) rfl (fun hb=>by subst hb;exact zF6 (lq rfl) O81 rfl) ?_
 refine dat (.d (.pt (eColltable_table.cells a0))) rfl (fun hb=>by subst hb;exact zC1 (lq rfl) rfl) ?_
 refine q86 (.ip (eColltable_table.cells a0) (0+7)) zKZ ?_
 refine q87 (.d (z8 eSpan a0.classes)) O39 ?_
 refine q54 (.d (di t12)) ?_
 have ⟨t26,ht26,h⟩:=bE h
 refine dat (.ip (eSpan.all a0.classes) (t12.toNat*eSpan.size)) rfl (fun hb=>by subst hb;exact zBV (en:=eSpan) (lq rfl) S39 rfl rfl ht26) ?_
 refine dat (.ip (eSpan.all a0.classes) (t12.toNat*eSpan.size+0)) rfl (fun hb=>by subst hb;exact vW (lq rfl) zK0 rfl) ?_
 refine dat (.d (di t26.Lo)) rfl (fun hb=>by subst hb;exact wU (en:=eSpan) (l:=a0.classes) (i:=t12) (v:=t26) (off:=0) (lq rfl) O3 rfl ht26 rfl) ?_
 refine dat (.d (di a1)) rfl (fun hb=>by subst hb;exact zF6 (lq rfl) O3 rfl) ?_
 refine dat (.d (db (decide (t26.Lo≤a1)))) rfl (fun hb=>by subst hb;exact zI5 (lq rfl) rfl rfl) ?_
 refine q69 ?_
 refine wZ ?_
 refine yY h (fun h=>?_) (fun h=>?_)
 refine Q0 ?_
 refine q65 O81 ?_
 refine yK (zC1 (lq rfl) rfl) ?_
 refine q5 zKZ ?_
 refine q3 O39 ?_
 refine q0 ?_
 have ⟨t37,ht37,h⟩:=bE h
 refine q14 S39 ht37 ?_
 refine q90 zK2 ?_
 refine yK (wU (en:=eSpan) (l:=a0.classes) (i:=t12) (v:=t37) (off:=2) (lq rfl) O3 rfl ht37 rfl) ?_
 refine Q1 ?_
 cases h
 refine zB ?_
 exact zL rfl
 refine Q43 ?_
 cases h
 refine zB ?_
 exact zL rfl
theorem zEA {a0} {a1} {r:Int×(List Element)×Bool×(List Int)} (h:j9 a0 a1=some r):GC Tryd.prog 35 [.d (.pt (eColltable_table.cells a0)),.row 3001] [(3001,.win 3 eI.size 0 (eI.all a1))] [3001] [.d (di r.1),.d (z8 eElement r.2.1),.d (db r.2.2.1)] [(3001,.win 3 eI.size r.1.toNat (eI.all r.2.2.2))]:=by
 refine zA5 Tryd.func35 (by kernel_rfl) rfl (lq rfl) (lq rfl) fun w0 I0 hG0 p0=>?_
 unfold j9 at h
 refine Q0 ?_
 refine q1 ?_
 refine Q53 ?_
 refine yK (zC1 (lq rfl) rfl) ?_
 refine q5 zTH ?_
 refine q3 O3 ?_
 refine q9 ?_
 refine z1Z yX ?_
 refine z1U ?_
 refine Q1 ?_
 refine Q42 ?_
 have ⟨y1,hy1,h⟩:=bE h
 refine tl (.exit 0) ⟨[(0,.d (.pt (eColltable_table.cells a0))),(1,.row 3001),(7,.d (di y1))],[(3001,.win 3 eI.size 0 (eI.all a1))]⟩ ?_ ?_
 refine zE (fun x=>⟨[(0,.d (.pt (eColltable_table.cells a0))),(1,.row 3001),(7,.d (di x))],[(3001,.win 3 eI.size 0 (eI.all a1))]⟩) hy1 (wc) ?_
 rintro v7 sy1 p1
 replace p1:kD a1 a0 v7=some sy1:=p1
 unfold kD at p1
 refine Q4 ?_
 refine Q46 ?_
 refine yY p1 (fun p1=>?_) (fun p1=>?_)
 refine zI<|yQ<|Q4 ?_
 refine q9 ?_
 refine q0 ?_
 have ⟨t31,ht31,p1⟩:=bE p1
 refine yK (zMY (en:=eI) (l:=a1) (lq rfl) yX rfl rfl rfl ht31) ?_
 have ⟨t32,ht32,p1⟩:=bE p1
 refine kN rfl (z08 (lq rfl) ⟨_,_,rfl,.d _,⟨_,_,rfl,.front rfl ht31,rfl⟩⟩ (uP ht32)) ?_
 refine yK (zJA (lq rfl) rfl) ?_
 refine zYO ?_
 refine zYO ?_
 refine yK (zNZ (lq rfl)) ?_
 refine Q10 ?_
 refine zF ?_
 refine yY p1 (fun p1=>?_) (fun p1=>?_)
 refine zH ?_
 cases p1
 intro q;cases q
 exact zJ (wc)
 refine zI<|Q8 ?_
 refine Q52 ?_
 cases p1
 exact wc
 refine zH ?_
 cases p1
 intro q;cases q
 exact zJ (wc)
 refine Q4 ?_
 refine Q63 ?_
 refine yY h (fun h=>?_) (fun h=>?_)
 refine Q2 ?_
 refine q9 ?_
 have ⟨t42,ht42,h⟩:=bE h
 refine yK (zB2 (en:=eI) (l:=a1) (lq rfl) yX rfl rfl rfl ht42) ?_
 refine yK (zEQ (en:=eI) (l:=a1) (i:=(0:Int)) (v:=t42) (lq rfl) O3 rfl rfl ht42 rfl) ?_
 have ⟨t44,ht44,h⟩:=bE h
 refine q7 (zC7 ht44) ?_
 refine q1 ?_
 refine Q24 ?_
 refine zN (zR1 (id:=3001) ((1:Int).toNat) rfl (Nat.zero_le _)) ?_
 cases h
 refine zB ?_
 exact ⟨⟨_,_,rfl,rfl,⟨_,_,rfl,rfl,⟨_,_,rfl,rfl,rfl⟩⟩⟩,⟨rfl,trivial⟩⟩
 refine zI<|Q39 ?_
 refine Q1 ?_
 refine yQ ?_
 have ⟨y2,hy2,h⟩:=bE h
 refine tl (.exit 2) ⟨[(0,.d (.pt (eColltable_table.cells a0))),(1,.row 3001),(7,.d (di y2.1))],[(3001,.win 3 eI.size 0 (eI.all y2.2))]⟩ ?_ ?_
 refine zE (fun x=>⟨[(0,.d (.pt (eColltable_table.cells a0))),(1,.row 3001),(7,.d (di x.1)),(10,.d (di x.2.1)),(11,.d (di x.2.2.1))],[(3001,.win 3 eI.size 0 (eI.all x.2.2.2))]⟩) hy2 (wc) ?_
 rintro ⟨v7,v10,v11,r3001⟩ sy2 p2
 replace p2:yI a0 v7 v10 v11 r3001=some sy2:=p2
 unfold yI at p2
 refine Q4 ?_
 refine q9 ?_
 refine z1Z yX ?_
 refine q2 ?_
 have ⟨b50,hb50,p2⟩:=bE p2
 refine yK ((zC (lq rfl) rfl).bool (oi hb50)) ?_
 refine q20 (.d (di v10)) ?_
 refine q20 (.d (.pt (eColltable_table.cells a0))) ?_
 refine sqt (.d (.pt (eColltable_table.cells a0))) rfl (fun hb=>by subst hb;exact zC1 (lq rfl) rfl) ?_
 refine q52 (.ip (eColltable_table.cells a0) (0+8)) zX9 ?_
 refine q55 (.d (di a0.top)) O3 ?_
 refine q64 (.d (db (decide (v10 < a0.top)))) ?_
 refine Q47 ?_
 refine yY p2 (fun p2=>?_) (fun p2=>?_)
 refine Q5 ?_
 have ⟨y3,hy3,p2⟩:=bE p2
 refine yB y3 (.exit 2) (fun y3=>⟨[(0,.d (.pt (eColltable_table.cells a0))),(1,.row 3001),(7,.d (di v7))],[(3001,.win 3 eI.size 0 (eI.all r3001))]⟩) .normal (fun y3=>⟨[(0,.d (.pt (eColltable_table.cells a0))),(1,.row 3001),(7,.d (di y3.1)),(10,.d (di y3.2.1)),(11,.d (di v11))],[(3001,.win 3 eI.size 0 (eI.all y3.2.2))]⟩) ?_ ?_ ?_
 refine yQ<|Q27 ?_
 refine q0 ?_
 have ⟨t62,ht62,hy3⟩:=bE hy3
 refine yK (zB2 (en:=eI) (l:=r3001) (lq rfl) yX rfl rfl rfl ht62) ?_
 refine yK (zEQ (en:=eI) (l:=r3001) (i:=v11) (v:=t62) (lq rfl) O3 rfl rfl ht62 rfl) ?_
 refine Q65 ?_
 have ⟨t66,ht66,hy3⟩:=bE hy3
 refine q7 (zD9 ht66) ?_
 refine Q1 ?_
 refine Q4 ?_
 refine Q63 ?_
 refine yY hy3 (fun hy3=>?_) (fun hy3=>?_)
 refine zH ?_
 cases hy3
 exact ⟨rfl,wc⟩
 refine zI<|Q14 ?_
 refine q66 ?_
 refine zF ?_
 refine yY hy3 (fun hy3=>?_) (fun hy3=>?_)
 refine zH ?_
 cases hy3
 exact ⟨rfl,wc⟩
 refine zI<|Q4 ?_
 refine q9 ?_
 refine Q20 ?_
 have ⟨t77,ht77,hy3⟩:=bE hy3
 refine yK (zVM (en:=eI) (l:=r3001) (lq rfl) yX rfl rfl rfl rfl ht77) ?_
 refine q0 ?_
 refine q35 yX ?_
 have ⟨r80_4,hr80_4,hy3⟩:=bE hy3
 refine kN rfl (zVN (en:=eI) (l:=r3001) (b:=v7) (lq rfl) yX rfl rfl ht77 rfl (by simp) hr80_4 (by decide) rfl) ?_
 have ⟨t81,ht81,hy3⟩:=bE hy3
 refine kN rfl (zW2 (lq rfl) rfl rfl (uP ht81)) ?_
 refine Q70 ?_
 refine Q53 ?_
 refine Q41 ?_
 refine yY hy3 (fun hy3=>?_) (fun hy3=>?_)
 refine Q32 ?_
 refine zH ?_
 cases hy3
 exact ⟨rfl,wc⟩
 refine Q5 ?_
 refine zD0 10 MX rfl ?_
 refine Q76 ?_
 refine z10 ?_
 refine q8 ?_
 refine z10 ?_
 have ⟨t92,ht92,hy3⟩:=bE hy3
 refine daa (zP3 (en:=eI) (l:=r3001) (lq rfl) yX rfl rfl rfl rfl ht92) ?_
 refine q63 ?_
 refine Q38 ?_
 have ⟨t96,ht96,hy3⟩:=bE hy3
 refine daa (zP3 (en:=eI) (l:=r3001) (lq rfl) yX rfl rfl rfl rfl ht96) ?_
 refine wZ ?_
 refine kN rfl (z1A (en:=eI) (l:=r3001) (a1:=(wi (v7+1))) (b1:=(wi (v11+1))) (a2:=v7) (b2:=v11) (lq rfl) yX rfl rfl rfl ht92 ht96 rfl) ?_
 refine zF<|Q60 ?_
 have ⟨t101,ht101,hy3⟩:=bE hy3
 refine yK (zB2 (en:=eI) (l:=(cpM r3001 (wi (v7+1)) (wi (v11+1)) v7 v11)) (lq rfl) yX rfl rfl rfl ht101) ?_
 have ⟨r3001_5,hr3001_5,hy3⟩:=bE hy3
 refine kN rfl (zP4 (en:=eI) (l:=(cpM r3001 (wi (v7+1)) (wi (v11+1)) v7 v11)) (i:=v7) (v:=t62) O3 rfl rfl rfl ht101 hr3001_5 rfl rfl rfl rfl) ?_
 refine zF<|Q21 ?_
 cases hy3
 exact ⟨rfl,wc⟩
 rintro y3 rfl
 replace p2:=eL p2
 cases p2
 intro q;cases q
 exact zJ (wc)
 rintro y3 rfl
 replace p2:=eR p2
 refine Q21 ?_
 cases p2
 exact wc
 refine zH ?_
 cases p2
 intro q;cases q
 exact zJ (wc)
 refine Q2 ?_
 refine q9 ?_
 refine q0 ?_
 have ⟨t108,ht108,h⟩:=bE h
 refine yK (zMY (en:=eI) (l:=y2.2) (lq rfl) yX rfl rfl rfl ht108) ?_
 refine zF5 (zR2 (tm:=108) (en:=eI) (l:=y2.2) (b:=y2.1) (lq rfl) rfl rfl ht108) ?_ (by simp)
 have ⟨t109,ht109,h⟩:=bE h
 refine kN rfl ((uK (lq rfl) rfl (uP ht109)).step) ?_
 refine Q70 ?_
 refine Q53 ?_
 refine q0 ?_
 refine q1 ?_
 refine Q24 ?_
 cases h
 refine zB ?_
 exact ⟨⟨_,_,rfl,rfl,⟨_,_,rfl,rfl,⟨_,_,rfl,rfl,rfl⟩⟩⟩,⟨rfl,trivial⟩⟩
set_option maxHeartbeats 8000000 in
theorem zFZ {a0 a1 a2 r} (h:wR a0 a1 a2=some r):zG Tryd.prog 29 [(eNorm.dv a0),(eCollation.dv a1),(z8 eI a2)] [(z8 eElement r)]:=by
 refine co Tryd.func29 ?_;intro _ _ _ _
 unfold wR at h
 refine Q44 ?_
 refine q83 ?_
 refine Q67 ?_
 have ⟨t14,ht14,h⟩:=bE h
 have ⟨t16,ht16,h⟩:=bE h
 refine tl .normal ⟨[(2,.d (z8 eI a2)),(3,.d (.pt (eNorm.cells a0))),(7,.ptr 2514 0)],[(2514,.box 93 [.d (z8 eEntry t16.c.Entries),.d (z8 eGroup t16.c.Groups),.d (di t16.c.Base),.d (di t16.c.Second),.d (di t16.c.Third),.row 3014,.d (di t16.longest),.d (z8 eSpan t16.classes),.d (di t16.top)]),(3014,.map (xL zBR (eL eElement) t16.entries))]⟩ ?_ ?_
 refine zBX MX ?_
 refine xn [0,2] ?_
 refine xa rfl (zHR (lq rfl) G49 rfl rfl) ?_ ?_
 refine xn [1,2] ?_
 refine xb rfl (zBO [(13,2514),(11,3014)] (zBT ht14) (lq rfl) (by decide) ⟨rfl,trivial⟩ rfl rfl trivial rfl rfl rfl (fun _=>rfl) rfl) ?_ ?_
 refine xn [2] ?_
 refine z11 G45 ?_
 refine xn [3] ?_
 refine xd rfl (zBO [(3000,2514),(3105,3014)] (uO ht16) (lq rfl) (by decide) ⟨rfl,rfl,trivial⟩ rfl rfl ⟨rfl,rfl,trivial⟩ rfl rfl rfl (fun _=>rfl) rfl) ?_
 refine xn [4] ?_
 refine xc rfl (zAH (lq rfl) rfl) ?_
 exact ae
 refine z11 G45 ?_
 refine xn [1] ?_
 refine xd rfl (zBO [(13,2514),(11,3014)] (zBT ht14) (lq rfl) (by decide) ⟨rfl,trivial⟩ rfl rfl trivial rfl rfl rfl (fun _=>rfl) rfl) ?_
 refine xn [3] ?_
 refine xd rfl (zBO [(3000,2514),(3105,3014)] (uO ht16) (lq rfl) (by decide) ⟨rfl,rfl,trivial⟩ rfl rfl ⟨rfl,rfl,trivial⟩ rfl rfl rfl (fun _=>rfl) rfl) ?_
 refine xn [4] ?_
 refine xc rfl (zAH (lq rfl) rfl) ?_
 exact ae
 refine z11 G45 ?_
 refine xn [0] ?_
 refine z11 G49 ?_
 refine xn [1] ?_
 refine xd rfl (zBO [(13,2514),(11,3014)] (zBT ht14) (lq rfl) (by decide) ⟨rfl,trivial⟩ rfl rfl trivial rfl rfl rfl (fun _=>rfl) rfl) ?_
 refine xn [3] ?_
 refine xd rfl (zBO [(3000,2514),(3105,3014)] (uO ht16) (lq rfl) (by decide) ⟨rfl,rfl,trivial⟩ rfl rfl ⟨rfl,rfl,trivial⟩ rfl rfl rfl (fun _=>rfl) rfl) ?_
 refine xn [4] ?_
 refine xc rfl (zAH (lq rfl) rfl) ?_
 exact ae
 refine zN (zN1 (bid:=2514) (off:=5) rfl rfl rfl) ?_
 refine zN (z0 (t:=7) (lq rfl) rfl rfl rfl) ?_
 refine Q3 ?_
 refine zN (zAQ (t:=8) 1008 37 eElement.size (lq rfl) (lq rfl) rfl rfl) ?_
 refine Q11 ?_
 refine q33 G45 ?_
 refine q0 ?_
 have ⟨t19,ht19,h⟩:=bE h
 refine kN rfl (zBO [(2531,2519)] (zIU ht19) (lq rfl) (by decide) ⟨rfl,rfl,rfl,trivial⟩ rfl rfl trivial rfl rfl rfl (fun _=>rfl) rfl) ?_
 refine Q19 ?_
 refine zN (zN0 (id:=2519) rfl) ?_
 refine yQ ?_
 have ⟨y1,hy1,h⟩:=bE h
 refine tl (.exit 0) ⟨[(8,.row 1008)],[(1008,.row 37 eElement.size false (eElement.all y1))]⟩ ?_ ?_
 refine zE (fun x=>⟨[(7,.d (.pt (eColltable_table.cells t16))),(8,.row 1008),(9,.row 2519)],[(1008,.row 37 eElement.size false (eElement.all x.1)),(2519,.win 3 eI.size 0 (eI.all x.2))]⟩) hy1 (wc) ?_
 rintro ⟨r1008,r2519⟩ sy1 p1
 replace p1:jA t16 r1008 r2519=some sy1:=p1
 unfold jA at p1
 refine Q11 ?_
 refine q9 ?_
 refine z1Z yX ?_
 refine Q46 ?_
 refine yY p1 (fun p1=>?_) (fun p1=>?_)
 refine zI<|Q64 ?_
 refine q9 ?_
 have ⟨t26,ht26,p1⟩:=bE p1
 refine kN rfl (zBO [(3001,2519)] (zEA ht26) (lq rfl) (by decide) ⟨rfl,rfl,trivial⟩ rfl rfl ⟨rfl,trivial⟩ rfl rfl rfl (fun _=>rfl) rfl) ?_
 refine yK (zJA (lq rfl) rfl) ?_
 refine zYO ?_
 refine zYO ?_
 refine zYO ?_
 refine q1 ?_
 refine Q24 ?_
 refine Q27 ?_
 refine q0 ?_
 have ⟨r1008_2,hr1008_2,p1⟩:=bE p1
 refine q34 S22 hr1008_2 ?_
 refine Q19 ?_
 refine Q29 ?_
 refine q0 ?_
 have ⟨r2519_3,hr2519_3,p1⟩:=bE p1
 refine kN rfl (zXU (en:=eI) (l:=t26.2.2.2) (lq rfl) yX rfl rfl rfl hr2519_3 (Nat.le_refl _) rfl) ?_
 refine Q19 ?_
 cases p1
 exact wc
 refine zH ?_
 cases p1
 intro q;cases q
 exact zJ (wc)
 refine Q27 ?_
 refine Q19 ?_
 cases h
 refine zB ?_
 exact zL rfl
theorem zG0 {a0 a1 a2 a3 r} (h:zAC a0 a1 a2 a3=some r):zG Tryd.prog 21 [(eNorm.dv a0),(eCollation.dv a1),(eOptions.dv a2),(z8 eI a3)] [(z8 eI r)]:=by
 refine co Tryd.func21 ?_;intro _ _ _ _
 unfold zAC at h
 refine Q44 ?_
 refine q83 ?_
 refine q75 ?_
 refine Q45 ?_
 refine yK ((k9 (lq rfl) G24 rfl rfl rfl rfl).data rfl) ?_
 have ⟨t15,ht15,h⟩:=bE h
 refine q7 (zCG ht15) ?_
 refine Q79 ?_
 refine Q3 ?_
 refine zN (zAQ (t:=9) 1009 3 eI.size (lq rfl) (lq rfl) rfl rfl) ?_
 refine kQ<|kQ ?_
 refine kH MX rfl ?_
 refine q72 G45 ?_
 refine q72 G49 ?_
 refine q8 ?_
 have ⟨t19,ht19,h⟩:=bE h
 refine q26 (zFZ ht19) ?_
 refine daa ((k9 (lq rfl) G24 rfl rfl rfl rfl).data rfl) ?_
 have ⟨t21,ht21,h⟩:=bE h
 refine q26 (zDJ ht21) ?_
 refine daa (zMS (en:=(eL eI)) (l:=t21) (lq rfl) S29 rfl) ?_
 refine q8 ?_
 refine wZ<|yQ ?_
 have ⟨y1,hy1,h⟩:=bE h
 refine tl (.exit 0) ⟨[(3,.d (z8 eI a3)),(4,.d (.pt (eNorm.cells a0))),(6,.ptr 6 0),(9,.row 1009)],[(6,.box 24 [.d (di t15.Strength),.d (di t15.Variable),.d (db t15.Backward),.d (db t15.Identical)]),(1009,.row 3 eI.size false (eI.all y1))]⟩ ?_ ?_
 refine zE (fun x=>⟨[(3,.d (z8 eI a3)),(4,.d (.pt (eNorm.cells a0))),(6,.ptr 6 0),(9,.row 1009),(21,.d (z8 (eL eI) t21)),(22,.d (di (t21.length:Int))),(23,.d (di x.1))],[(6,.box 24 [.d (di t15.Strength),.d (di t15.Variable),.d (db t15.Backward),.d (db t15.Identical)]),(1009,.row 3 eI.size false (eI.all x.2))]⟩) hy1 (wc) ?_
 rintro ⟨v23,r1009⟩ sy1 p1
 replace p1:uF t21 v23 r1009=some sy1:=p1
 unfold uF at p1
 refine Q13 ?_
 refine yY p1 (fun p1=>?_) (fun p1=>?_)
 refine Q9 ?_
 refine Q2 ?_
 have ⟨t26,ht26,p1⟩:=bE p1
 refine q14 S29 ht26 ?_
 refine yK (wU (en:=(eL eI)) (l:=t21) (i:=v23) (v:=t26) (off:=0) (lq rfl) O32 rfl ht26 rfl) ?_
 refine Q90 ?_
 refine Q46 ?_
 have ⟨y2,hy2,p1⟩:=bE p1
 refine tl .normal ⟨[(3,.d (z8 eI a3)),(4,.d (.pt (eNorm.cells a0))),(6,.ptr 6 0),(9,.row 1009),(11,.d (z8 eI t26)),(21,.d (z8 (eL eI) t21)),(22,.d (di (t21.length:Int))),(23,.d (di v23))],[(6,.box 24 [.d (di t15.Strength),.d (di t15.Variable),.d (db t15.Backward),.d (db t15.Identical)]),(1009,.row 3 eI.size false (eI.all y2))]⟩ ?_ ?_
 refine yY hy2 (fun hy2=>?_) (fun hy2=>?_)
 refine Q29 ?_
 refine q35 yX ?_
 have ⟨r1009_3,hr1009_3,hy2⟩:=bE hy2
 refine q34 yX hr1009_3 ?_
 refine Q19 ?_
 cases hy2
 exact zJ (wc)
 refine zI ?_
 cases hy2
 exact zJ (wc)
 refine Q29 ?_
 refine q0 ?_
 have ⟨r1009_4,hr1009_4,p1⟩:=bE p1
 refine q34 yX hr1009_4 ?_
 refine Q19 ?_
 refine Q16 ?_
 cases p1
 exact wc
 refine zH ?_
 cases p1
 intro q;cases q
 exact zJ (wc)
 refine Q11 ?_
 refine q41 z3I ?_
 refine q24 O4 ?_
 refine Q41 ?_
 refine yY h (fun h=>?_) (fun h=>?_)
 refine Q27 ?_
 refine Q19 ?_
 cases h
 refine zB ?_
 exact zL rfl
 refine zI<|Q27 ?_
 refine q35 yX ?_
 have ⟨r1009_5,hr1009_5,h⟩:=bE h
 refine q34 yX hr1009_5 ?_
 refine Q19 ?_
 refine Q11 ?_
 refine q33 G45 ?_
 refine q0 ?_
 have ⟨t46,ht46,h⟩:=bE h
 refine q7 (zIT ht46) ?_
 refine Q58 ?_
 have ⟨y6,hy6,h⟩:=bE h
 refine tl (.exit 2) ⟨[(9,.row 1009)],[(1009,.row 3 eI.size false (eI.all y6))]⟩ ?_ ?_
 refine zE (fun x=>⟨[(9,.row 1009),(46,.d (z8 eI t46)),(47,.d (di (t46.length:Int))),(48,.d (di x.1))],[(1009,.row 3 eI.size false (eI.all x.2))]⟩) hy6 (wc) ?_
 rintro ⟨v48,r1009⟩ sy6 p6
 replace p6:uG t46 v48 r1009=some sy6:=p6
 unfold uG at p6
 refine Q13 ?_
 refine yY p6 (fun p6=>?_) (fun p6=>?_)
 refine Q5 ?_
 have ⟨y7,hy7,p6⟩:=bE p6
 refine tl .normal ⟨[(9,.row 1009),(46,.d (z8 eI t46)),(47,.d (di (t46.length:Int))),(48,.d (di v48))],[(1009,.row 3 eI.size false (eI.all y7))]⟩ ?_ ?_
 refine yQ<|Q0 ?_
 have ⟨t50,ht50,hy7⟩:=bE hy7
 refine q14 yX ht50 ?_
 refine q49 O3 ht50 ?_
 refine Q10 ?_
 refine q48 ?_
 have ⟨b54,hb54,hy7⟩:=bE hy7
 refine yK ((zC (lq rfl) rfl).bool (oi hb54)) ?_
 refine q20 (.d (di t50)) ?_
 refine q76 (.d (db (decide (t50≤1114111)))) ?_
 refine Q47 ?_
 refine yY hy7 (fun hy7=>?_) (fun hy7=>?_)
 refine Q29 ?_
 refine q0 ?_
 refine q4 ?_
 refine q35 yX ?_
 have ⟨r1009_8,hr1009_8,hy7⟩:=bE hy7
 refine q34 yX hr1009_8 ?_
 refine Q19 ?_
 cases hy7
 exact zJ (wc)
 refine zI ?_
 cases hy7
 exact zJ (wc)
 refine Q16 ?_
 cases p6
 exact wc
 refine zH ?_
 cases p6
 intro q;cases q
 exact zJ (wc)
 refine Q27 ?_
 refine Q19 ?_
 cases h
 refine zB ?_
 exact zL rfl
theorem zCD {a0 a1 r} (h:vT a0 a1=some r):zG Tryd.prog 16 [(z8 eI a0),(z8 eI a1)] [(di r)]:=by
 refine co Tryd.func16 ?_;intro _ _ _ _
 unfold vT at h
 refine Q3 ?_
 refine Q66 ?_
 have ⟨y1,hy1,h⟩:=bE h
 refine yB y1 (.exit 0) (fun y1=>⟨[(0,.d (z8 eI a0)),(1,.d (z8 eI a1))],[]⟩) .ret (fun y1=>⟨[(4,.d (di y1))],[]⟩) ?_ ?_ ?_
 refine zE (fun x=>⟨[(0,.d (z8 eI a0)),(1,.d (z8 eI a1)),(5,.d (di x))],[]⟩) hy1 (wc) ?_
 rintro v5 sy1 p1
 replace p1:wL a0 a1 v5=some sy1:=p1
 unfold wL at p1
 refine Q14 ?_
 refine q6 yX ?_
 refine q2 ?_
 have ⟨b10,hb10,p1⟩:=bE p1
 refine yK ((zC (lq rfl) rfl).bool (oi hb10)) ?_
 refine q20 (.d (di v5)) ?_
 refine q20 (.d (z8 eI a1)) ?_
 refine z1Y (.d (di (a1.length:Int))) yX ?_
 refine q64 (.d (db (decide (v5 < (a1.length:Int))))) ?_
 refine Q47 ?_
 refine yY p1 (fun p1=>?_) (fun p1=>?_)
 refine Q9 ?_
 refine kQ<|kQ ?_
 refine kH MX rfl ?_
 refine Q38 ?_
 have ⟨t20,ht20,p1⟩:=bE p1
 refine q42 yX ht20 ?_
 refine q70 O3 ht20 ?_
 refine Q38 ?_
 have ⟨t24,ht24,p1⟩:=bE p1
 refine q42 yX ht24 ?_
 refine q70 O3 ht24 ?_
 refine zYN ?_
 refine wZ ?_
 refine yY p1 (fun p1=>?_) (fun p1=>?_)
 refine Q22 ?_
 cases p1
 intro q;cases q
 exact ⟨rfl,wc⟩
 refine Q5 ?_
 refine kH MX rfl ?_
 refine Q38 ?_
 have ⟨t29,ht29,p1⟩:=bE p1
 refine q42 yX ht29 ?_
 refine q70 O3 ht29 ?_
 refine Q38 ?_
 have ⟨t33,ht33,p1⟩:=bE p1
 refine q42 yX ht33 ?_
 refine q70 O3 ht33 ?_
 refine q85 ?_
 refine wZ ?_
 refine yY p1 (fun p1=>?_) (fun p1=>?_)
 refine Q22 ?_
 cases p1
 intro q;cases q
 exact ⟨rfl,wc⟩
 refine Q59 ?_
 cases p1
 exact wc
 refine zH ?_
 cases p1
 intro q;cases q
 exact ⟨rfl,wc⟩
 rintro y1 rfl
 replace h:=eL h
 refine Q4 ?_
 refine q6 yX ?_
 refine q0 ?_
 refine q6 yX ?_
 refine Q7 ?_
 refine yY h (fun h=>?_) (fun h=>?_)
 refine Q3 ?_
 cases h
 refine zB ?_
 exact zL rfl
 refine zI<|Q4 ?_
 refine q6 yX ?_
 refine q0 ?_
 refine q6 yX ?_
 refine Q46 ?_
 refine yY h (fun h=>?_) (fun h=>?_)
 refine Q3 ?_
 cases h
 refine zB ?_
 exact zL rfl
 refine Q43 ?_
 cases h
 refine zB ?_
 exact zL rfl
 rintro y1 rfl
 replace h:=eR h
 cases h
 exact zL rfl
theorem zG1 {a0 a1 r} (h:zAD a0 a1=some r):zG Tryd.prog 17 [(z8 eI a0),(z8 eI a1)] [(db r)]:=by
 refine co Tryd.func17 ?_;intro _ _ _ _
 unfold zAD at h
 refine Q3 ?_
 refine Q28 ?_
 have ⟨t7,ht7,h⟩:=bE h
 refine q7 (zCD ht7) ?_
 refine Q73 ?_
 cases h
 refine zB ?_
 exact zL rfl
theorem zJU {a0 r} (h:zAZ a0=some r):zG Tryd.prog 14 [(z8 eI a0)] [(ds r)]:=by
 refine co Tryd.func14 ?_;intro _ _ _ _
 unfold zAZ at h
 refine Q3 ?_
 refine Q3 ?_
 refine zN (zAQ (t:=3) 1003 5 e8.size (lq rfl) (lq rfl) rfl rfl) ?_
 refine Q4 ?_
 refine Q58 ?_
 have ⟨y1,hy1,h⟩:=bE h
 refine tl (.exit 0) ⟨[(3,.row 1003)],[(1003,.row 5 e8.size false (e8.all y1))]⟩ ?_ ?_
 refine zE (fun x=>⟨[(3,.row 1003),(7,.d (z8 eI a0)),(8,.d (di (a0.length:Int))),(9,.d (di x.1))],[(1003,.row 5 e8.size false (e8.all x.2))]⟩) hy1 (wc) ?_
 rintro ⟨v9,r1003⟩ sy1 p1
 replace p1:zAL a0 v9 r1003=some sy1:=p1
 unfold zAL at p1
 refine Q13 ?_
 refine yY p1 (fun p1=>?_) (fun p1=>?_)
 refine Q25 ?_
 have ⟨t11,ht11,p1⟩:=bE p1
 refine q14 yX ht11 ?_
 refine q49 O3 ht11 ?_
 refine Q10 ?_
 refine q28 Tryd.underlying3 Tryd.underlying69 ?_
 refine Q1 ?_
 refine Q29 ?_
 refine q0 ?_
 refine q45 ?_
 refine q28 Tryd.underlying69 Tryd.underlying5 ?_
 refine q0 ?_
 refine q45 ?_
 refine q28 Tryd.underlying69 Tryd.underlying5 ?_
 refine q0 ?_
 refine q45 ?_
 refine q28 Tryd.underlying69 Tryd.underlying5 ?_
 refine q0 ?_
 refine q28 Tryd.underlying69 Tryd.underlying5 ?_
 refine q35 S68 ?_
 have ⟨r1003_2,hr1003_2,p1⟩:=bE p1
 refine q34 S68 hr1003_2 ?_
 refine Q19 ?_
 refine Q16 ?_
 cases p1
 exact wc
 refine zH ?_
 cases p1
 intro q;cases q
 exact zJ (wc)
 refine Q27 ?_
 refine yK (z45 (lq rfl) Tryd.underlying68 Tryd.underlying9 Tryd.underlying5 rfl rfl) ?_
 refine Q1 ?_
 cases h
 refine zB ?_
 exact zL rfl
set_option maxHeartbeats 8000000 in
set_option maxRecDepth 40000 in
theorem zG2 {r} (h:zA8=some r):zG Tryd.prog 8 [] [(db r)]:=by
 refine co Tryd.func8 ?_;intro _ _ _ _
 unfold zA8 at h
 refine Q3 ?_
 refine Q0 ?_
 refine q51 B37 ?_
 refine q51 B37 ?_
 refine q35 S22 ?_
 refine Q10 ?_
 refine q51 B24 ?_
 have ⟨t10,ht10,h⟩:=bE h
 refine q7 (zDJ ht10) ?_
 refine Q67 ?_
 have ⟨t13,ht13,h⟩:=bE h
 have ⟨t17,ht17,h⟩:=bE h
 refine tl .normal ⟨[(2,.d (z8 (eL eI) t10)),(3,.ptr 3 0)],[(3,.box 49 [.d (z8 eEntry (({Entries:=[({Codes:=[97],Elements:=t13}:Entry),({Codes:=[98],Elements:=t17}:Entry)],Groups:=[],Base:=100,Second:=32,Third:=2}:Collation).Entries)),.d (z8 eGroup (({Entries:=[({Codes:=[97],Elements:=t13}:Entry),({Codes:=[98],Elements:=t17}:Entry)],Groups:=[],Base:=100,Second:=32,Third:=2}:Collation).Groups)),.d (di (({Entries:=[({Codes:=[97],Elements:=t13}:Entry),({Codes:=[98],Elements:=t17}:Entry)],Groups:=[],Base:=100,Second:=32,Third:=2}:Collation).Base)),.d (di (({Entries:=[({Codes:=[97],Elements:=t13}:Entry),({Codes:=[98],Elements:=t17}:Entry)],Groups:=[],Base:=100,Second:=32,Third:=2}:Collation).Second)),.d (di (({Entries:=[({Codes:=[97],Elements:=t13}:Entry),({Codes:=[98],Elements:=t17}:Entry)],Groups:=[],Base:=100,Second:=32,Third:=2}:Collation).Third))])]⟩ ?_ ?_
 refine zBX MX ?_
 refine xm 1 ?_
 refine zR7 (en:=eElement) (i:=2) rfl (lq rfl) S22 rfl rfl ht13 rfl (by kernel_rfl) (by kernel_rfl) (by kernel_rfl) ?_
 refine xm 5 ?_
 refine zR8 (en:=eElement) (i:=6) rfl (lq rfl) S22 rfl rfl ht17 rfl (by kernel_rfl) (by kernel_rfl) (by kernel_rfl) ?_
 refine xn [0,4,10] ?_
 refine q80 yX ?_ ?_
 refine jP (bs:=eEntry.cells ({Codes:=[97],Elements:=t13}:Entry)) (i:=3) rfl (lq rfl) B58 rfl rfl (nlE (nlE nl0)) rfl (by kernel_rfl) (by kernel_rfl) (by kernel_rfl) ?_
 refine xn [4,10] ?_
 refine q80 yX ?_ ?_
 refine jP (bs:=eEntry.cells ({Codes:=[98],Elements:=t17}:Entry)) (i:=7) rfl (lq rfl) B58 rfl rfl (nlE (nlE nl0)) rfl (by kernel_rfl) (by kernel_rfl) (by kernel_rfl) ?_
 refine xn [8,10] ?_
 refine q80 S46 ?_ ?_
 refine jP (bs:=eCollation.cells ({Entries:=[({Codes:=[97],Elements:=t13}:Entry),({Codes:=[98],Elements:=t17}:Entry)],Groups:=[],Base:=100,Second:=32,Third:=2}:Collation)) (i:=9) rfl (lq rfl) B49 rfl rfl (nlE (nlN (nlE (nlE (nlE nl0))))) rfl (by kernel_rfl) (by kernel_rfl) (by kernel_rfl) ?_
 refine xn [10] ?_
 refine q81 ?_
 refine Q77 ?_
 exact ae
 refine q81 ?_
 refine xn [8] ?_
 refine q60 S46 ?_
 refine jP (bs:=eCollation.cells ({Entries:=[({Codes:=[97],Elements:=t13}:Entry),({Codes:=[98],Elements:=t17}:Entry)],Groups:=[],Base:=100,Second:=32,Third:=2}:Collation)) (i:=9) rfl (lq rfl) B49 rfl rfl (nlE (nlN (nlE (nlE (nlE nl0))))) rfl (by kernel_rfl) (by kernel_rfl) (by kernel_rfl) ?_
 refine Q77 ?_
 exact ae
 refine q81 ?_
 refine xn [4] ?_
 refine q60 yX ?_
 refine jP (bs:=eEntry.cells ({Codes:=[98],Elements:=t17}:Entry)) (i:=7) rfl (lq rfl) B58 rfl rfl (nlE (nlE nl0)) rfl (by kernel_rfl) (by kernel_rfl) (by kernel_rfl) ?_
 refine xn [8] ?_
 refine q60 S46 ?_
 refine jP (bs:=eCollation.cells ({Entries:=[({Codes:=[97],Elements:=t13}:Entry),({Codes:=[98],Elements:=t17}:Entry)],Groups:=[],Base:=100,Second:=32,Third:=2}:Collation)) (i:=9) rfl (lq rfl) B49 rfl rfl (nlE (nlN (nlE (nlE (nlE nl0))))) rfl (by kernel_rfl) (by kernel_rfl) (by kernel_rfl) ?_
 refine Q77 ?_
 exact ae
 refine q80 yX ?_ ?_
 refine jP (bs:=eEntry.cells ({Codes:=[98],Elements:=t17}:Entry)) (i:=7) rfl (lq rfl) B58 rfl rfl (nlE (nlE nl0)) rfl (by kernel_rfl) (by kernel_rfl) (by kernel_rfl) ?_
 refine xn [0,10] ?_
 refine q80 yX ?_ ?_
 refine jP (bs:=eEntry.cells ({Codes:=[97],Elements:=t13}:Entry)) (i:=3) rfl (lq rfl) B58 rfl rfl (nlE (nlE nl0)) rfl (by kernel_rfl) (by kernel_rfl) (by kernel_rfl) ?_
 refine xn [8,10] ?_
 refine q80 S46 ?_ ?_
 refine jP (bs:=eCollation.cells ({Entries:=[({Codes:=[97],Elements:=t13}:Entry),({Codes:=[98],Elements:=t17}:Entry)],Groups:=[],Base:=100,Second:=32,Third:=2}:Collation)) (i:=9) rfl (lq rfl) B49 rfl rfl (nlE (nlN (nlE (nlE (nlE nl0))))) rfl (by kernel_rfl) (by kernel_rfl) (by kernel_rfl) ?_
 refine xn [10] ?_
 refine q81 ?_
 refine Q77 ?_
 exact ae
 refine q81 ?_
 refine xn [8] ?_
 refine q60 S46 ?_
 refine jP (bs:=eCollation.cells ({Entries:=[({Codes:=[97],Elements:=t13}:Entry),({Codes:=[98],Elements:=t17}:Entry)],Groups:=[],Base:=100,Second:=32,Third:=2}:Collation)) (i:=9) rfl (lq rfl) B49 rfl rfl (nlE (nlN (nlE (nlE (nlE nl0))))) rfl (by kernel_rfl) (by kernel_rfl) (by kernel_rfl) ?_
 refine Q77 ?_
 exact ae
 refine q81 ?_
 refine xn [0] ?_
 refine q60 yX ?_
 refine jP (bs:=eEntry.cells ({Codes:=[97],Elements:=t13}:Entry)) (i:=3) rfl (lq rfl) B58 rfl rfl (nlE (nlE nl0)) rfl (by kernel_rfl) (by kernel_rfl) (by kernel_rfl) ?_
 refine xn [8] ?_
 refine q60 S46 ?_
 refine jP (bs:=eCollation.cells ({Entries:=[({Codes:=[97],Elements:=t13}:Entry),({Codes:=[98],Elements:=t17}:Entry)],Groups:=[],Base:=100,Second:=32,Third:=2}:Collation)) (i:=9) rfl (lq rfl) B49 rfl rfl (nlE (nlN (nlE (nlE (nlE nl0))))) rfl (by kernel_rfl) (by kernel_rfl) (by kernel_rfl) ?_
 refine Q77 ?_
 exact ae
 refine q81 ?_
 refine xn [0,4] ?_
 refine q80 yX ?_ ?_
 refine jP (bs:=eEntry.cells ({Codes:=[97],Elements:=t13}:Entry)) (i:=3) rfl (lq rfl) B58 rfl rfl (nlE (nlE nl0)) rfl (by kernel_rfl) (by kernel_rfl) (by kernel_rfl) ?_
 refine xn [4] ?_
 refine q60 yX ?_
 refine jP (bs:=eEntry.cells ({Codes:=[98],Elements:=t17}:Entry)) (i:=7) rfl (lq rfl) B58 rfl rfl (nlE (nlE nl0)) rfl (by kernel_rfl) (by kernel_rfl) (by kernel_rfl) ?_
 refine xn [8] ?_
 refine q60 S46 ?_
 refine jP (bs:=eCollation.cells ({Entries:=[({Codes:=[97],Elements:=t13}:Entry),({Codes:=[98],Elements:=t17}:Entry)],Groups:=[],Base:=100,Second:=32,Third:=2}:Collation)) (i:=9) rfl (lq rfl) B49 rfl rfl (nlE (nlN (nlE (nlE (nlE nl0))))) rfl (by kernel_rfl) (by kernel_rfl) (by kernel_rfl) ?_
 refine Q77 ?_
 exact ae
 refine q60 yX ?_
 refine jP (bs:=eEntry.cells ({Codes:=[98],Elements:=t17}:Entry)) (i:=7) rfl (lq rfl) B58 rfl rfl (nlE (nlE nl0)) rfl (by kernel_rfl) (by kernel_rfl) (by kernel_rfl) ?_
 refine xn [0] ?_
 refine q60 yX ?_
 refine jP (bs:=eEntry.cells ({Codes:=[97],Elements:=t13}:Entry)) (i:=3) rfl (lq rfl) B58 rfl rfl (nlE (nlE nl0)) rfl (by kernel_rfl) (by kernel_rfl) (by kernel_rfl) ?_
 refine xn [8] ?_
 refine q60 S46 ?_
 refine jP (bs:=eCollation.cells ({Entries:=[({Codes:=[97],Elements:=t13}:Entry),({Codes:=[98],Elements:=t17}:Entry)],Groups:=[],Base:=100,Second:=32,Third:=2}:Collation)) (i:=9) rfl (lq rfl) B49 rfl rfl (nlE (nlN (nlE (nlE (nlE nl0))))) rfl (by kernel_rfl) (by kernel_rfl) (by kernel_rfl) ?_
 refine Q77 ?_
 exact ae
 refine zN (z0 (t:=3) (lq rfl) rfl rfl rfl) ?_
 refine Q0 ?_
 refine yK ((zDG (lq rfl) B45 rfl rfl).nils (bs:=eNorm.cells ({Classes:=[],Decomp:=[],Excluded:=(({Ranges:=[]}):Set)}:Norm)) (nlN (nlN (nlN nl0)))) ?_
 refine q33 G49 ?_
 refine q51 B24 ?_
 refine q35 yX ?_
 have ⟨t25,ht25,h⟩:=bE h
 refine q7 (zG0 ht25) ?_
 refine Q10 ?_
 refine q6 S29 ?_
 refine q36 ?_
 have ⟨b29,hb29,h⟩:=bE h
 refine yK ((zC (lq rfl) rfl).bool (oi hb29)) ?_
 refine q20 (.d (z8 eI t25)) ?_
 refine sqt (.d (z8 eI [16,17,0,32,32])) rfl (fun hb=>by subst hb;exact zI6 (lq rfl) yX rfl rfl rfl rfl (by decide) rfl) ?_
 have ⟨t32,ht32,h⟩:=bE h
 refine sqt (.d (db t32)) rfl (fun hb=>by subst hb;exact uK (lq rfl) rfl (zG1 ht32)) ?_
 refine q16 ?_
 have ⟨b34,hb34,h⟩:=bE h
 refine yK ((zC (lq rfl) rfl).bool (oi hb34)) ?_
 refine sqt (.d (z8 eI [258])) rfl (fun hb=>by subst hb;exact zI6 (lq rfl) yX rfl rfl rfl rfl (by decide) rfl) ?_
 have ⟨t36,ht36,h⟩:=bE h
 refine sqt (.d (ds t36)) rfl (fun hb=>by subst hb;exact uK (lq rfl) rfl (zJU ht36)) ?_
 refine sqt (.d (db (t36== [0,0,1,2]))) rfl (fun hb=>by subst hb;exact zRU (a:=t36) (b:=[0,0,1,2]) (lq rfl) rfl rfl) ?_
 refine q16 ?_
 have ⟨b39,hb39,h⟩:=bE h
 refine yK ((zC (lq rfl) rfl).bool (oi hb39)) ?_
 refine sqt (.d (eOptions.dv ({Strength:=0,Variable:=0,Backward:=false,Identical:=false}:Options))) rfl (fun hb=>by subst hb;exact zDG (lq rfl) B24 rfl rfl) ?_
 have ⟨t41,ht41,h⟩:=bE h
 refine sqt (.d (di t41)) rfl (fun hb=>by subst hb;exact uK (lq rfl) rfl (zCC (gT ht41))) ?_
 refine q62 (.d (db (decide (t41=1)))) ?_
 refine q16 ?_
 have ⟨b44,hb44,h⟩:=bE h
 refine yK ((zC (lq rfl) rfl).bool (oi hb44)) ?_
 refine sqt (.d (eOptions.dv ({Strength:=1,Variable:=0,Backward:=false,Identical:=false}:Options))) rfl (fun hb=>by subst hb;exact zDG (lq rfl) B24 rfl rfl) ?_
 have ⟨t46,ht46,h⟩:=bE h
 refine sqt (.d (di t46)) rfl (fun hb=>by subst hb;exact uK (lq rfl) rfl (zCC (gT ht46))) ?_
 refine q62 (.d (db (decide (t46=8)))) ?_
 refine Q35 ?_
 cases h
 refine zB ?_
 exact zL rfl
theorem zL0 {a0 r} (h:zB4 a0=some r):zG Tryd.prog 27 [(eNorm.dv a0)] [(db r)]:=by
 refine co Tryd.func27 ?_;intro _ _ _ _
 unfold zB4 at h
 refine Q44 ?_
 refine Q48 ?_
 refine q5 zM6 ?_
 refine q3 O39 ?_
 refine q6 S39 ?_
 refine q40 ?_
 have ⟨b8,hb8,h⟩:=bE h
 refine yK ((zC (lq rfl) rfl).bool (oi hb8)) ?_
 refine q18 (.ip (eNorm.cells a0) (0+1)) zM7 ?_
 refine q19 (.d (z8 eMapping a0.Decomp)) O40 ?_
 refine q53 (.d (di (a0.Decomp.length:Int))) S40 ?_
 refine q32 (.d (db (decide (40 < (a0.Decomp.length:Int))))) ?_
 refine q12 ?_
 have ⟨b14,hb14,h⟩:=bE h
 refine yK ((zC (lq rfl) rfl).bool (oi hb14)) ?_
 refine q18 (.ip (eNorm.cells a0) (0+2)) z3L ?_
 refine q92 (.ip (eNorm.cells a0) (0+2+0)) zM5 ?_
 refine q19 (.d (z8 eRange a0.Excluded.Ranges)) O41 ?_
 refine q53 (.d (di (a0.Excluded.Ranges.length:Int))) S41 ?_
 refine q32 (.d (db (decide (12 < (a0.Excluded.Ranges.length:Int))))) ?_
 refine Q26 ?_
 refine yY h (fun h=>?_) (fun h=>?_)
 refine Q3 ?_
 cases h
 refine zB ?_
 exact zL rfl
 refine Q91 ?_
 have ⟨y1,hy1,h⟩:=bE h
 refine yB y1 (.exit 0) (fun y1=>⟨[],[]⟩) .ret (fun y1=>⟨[(2,.d (db y1))],[]⟩) ?_ ?_ ?_
 refine zE (fun x=>⟨[(1,.d (.pt (eNorm.cells a0))),(3,.d (di x))],[]⟩) hy1 (wc) ?_
 rintro v3 sy1 p1
 replace p1:xP a0 v3=some sy1:=p1
 unfold xP at p1
 refine Q4 ?_
 refine Q71 ?_
 refine q6 S40 ?_
 refine Q7 ?_
 refine yY p1 (fun p1=>?_) (fun p1=>?_)
 refine Q25 ?_
 refine Q71 ?_
 refine q0 ?_
 have ⟨t31,ht31,p1⟩:=bE p1
 refine q14 S40 ht31 ?_
 refine q90 zM9 ?_
 refine yK (wU (en:=eMapping) (l:=a0.Decomp) (i:=v3) (v:=t31) (off:=1) (lq rfl) O32 rfl ht31 rfl) ?_
 refine q6 yX ?_
 refine q40 ?_
 have ⟨b36,hb36,p1⟩:=bE p1
 refine yK ((zC (lq rfl) rfl).bool (oi hb36)) ?_
 refine q18 (.ip (eNorm.cells a0) (0+1)) zM7 ?_
 refine q19 (.d (z8 eMapping a0.Decomp)) O40 ?_
 refine q21 (.d (di v3)) ?_
 have ⟨t40,ht40,p1⟩:=bE p1
 refine sqf (.ip (eMapping.all a0.Decomp) (v3.toNat*eMapping.size)) rfl (fun hb=>by subst hb;exact zBV (en:=eMapping) (lq rfl) S40 rfl rfl ht40) ?_
 refine q92 (.ip (eMapping.all a0.Decomp) (v3.toNat*eMapping.size+2)) zHY ?_
 refine sqf (.d (ds t40.Tag)) rfl (fun hb=>by subst hb;exact wU (en:=eMapping) (l:=a0.Decomp) (i:=v3) (v:=t40) (off:=2) (lq rfl) O9 rfl ht40 rfl) ?_
 refine sqf (.d (di (t40.Tag.length:Int))) rfl (fun hb=>by subst hb;exact zIL (s:=t40.Tag) (lq rfl) Tryd.underlying9 rfl) ?_
 refine q32 (.d (db (decide (40 < (t40.Tag.length:Int))))) ?_
 refine Q26 ?_
 refine yY p1 (fun p1=>?_) (fun p1=>?_)
 refine Q22 ?_
 cases p1
 intro q;cases q
 exact ⟨rfl,wc⟩
 refine Q59 ?_
 cases p1
 exact wc
 refine zH ?_
 cases p1
 intro q;cases q
 exact ⟨rfl,wc⟩
 rintro y1 rfl
 replace h:=eL h
 refine Q3 ?_
 cases h
 refine zB ?_
 exact zL rfl
 rintro y1 rfl
 replace h:=eR h
 cases h
 exact zL rfl
theorem zFC {a0 r} (h:x9 a0=some r):zG Tryd.prog 32 [(z8 eElement a0)] [(db r)]:=by
 refine co Tryd.func32 ?_;intro _ _ _ _
 unfold x9 at h
 refine Q54 ?_
 refine q6 S22 ?_
 refine q66 ?_
 refine Q1 ?_
 cases h
 refine zB ?_
 exact zL rfl
theorem zQJ {a0 r} (h:zD5 a0=some r):zG Tryd.prog 28 [(eCollation.dv a0)] [(db r)]:=by
 refine co Tryd.func28 ?_;intro _ _ _ _
 unfold zD5 at h
 refine Q0 ?_
 refine q83 ?_
 refine Q48 ?_
 refine q5 zKY ?_
 refine q3 O46 ?_
 refine q6 S46 ?_
 refine q40 ?_
 have ⟨b9,hb9,h⟩:=bE h
 refine yK ((zC (lq rfl) rfl).bool (oi hb9)) ?_
 refine q18 (.ip (eCollation.cells a0) (0+1)) zJF ?_
 refine q19 (.d (z8 eGroup a0.Groups)) O47 ?_
 refine q53 (.d (di (a0.Groups.length:Int))) S47 ?_
 refine q32 (.d (db (decide (8 < (a0.Groups.length:Int))))) ?_
 refine Q26 ?_
 refine yY h (fun h=>?_) (fun h=>?_)
 refine Q3 ?_
 cases h
 refine zB ?_
 exact zL rfl
 refine Q91 ?_
 have ⟨y1,hy1,h⟩:=bE h
 refine yB y1 (.exit 0) (fun y1=>⟨[(1,.d (.pt (eCollation.cells a0)))],[]⟩) .ret (fun y1=>⟨[(2,.d (db y1))],[]⟩) ?_ ?_ ?_
 refine zE (fun x=>⟨[(1,.d (.pt (eCollation.cells a0))),(3,.d (di x))],[]⟩) hy1 (wc) ?_
 rintro v3 sy1 p1
 replace p1:vL a0 v3=some sy1:=p1
 unfold vL at p1
 refine Q4 ?_
 refine q5 zKY ?_
 refine q3 O46 ?_
 refine q6 S46 ?_
 refine Q7 ?_
 refine yY p1 (fun p1=>?_) (fun p1=>?_)
 refine Q25 ?_
 refine q5 zKY ?_
 refine q3 O46 ?_
 refine q0 ?_
 have ⟨t25,ht25,p1⟩:=bE p1
 refine q14 S46 ht25 ?_
 refine q90 zJG ?_
 refine yK (wU (en:=eEntry) (l:=a0.Entries) (i:=v3) (v:=t25) (off:=0) (lq rfl) O32 rfl ht25 rfl) ?_
 refine q6 yX ?_
 refine q40 ?_
 have ⟨b30,hb30,p1⟩:=bE p1
 refine yK ((zC (lq rfl) rfl).bool (oi hb30)) ?_
 refine q18 (.ip (eCollation.cells a0) (0+0)) zKY ?_
 refine q19 (.d (z8 eEntry a0.Entries)) O46 ?_
 refine q21 (.d (di v3)) ?_
 have ⟨t34,ht34,p1⟩:=bE p1
 refine sqf (.ip (eEntry.all a0.Entries) (v3.toNat*eEntry.size)) rfl (fun hb=>by subst hb;exact zBV (en:=eEntry) (lq rfl) S46 rfl rfl ht34) ?_
 refine q92 (.ip (eEntry.all a0.Entries) (v3.toNat*eEntry.size+1)) zQD ?_
 refine sqf (.d (z8 eElement t34.Elements)) rfl (fun hb=>by subst hb;exact wU (en:=eEntry) (l:=a0.Entries) (i:=v3) (v:=t34) (off:=1) (lq rfl) O22 rfl ht34 rfl) ?_
 have ⟨t37,ht37,p1⟩:=bE p1
 refine sqf (.d (db t37)) rfl (fun hb=>by subst hb;exact uK (lq rfl) rfl (zFC ht37)) ?_
 refine q88 (.d (db (!t37))) ?_
 refine Q26 ?_
 refine yY p1 (fun p1=>?_) (fun p1=>?_)
 refine Q22 ?_
 cases p1
 intro q;cases q
 exact ⟨rfl,wc⟩
 refine Q59 ?_
 cases p1
 exact wc
 refine zH ?_
 cases p1
 intro q;cases q
 exact ⟨rfl,wc⟩
 rintro y1 rfl
 replace h:=eL h
 refine Q66 ?_
 have ⟨y2,hy2,h⟩:=bE h
 refine yB y2 (.exit 2) (fun y2=>⟨[],[]⟩) .ret (fun y2=>⟨[(2,.d (db y2))],[]⟩) ?_ ?_ ?_
 refine zE (fun x=>⟨[(1,.d (.pt (eCollation.cells a0))),(4,.d (di x))],[]⟩) hy2 (wc) ?_
 rintro v4 sy2 p2
 replace p2:uN a0 v4=some sy2:=p2
 unfold uN at p2
 refine Q4 ?_
 refine q5 zJF ?_
 refine q3 O47 ?_
 refine q6 S47 ?_
 refine Q7 ?_
 refine yY p2 (fun p2=>?_) (fun p2=>?_)
 refine Q25 ?_
 refine q5 zJF ?_
 refine q3 O47 ?_
 refine q0 ?_
 have ⟨t50,ht50,p2⟩:=bE p2
 refine q14 S47 ht50 ?_
 refine q90 zTG ?_
 refine yK (wU (en:=eGroup) (l:=a0.Groups) (i:=v4) (v:=t50) (off:=0) (lq rfl) O9 rfl ht50 rfl) ?_
 refine yK (zIL (s:=t50.Name) (lq rfl) Tryd.underlying9 rfl) ?_
 refine Q46 ?_
 refine yY p2 (fun p2=>?_) (fun p2=>?_)
 refine Q22 ?_
 cases p2
 intro q;cases q
 exact ⟨rfl,wc⟩
 refine Q59 ?_
 cases p2
 exact wc
 refine zH ?_
 cases p2
 intro q;cases q
 exact ⟨rfl,wc⟩
 rintro y2 rfl
 replace h:=eL h
 refine Q3 ?_
 cases h
 refine zB ?_
 exact zL rfl
 rintro y2 rfl
 replace h:=eR h
 cases h
 exact zL rfl
 rintro y1 rfl
 replace h:=eR h
 cases h
 exact zL rfl
theorem zL1 {a0 r} (h:zB5 a0=some r):zG Tryd.prog 18 [(eUnicodetextlaw44_Data.dv a0)] [(db r)]:=by
 refine co Tryd.func18 ?_;intro _ _ _ _
 unfold zB5 at h
 refine Q0 ?_
 refine yK (zHS (size:=12) (lq rfl) rfl rfl) ?_
 refine Q45 ?_
 refine q5 zQB ?_
 refine yK (zCX (lq rfl) G45 rfl rfl rfl) ?_
 have ⟨t5,ht5,h⟩:=bE h
 refine q7 (zL0 ht5) ?_
 have ⟨b6,hb6,h⟩:=bE h
 refine yK ((zC (lq rfl) rfl).bool (oi hb6)) ?_
 refine q52 (.ip (eUnicodetextlaw44_Data.cells a0) (0+3)) zQC ?_
 refine sqt (.d (eCollation.dv a0.Collation)) rfl (fun hb=>by subst hb;exact zCX (lq rfl) G49 rfl rfl rfl) ?_
 have ⟨t9,ht9,h⟩:=bE h
 refine sqt (.d (db t9)) rfl (fun hb=>by subst hb;exact uK (lq rfl) rfl (zQJ ht9)) ?_
 refine Q35 ?_
 cases h
 refine zB ?_
 exact zL rfl
theorem zAN {a0 a1 a2 a3 a4 r} (h:jW a0 a1 a2 a3 a4=some r):zG Tryd.prog 19 [(eNorm.dv a0),(eCollation.dv a1),(eOptions.dv a2),(z8 eI a3),(di a4)] [(z8 eI r)]:=by
 refine co Tryd.func19 ?_;intro _ _ _ _
 unfold jW at h
 refine Q44 ?_
 refine q83 ?_
 refine q75 ?_
 refine Q10 ?_
 refine q41 zTA ?_
 refine q38 O3 ?_
 refine Q34 ?_
 refine q41 z3I ?_
 refine q38 O4 ?_
 refine Q34 ?_
 refine q33 G45 ?_
 refine q33 G49 ?_
 refine yK ((k9 (lq rfl) G24 rfl rfl rfl rfl).data rfl) ?_
 refine q0 ?_
 have ⟨t18,ht18,h⟩:=bE h
 refine q7 (zG0 ht18) ?_
 refine Q1 ?_
 cases h
 refine zB ?_
 exact zL rfl
theorem zBF {a0 a1 r} (h:vM a0 a1=some r):zG Tryd.prog 20 [(z8 eI a0),(z8 eI a1)] [(db r)]:=by
 refine co Tryd.func20 ?_;intro _ _ _ _
 unfold vM at h
 refine Q54 ?_
 refine q6 yX ?_
 refine q0 ?_
 refine q6 yX ?_
 refine q66 ?_
 have ⟨b10,hb10,h⟩:=bE h
 refine yK ((zC (lq rfl) rfl).bool (oi hb10)) ?_
 refine q20 (.d (z8 eI a0)) ?_
 refine q20 (.d (z8 eI a1)) ?_
 refine z1Y (.d (di (a1.length:Int))) yX ?_
 have ⟨t14,ht14,h⟩:=bE h
 refine sqt (.d (z8 eI t14)) rfl (fun hb=>by subst hb;exact zXK (en:=eI) (lq rfl) yX rfl rfl ht14) ?_
 refine q20 (.d (z8 eI a1)) ?_
 have ⟨t16,ht16,h⟩:=bE h
 refine sqt (.d (db t16)) rfl (fun hb=>by subst hb;exact uK (lq rfl) rfl (zG1 ht16)) ?_
 refine Q35 ?_
 cases h
 refine zB ?_
 exact zL rfl
set_option maxRecDepth 40000 in
theorem law44_SortkeyRemains_c {a0 a1 r} (h:vN a0 a1=some r):zG Tryd.prog 7 [(eUnicodetextlaw44_Data.dv a0),(eUnicodetextlaw44_Pair.dv a1)] [(db r)]:=by
 refine co Tryd.func7 ?_;intro _ _ _ _
 unfold vN at h
 refine Q0 ?_
 refine yK (zHS (size:=12) (lq rfl) rfl rfl) ?_
 refine q61 ?_
 refine Q48 ?_
 refine q33 G51 ?_
 have ⟨t11,ht11,h⟩:=bE h
 refine q7 (zL1 ht11) ?_
 refine q39 ?_
 have ⟨b13,hb13,h⟩:=bE h
 refine yK ((zC (lq rfl) rfl).bool (oi hb13)) ?_
 refine q18 (.ip (eUnicodetextlaw44_Pair.cells a1) (0+0)) zX4 ?_
 refine q19 (.d (z8 eI a1.A)) O32 ?_
 refine q53 (.d (di (a1.A.length:Int))) yX ?_
 refine q32 (.d (db (decide (10 < (a1.A.length:Int))))) ?_
 refine q12 ?_
 have ⟨b19,hb19,h⟩:=bE h
 refine yK ((zC (lq rfl) rfl).bool (oi hb19)) ?_
 refine q18 (.ip (eUnicodetextlaw44_Pair.cells a1) (0+1)) zX5 ?_
 refine q19 (.d (z8 eI a1.B)) O32 ?_
 refine q53 (.d (di (a1.B.length:Int))) yX ?_
 refine q32 (.d (db (decide (10 < (a1.B.length:Int))))) ?_
 refine q12 ?_
 have ⟨b25,hb25,h⟩:=bE h
 refine yK ((zC (lq rfl) rfl).bool (oi hb25)) ?_
 refine q18 (.ip (eUnicodetextlaw44_Pair.cells a1) (0+2)) zTE ?_
 refine q19 (.d (di a1.Low)) O3 ?_
 refine q84 (.d (db (decide (a1.Low < 1)))) ?_
 refine q12 ?_
 have ⟨b30,hb30,h⟩:=bE h
 refine yK ((zC (lq rfl) rfl).bool (oi hb30)) ?_
 refine q18 (.ip (eUnicodetextlaw44_Pair.cells a1) (0+3)) zTF ?_
 refine q19 (.d (di a1.High)) O3 ?_
 refine q32 (.d (db (decide (4 < a1.High)))) ?_
 refine q12 ?_
 have ⟨b35,hb35,h⟩:=bE h
 refine yK ((zC (lq rfl) rfl).bool (oi hb35)) ?_
 refine q18 (.ip (eUnicodetextlaw44_Pair.cells a1) (0+2)) zTE ?_
 refine q19 (.d (di a1.Low)) O3 ?_
 refine q18 (.ip (eUnicodetextlaw44_Pair.cells a1) (0+3)) zTF ?_
 refine q19 (.d (di a1.High)) O3 ?_
 refine q32 (.d (db (decide (a1.High < a1.Low)))) ?_
 refine q12 ?_
 have ⟨b42,hb42,h⟩:=bE h
 refine yK ((zC (lq rfl) rfl).bool (oi hb42)) ?_
 refine q18 (.ip (eUnicodetextlaw44_Data.cells a0) (0+8)) zM8 ?_
 refine q92 (.ip (eUnicodetextlaw44_Data.cells a0) (0+8+1)) zTB ?_
 refine q19 (.d (di a0.Options.Variable)) O3 ?_
 refine q84 (.d (db (decide (a0.Options.Variable < 1)))) ?_
 refine q12 ?_
 have ⟨b48,hb48,h⟩:=bE h
 refine yK ((zC (lq rfl) rfl).bool (oi hb48)) ?_
 refine q18 (.ip (eUnicodetextlaw44_Data.cells a0) (0+8)) zM8 ?_
 refine q92 (.ip (eUnicodetextlaw44_Data.cells a0) (0+8+1)) zTB ?_
 refine q19 (.d (di a0.Options.Variable)) O3 ?_
 refine q32 (.d (db (decide (3 < a0.Options.Variable)))) ?_
 refine Q26 ?_
 refine yY h (fun h=>?_) (fun h=>?_)
 refine Q0 ?_
 have ⟨t54,ht54,h⟩:=bE h
 refine q7 (zG2 ht54) ?_
 refine Q1 ?_
 cases h
 refine zB ?_
 exact zL rfl
 refine Q5 ?_
 refine kH MX rfl ?_
 refine q17 zQB ?_
 refine q58 G45 ?_
 refine q17 zQC ?_
 refine q58 G49 ?_
 refine q17 zM8 ?_
 refine q58 G24 ?_
 refine q17 zX4 ?_
 refine q27 O32 ?_
 refine q17 zTE ?_
 refine q27 O3 ?_
 have ⟨t65,ht65,h⟩:=bE h
 refine q26 (zAN ht65) ?_
 refine q17 zQB ?_
 refine q58 G45 ?_
 refine q17 zQC ?_
 refine q58 G49 ?_
 refine q17 zM8 ?_
 refine q58 G24 ?_
 refine q17 zX5 ?_
 refine q27 O32 ?_
 refine q17 zTE ?_
 refine q27 O3 ?_
 have ⟨t76,ht76,h⟩:=bE h
 refine q26 (zAN ht76) ?_
 refine q43 ?_
 refine Q50 ?_
 refine kQ ?_
 refine kH MX rfl ?_
 refine q17 zQB ?_
 refine q58 G45 ?_
 refine q17 zQC ?_
 refine q58 G49 ?_
 refine q17 zM8 ?_
 refine q58 G24 ?_
 refine q17 zX4 ?_
 refine q27 O32 ?_
 refine q17 zTF ?_
 refine q27 O3 ?_
 have ⟨t87,ht87,h⟩:=bE h
 refine q26 (zAN ht87) ?_
 refine q17 zQB ?_
 refine q58 G45 ?_
 refine q17 zQC ?_
 refine q58 G49 ?_
 refine q17 zM8 ?_
 refine q58 G24 ?_
 refine q17 zX5 ?_
 refine q27 O32 ?_
 refine q17 zTF ?_
 refine q27 O3 ?_
 have ⟨t98,ht98,h⟩:=bE h
 refine q26 (zAN ht98) ?_
 refine q43 ?_
 refine Q50 ?_
 refine Q14 ?_
 have ⟨t101,ht101,h⟩:=bE h
 refine q7 (zBF ht101) ?_
 refine q39 ?_
 have ⟨b103,hb103,h⟩:=bE h
 refine yK ((zC (lq rfl) rfl).bool (oi hb103)) ?_
 refine q21 (.d (z8 eI t98)) ?_
 refine q21 (.d (z8 eI t76)) ?_
 have ⟨t106,ht106,h⟩:=bE h
 refine sqf (.d (db t106)) rfl (fun hb=>by subst hb;exact uK (lq rfl) rfl (zBF ht106)) ?_
 refine q88 (.d (db (!t106))) ?_
 refine Q26 ?_
 refine yY h (fun h=>?_) (fun h=>?_)
 refine Q3 ?_
 cases h
 refine zB ?_
 exact zL rfl
 refine zI<|Q28 ?_
 have ⟨t111,ht111,h⟩:=bE h
 refine q7 (zCD ht111) ?_
 refine Q10 ?_
 refine q36 ?_
 have ⟨b114,hb114,h⟩:=bE h
 refine yK ((zC (lq rfl) rfl).bool (oi hb114)) ?_
 refine q21 (.d (z8 eI t65)) ?_
 refine q21 (.d (z8 eI t76)) ?_
 have ⟨t117,ht117,h⟩:=bE h
 refine sqf (.d (db t117)) rfl (fun hb=>by subst hb;exact uK (lq rfl) rfl (zBF ht117)) ?_
 refine q12 ?_
 have ⟨b119,hb119,h⟩:=bE h
 refine yK ((zC (lq rfl) rfl).bool (oi hb119)) ?_
 refine q21 (.d (z8 eI t76)) ?_
 refine q21 (.d (z8 eI t65)) ?_
 have ⟨t122,ht122,h⟩:=bE h
 refine sqf (.d (db t122)) rfl (fun hb=>by subst hb;exact uK (lq rfl) rfl (zBF ht122)) ?_
 refine q12 ?_
 have ⟨b124,hb124,h⟩:=bE h
 refine yK ((zC (lq rfl) rfl).bool (oi hb124)) ?_
 refine q21 (.d (z8 eI t87)) ?_
 refine q21 (.d (z8 eI t98)) ?_
 have ⟨t127,ht127,h⟩:=bE h
 refine sqf (.d (di t127)) rfl (fun hb=>by subst hb;exact uK (lq rfl) rfl (zCD ht127)) ?_
 refine q21 (.d (di t111)) ?_
 refine q82 (.d (db (decide (t127=t111)))) ?_
 refine q12 ?_
 have ⟨b131,hb131,h⟩:=bE h
 refine yK ((zC (lq rfl) rfl).bool (oi hb131)) ?_
 have ⟨t132,ht132,h⟩:=bE h
 refine sqt (.d (db t132)) rfl (fun hb=>by subst hb;exact uK (lq rfl) rfl (zG2 ht132)) ?_
 refine Q35 ?_
 cases h
 refine zB ?_
 exact zL rfl
end Go.Proofs.YtjcbhabmkcdcnaaDoor.Walk


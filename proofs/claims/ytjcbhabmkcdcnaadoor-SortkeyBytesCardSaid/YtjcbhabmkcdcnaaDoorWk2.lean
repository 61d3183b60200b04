/- Each function of the program answers as its plain counterpart does, where that answers. Conditions: none. -/
import Derived.Test.YtjcbhabmkcdcnaaDoorMir
import Derived.Test.YtjcbhabmkcdcnaaDoorLa3
import Derived.Test.YtjcbhabmkcdcnaaDoorProg
import Derived.Test.YtjcbhabmkcdcnaaDoorWk1
set_option linter.unusedSimpArgs false
set_option linter.unusedVariables false
set_option linter.unnecessarySimpa false
namespace Go.Proofs.YtjcbhabmkcdcnaaDoor.Walk
open Go.AV Go.M Go.RowKit Go.Proofs
theorem zHU {a0} {a1} {a2} {r:(List Int)} (h:jT a0 a1 a2=some r):GC Tryd.prog 30 [.d (eNorm.dv a0),.d (yE eI a1),.d (db a2)] [] [] [.row 2531] [(2531,.row 3 eI.size false (eI.all r))]:=by
 refine zAO Tryd.func30 (by kernel_rfl) rfl (lq rfl) (lq rfl) fun w0 I0 hG0 p0=>?_
 unfold jT at h
 refine Q0 ?_
 refine q75 ?_
 refine Q45 ?_
 refine yR ((jF (lq rfl) G45 rfl rfl rfl rfl).data rfl) ?_
 have ⟨t12,ht12,h⟩:=bE h
 refine q7 (zCJ ht12) ?_
 refine q13 G45 ?_
 refine Q34 ?_
 refine yR ((jF (lq rfl) G45 rfl rfl rfl rfl).data rfl) ?_
 refine q0 ?_
 have ⟨t15,ht15,h⟩:=bE h
 refine kK rfl (zM2 [(5,2515),(6,3015),(7,3515)] (zBM ht15) (lq rfl) (by decide) ⟨rfl,rfl,trivial⟩ rfl rfl trivial rfl rfl rfl (fun _=>rfl) rfl) ?_
 refine q98 ?_
 refine zE<|Q3 ?_
 refine zM (uR (t:=8) 1008 3 eI.size (lq rfl) (lq rfl) rfl rfl) ?_
 refine Q4 ?_
 refine Q58 ?_
 have ⟨y1,hy1,h⟩:=bE h
 refine tl (.exit 0) ⟨[(3,.ptr 3 0),(8,.row 1008)],[(3,.box 45 [.d (yE eSpan t12.Classes),.d (yE eMapping t12.Decomp),.d (yE eRange t12.Excluded.Ranges)]),(1008,.row 3 eI.size false (eI.all y1))]⟩ ?_ ?_
 refine zF (fun x=>⟨[(3,.ptr 3 0),(7,.clo 45 [.ptr 2515 0,.d (.pt (eNorm.cells ({Classes:=t12.Classes,Decomp:=t12.Decomp,Excluded:=({Ranges:=t12.Excluded.Ranges}:Set)}:Norm))),.d (.pt [(db a2)]),.ptr 3015 0]),(8,.row 1008),(16,.d (yE eI a1)),(17,.d (di (a1.length:Int))),(18,.d (di x.1))],[(3,.box 45 [.d (yE eSpan t12.Classes),.d (yE eMapping t12.Decomp),.d (yE eRange t12.Excluded.Ranges)]),(1008,.row 3 eI.size false (eI.all x.2.1)),(2515,.box 104 [.row 3515]),(3015,.box 87 [.clo 45 [.ptr 2515 0,.d (.pt (eNorm.cells ({Classes:=t12.Classes,Decomp:=t12.Decomp,Excluded:=({Ranges:=t12.Excluded.Ranges}:Set)}:Norm))),.d (.pt [(db a2)]),.ptr 3015 0]]),(3515,.map (xK kI (eL eI) x.2.2))]⟩) hy1 (wc) ?_
 rintro ⟨v18,r1008,r3515⟩ sy1 p1
 replace p1:k8 a1 t12 a2 v18 r1008 r3515=some sy1:=p1
 unfold k8 at p1
 refine Q13 ?_
 refine yV p1 (fun p1=>?_) (fun p1=>?_)
 refine Q25 ?_
 have ⟨t20,ht20,p1⟩:=bE p1
 refine q14 yT ht20 ?_
 refine q49 O3 ht20 ?_
 refine Q1 ?_
 refine Q29 ?_
 refine yR (zAN (lq rfl) rfl) ?_
 refine q0 ?_
 have ⟨t25,ht25,p1⟩:=bE p1
 refine kK rfl (zI0 [(3001,2515),(3004,3015),(3120,3515)] (zAY _ ht25) (lq rfl) (by decide) rfl ⟨rfl,rfl,rfl,rfl,rfl,trivial⟩ rfl rfl ⟨rfl,rfl,rfl,trivial⟩ rfl rfl rfl (fun _=>rfl) rfl) ?_
 have ⟨r1008_2,hr1008_2,p1⟩:=bE p1
 refine q34 yT hr1008_2 ?_
 refine Q19 ?_
 refine Q16 ?_
 cases p1
 exact wc
 refine zI ?_
 cases p1
 intro q;cases q
 exact zG (wc)
 refine Q0 ?_
 refine q41 zPC ?_
 refine q24 O39 ?_
 refine q9 ?_
 refine zFH (zCE (t:=30) (lq rfl) rfl rfl) ?_ (by simp)
 have ⟨t31,ht31,h⟩:=bE h
 refine kK rfl (zA7 [(100,2531)] (zEL ht31) (lq rfl) (by decide) ⟨rfl,rfl,trivial⟩ rfl rfl trivial rfl rfl rfl (fun _=>rfl) rfl) ?_
 refine Q19 ?_
 cases h
 refine zB ?_
 exact ⟨⟨_,_,rfl,rfl,rfl⟩,⟨rfl,trivial⟩⟩
theorem uC {a0 a1 r} (h:kP a0 a1=some r):zJ Tryd.prog 42 [(.pt (eColltable_table.cells a0)),(yE eI a1)] [(yE eElement r.1),(db r.2)]:=by
 refine co Tryd.func42 ?_;intro _ _ _ _
 unfold kP at h
 refine Q0 ?_
 refine Q90 ?_
 refine q6 yT ?_
 refine q36 ?_
 have ⟨b11,hb11,h⟩:=bE h
 refine yR ((zC (lq rfl) rfl).bool (oi hb11)) ?_
 refine q21 (.d (yE eI a1)) ?_
 refine q53 (.d (di (a1.length:Int))) yT ?_
 refine q21 (.d (.pt (eColltable_table.cells a0))) ?_
 refine sqf (.d (.pt (eColltable_table.cells a0))) rfl (fun hb=>by subst hb;exact zCG (lq rfl) rfl) ?_
 refine q18 (.ip (eColltable_table.cells a0) (0+6)) zR8 ?_
 refine q19 (.d (di a0.longest)) O3 ?_
 refine q32 (.d (db (decide (a0.longest < (a1.length:Int))))) ?_
 refine Q26 ?_
 refine yV h (fun h=>?_) (fun h=>?_)
 refine Q0 ?_
 refine Q24 ?_
 refine zM (zDX (t:=4) eElement.size (lq rfl) rfl) ?_
 cases h
 refine zB ?_
 exact zDY rfl rfl
 refine Q5 ?_
 refine kL MX rfl ?_
 refine q8 ?_
 refine q97 ?_
 refine q17 z15 ?_
 refine q27 O91 ?_
 refine q8 ?_
 have ⟨t26,ht26,h⟩:=bE h
 refine q26 (zC1 ht26) ?_
 refine u5 (zQV (kv:=zA9) (ev:=(eL eElement)) (mp:=a0.entries) (k:=t26) (zero:=[]) (lq rfl) M91 K95 rfl rfl (zZP rfl) (fun _ _=> .nil _ _ _)) ?_
 refine u5 (zJO (lq rfl) rfl) ?_
 refine u5 (zHJ (lq rfl) rfl rfl) ?_
 refine u5 (zHJ (lq rfl) rfl rfl) ?_
 refine q43 ?_
 refine Q50 ?_
 refine Q28 ?_
 refine Q24 ?_
 cases h
 refine zB ?_
 exact zDY rfl rfl
theorem zCM {a0 a1 r} (h:k4 a0 a1=some r):zJ Tryd.prog 43 [(.pt (eColltable_table.cells a0)),(di a1)] [(yE eElement r)]:=by
 refine co Tryd.func43 ?_;intro _ _ _ _
 unfold k4 at h
 refine Q39 ?_
 have ⟨t6,ht6,h⟩:=bE h
 refine q7 (uM ht6) ?_
 refine Q41 ?_
 refine yV h (fun h=>?_) (fun h=>?_)
 refine Q3 ?_
 refine zM (zDX (t:=4) eElement.size (lq rfl) rfl) ?_
 cases h
 refine zB ?_
 exact zN rfl
 refine Q5 ?_
 refine kL MX rfl ?_
 refine q8 ?_
 refine q97 ?_
 refine q17 zWX ?_
 refine q94 zPE ?_
 refine q27 O3 ?_
 refine q8 ?_
 have ⟨t14,ht14,h⟩:=bE h
 refine u5 (zRT (lq rfl) rfl rfl ht14) ?_
 refine z0J ?_
 refine q8 ?_
 refine q97 ?_
 refine q17 zWX ?_
 refine q94 z13 ?_
 refine q27 O3 ?_
 refine q8 ?_
 refine q97 ?_
 refine q17 zWX ?_
 refine q94 z14 ?_
 refine q27 O3 ?_
 refine u5 (zCX (lq rfl) B37 rfl rfl) ?_
 refine q8 ?_
 have ⟨t28,ht28,h⟩:=bE h
 refine u5 (z1T (lq rfl) rfl rfl ht28) ?_
 refine z0J ?_
 refine u5 (zCX (lq rfl) B37 rfl rfl) ?_
 refine u5 (zH5 (lq rfl) S22 rfl rfl rfl rfl (by decide) rfl) ?_
 refine Q50 ?_
 cases h
 refine zB ?_
 exact zN rfl
theorem zCQ {a0 a1 a2 r} (h:jP a0 a1 a2=some r):zJ Tryd.prog 66 [(di a0),(.pt [(.pt (eColltable_table.cells a1))]),(.pt [(di a2)])] [(db r)]:=by
 refine co Tryd.func66 ?_;intro _ _ _ _
 unfold jP at h
 refine Q3 ?_
 refine kT ?_
 refine kL MX rfl ?_
 refine zXB O81 ?_
 refine q97 ?_
 refine q17 zJ2 ?_
 refine q27 O39 ?_
 refine q8 ?_
 have ⟨t10,ht10,h⟩:=bE h
 refine q42 S39 ht10 ?_
 refine q94 zJ4 ?_
 refine u5 (u2 (en:=eSpan) (l:=a1.classes) (i:=a0) (v:=t10) (off:=1) (lq rfl) O3 rfl ht10 rfl) ?_
 refine zXB O3 ?_
 refine u5 (zJK (lq rfl) rfl rfl) ?_
 refine Q50 ?_
 cases h
 refine zB ?_
 exact zN rfl
theorem zK2 {fv1:DV} {a0:Int} {a1:Int→Option (Bool)} (hf1:∀x0 y,a1 x0=some y→FnC Tryd.prog fv1 [(di x0)] [(db y)]) {r:Int} (h:zCZ a0 a1=some r):zJ Tryd.prog 65 [(di a0),fv1] [(di r)]:=by
 refine co Tryd.func65 ?_;intro _ _ _ _
 unfold zCZ at h
 refine Q54 ?_
 refine Q24 ?_
 refine Q42 ?_
 have ⟨y1,hy1,h⟩:=bE h
 refine tl (.exit 0) ⟨[(5,.d (di y1))],[]⟩ ?_ ?_
 refine zF (fun x=>⟨[(1,.d fv1),(5,.d (di x.1)),(6,.d (di x.2))],[]⟩) hy1 (wc) ?_
 rintro ⟨v5,v6⟩ sy1 p1
 replace p1:vP a1 v5 v6=some sy1:=p1
 unfold vP at p1
 refine Q49 ?_
 refine yV p1 (fun p1=>?_) (fun p1=>?_)
 refine zH ?_
 have ⟨y2,hy2,p1⟩:=bE p1
 refine tl .normal ⟨[(1,.d fv1),(5,.d (di y2.1)),(6,.d (di y2.2))],[]⟩ ?_ ?_
 refine Q75 ?_
 refine Q89 ?_
 refine Q65 ?_
 have ⟨t20,ht20,hy2⟩:=bE hy2
 refine yR (zBD (lq rfl) rfl rfl (hf1 _ _ ht20)) ?_
 refine Q41 ?_
 refine yV hy2 (fun hy2=>?_) (fun hy2=>?_)
 refine Q21 ?_
 cases hy2
 exact zG (wc)
 refine Q68 ?_
 cases hy2
 exact zG (wc)
 cases p1
 exact wc
 refine zI ?_
 cases p1
 intro q;cases q
 exact zG (wc)
 refine Q32 ?_
 cases h
 refine zB ?_
 exact zN rfl
theorem zDM {a0 a1 r} (h:jZ a0 a1=some r):zJ Tryd.prog 44 [(.pt (eColltable_table.cells a0)),(di a1)] [(di r)]:=by
 refine co Tryd.func44 ?_;intro _ _ _ _
 unfold jZ at h
 refine Q0 ?_
 refine q74 ?_
 refine q74 ?_
 refine Q45 ?_
 refine q65 O81 ?_
 refine yR (zCG (lq rfl) rfl) ?_
 refine q5 zJ2 ?_
 refine q3 O39 ?_
 refine q6 S39 ?_
 refine yR (zGC (lq rfl) rfl) ?_
 have ⟨t12,ht12,h⟩:=bE h
 refine q7 (zK2 (fun _ _ q=> .inl ⟨_,_,rfl,zCQ q⟩) ht12) ?_
 refine Q67 ?_
 refine kT ?_
 refine kL MX rfl ?_
 refine q8 ?_
 refine zXB O81 ?_
 refine q97 ?_
 refine q17 zJ2 ?_
 refine q27 O39 ?_
 refine u5 (zLV (en:=eSpan) (l:=a0.classes) (lq rfl) S39 rfl) ?_
 refine zXC ?_
 have ⟨b20,hb20,h⟩:=bE h
 refine u5 ((zC (lq rfl) rfl).bool (oi hb20)) ?_
 refine dat (.d (.pt (eColltable_table.cells a0))) rfl (fun hb=>by subst hb;exact zFJ (lq rfl) O81 rfl) ?_
 refine dat (.d (.pt (eColltable_table.cells a0))) rfl (fun hb=>by subst hb;exact zCG (lq rfl) rfl) ?_
 refine q86 (.ip (eColltable_table.cells a0) (0+7)) zJ2 ?_
 refine q87 (.d (yE eSpan a0.classes)) O39 ?_
 refine q54 (.d (di t12)) ?_
 have ⟨t26,ht26,h⟩:=bE h
 refine dat (.ip (eSpan.all a0.classes) (t12.toNat*eSpan.size)) rfl (fun hb=>by subst hb;exact zCW (en:=eSpan) (lq rfl) S39 rfl rfl ht26) ?_
 refine dat (.ip (eSpan.all a0.classes) (t12.toNat*eSpan.size+0)) rfl (fun hb=>by subst hb;exact vJ (lq rfl) zJ3 rfl) ?_
 refine dat (.d (di t26.Lo)) rfl (fun hb=>by subst hb;exact u2 (en:=eSpan) (l:=a0.classes) (i:=t12) (v:=t26) (off:=0) (lq rfl) O3 rfl ht26 rfl) ?_
 refine dat (.d (di a1)) rfl (fun hb=>by subst hb;exact zFJ (lq rfl) O3 rfl) ?_
 refine dat (.d (db (decide (t26.Lo≤a1)))) rfl (fun hb=>by subst hb;exact zH4 (lq rfl) rfl rfl) ?_
 refine q69 ?_
 refine wR ?_
 refine yV h (fun h=>?_) (fun h=>?_)
 refine Q0 ?_
 refine q65 O81 ?_
 refine yR (zCG (lq rfl) rfl) ?_
 refine q5 zJ2 ?_
 refine q3 O39 ?_
 refine q0 ?_
 have ⟨t37,ht37,h⟩:=bE h
 refine q14 S39 ht37 ?_
 refine q90 zJ5 ?_
 refine yR (u2 (en:=eSpan) (l:=a0.classes) (i:=t12) (v:=t37) (off:=2) (lq rfl) O3 rfl ht37 rfl) ?_
 refine Q1 ?_
 cases h
 refine zB ?_
 exact zN rfl
 refine Q43 ?_
 cases h
 refine zB ?_
 exact zN rfl
theorem zDN {a0} {a1} {r:Int×(List Element)×Bool×(List Int)} (h:j6 a0 a1=some r):GC Tryd.prog 35 [.d (.pt (eColltable_table.cells a0)),.row 3001] [(3001,.win 3 eI.size 0 (eI.all a1))] [3001] [.d (di r.1),.d (yE eElement r.2.1),.d (db r.2.2.1)] [(3001,.win 3 eI.size r.1.toNat (eI.all r.2.2.2))]:=by
 refine zAO Tryd.func35 (by kernel_rfl) rfl (lq rfl) (lq rfl) fun w0 I0 hG0 p0=>?_
 unfold j6 at h
 refine Q0 ?_
 refine q1 ?_
 refine Q53 ?_
 refine yR (zCG (lq rfl) rfl) ?_
 refine q5 zR8 ?_
 refine q3 O3 ?_
 refine q9 ?_
 refine z0I yT ?_
 refine z0E ?_
 refine Q1 ?_
 refine Q42 ?_
 have ⟨y1,hy1,h⟩:=bE h
 refine tl (.exit 0) ⟨[(0,.d (.pt (eColltable_table.cells a0))),(1,.row 3001),(7,.d (di y1))],[(3001,.win 3 eI.size 0 (eI.all a1))]⟩ ?_ ?_
 refine zF (fun x=>⟨[(0,.d (.pt (eColltable_table.cells a0))),(1,.row 3001),(7,.d (di x))],[(3001,.win 3 eI.size 0 (eI.all a1))]⟩) hy1 (wc) ?_
 rintro v7 sy1 p1
 replace p1:kB a1 a0 v7=some sy1:=p1
 unfold kB at p1
 refine Q4 ?_
 refine Q46 ?_
 refine yV p1 (fun p1=>?_) (fun p1=>?_)
 refine zH<|yL<|Q4 ?_
 refine q9 ?_
 refine q0 ?_
 have ⟨t31,ht31,p1⟩:=bE p1
 refine yR (zL1 (en:=eI) (l:=a1) (lq rfl) yT rfl rfl rfl ht31) ?_
 have ⟨t32,ht32,p1⟩:=bE p1
 refine kK rfl (zZR (lq rfl) ⟨_,_,rfl,.d _,⟨_,_,rfl,.front rfl ht31,rfl⟩⟩ (uC ht32)) ?_
 refine yR (zH9 (lq rfl) rfl) ?_
 refine zXD ?_
 refine zXD ?_
 refine yR (zMX (lq rfl)) ?_
 refine Q10 ?_
 refine zE ?_
 refine yV p1 (fun p1=>?_) (fun p1=>?_)
 refine zI ?_
 cases p1
 intro q;cases q
 exact zG (wc)
 refine zH<|Q8 ?_
 refine Q52 ?_
 cases p1
 exact wc
 refine zI ?_
 cases p1
 intro q;cases q
 exact zG (wc)
 refine Q4 ?_
 refine Q63 ?_
 refine yV h (fun h=>?_) (fun h=>?_)
 refine Q2 ?_
 refine q9 ?_
 have ⟨t42,ht42,h⟩:=bE h
 refine yR (zBJ (en:=eI) (l:=a1) (lq rfl) yT rfl rfl rfl ht42) ?_
 refine yR (zD4 (en:=eI) (l:=a1) (i:=(0:Int)) (v:=t42) (lq rfl) O3 rfl rfl ht42 rfl) ?_
 have ⟨t44,ht44,h⟩:=bE h
 refine q7 (zCM ht44) ?_
 refine q1 ?_
 refine Q24 ?_
 refine zM (zQY (id:=3001) ((1:Int).toNat) rfl (Nat.zero_le _)) ?_
 cases h
 refine zB ?_
 exact ⟨⟨_,_,rfl,rfl,⟨_,_,rfl,rfl,⟨_,_,rfl,rfl,rfl⟩⟩⟩,⟨rfl,trivial⟩⟩
 refine zH<|Q39 ?_
 refine Q1 ?_
 refine yL ?_
 have ⟨y2,hy2,h⟩:=bE h
 refine tl (.exit 2) ⟨[(0,.d (.pt (eColltable_table.cells a0))),(1,.row 3001),(7,.d (di y2.1))],[(3001,.win 3 eI.size 0 (eI.all y2.2))]⟩ ?_ ?_
 refine zF (fun x=>⟨[(0,.d (.pt (eColltable_table.cells a0))),(1,.row 3001),(7,.d (di x.1)),(10,.d (di x.2.1)),(11,.d (di x.2.2.1))],[(3001,.win 3 eI.size 0 (eI.all x.2.2.2))]⟩) hy2 (wc) ?_
 rintro ⟨v7,v10,v11,r3001⟩ sy2 p2
 replace p2:yD a0 v7 v10 v11 r3001=some sy2:=p2
 unfold yD at p2
 refine Q4 ?_
 refine q9 ?_
 refine z0I yT ?_
 refine q2 ?_
 have ⟨b50,hb50,p2⟩:=bE p2
 refine yR ((zC (lq rfl) rfl).bool (oi hb50)) ?_
 refine q20 (.d (di v10)) ?_
 refine q20 (.d (.pt (eColltable_table.cells a0))) ?_
 refine sqt (.d (.pt (eColltable_table.cells a0))) rfl (fun hb=>by subst hb;exact zCG (lq rfl) rfl) ?_
 refine q52 (.ip (eColltable_table.cells a0) (0+8)) zWY ?_
 refine q55 (.d (di a0.top)) O3 ?_
 refine q64 (.d (db (decide (v10 < a0.top)))) ?_
 refine Q47 ?_
 refine yV p2 (fun p2=>?_) (fun p2=>?_)
 refine Q5 ?_
 have ⟨y3,hy3,p2⟩:=bE p2
 refine yG y3 (.exit 2) (fun y3=>⟨[(0,.d (.pt (eColltable_table.cells a0))),(1,.row 3001),(7,.d (di v7))],[(3001,.win 3 eI.size 0 (eI.all r3001))]⟩) .normal (fun y3=>⟨[(0,.d (.pt (eColltable_table.cells a0))),(1,.row 3001),(7,.d (di y3.1)),(10,.d (di y3.2.1)),(11,.d (di v11))],[(3001,.win 3 eI.size 0 (eI.all y3.2.2))]⟩) ?_ ?_ ?_
 refine yL<|Q27 ?_
 refine q0 ?_
 have ⟨t62,ht62,hy3⟩:=bE hy3
 refine yR (zBJ (en:=eI) (l:=r3001) (lq rfl) yT rfl rfl rfl ht62) ?_
 refine yR (zD4 (en:=eI) (l:=r3001) (i:=v11) (v:=t62) (lq rfl) O3 rfl rfl ht62 rfl) ?_
 refine Q65 ?_
 have ⟨t66,ht66,hy3⟩:=bE hy3
 refine q7 (zDM ht66) ?_
 refine Q1 ?_
 refine Q4 ?_
 refine Q63 ?_
 refine yV hy3 (fun hy3=>?_) (fun hy3=>?_)
 refine zI ?_
 cases hy3
 exact ⟨rfl,wc⟩
 refine zH<|Q14 ?_
 refine q66 ?_
 refine zE ?_
 refine yV hy3 (fun hy3=>?_) (fun hy3=>?_)
 refine zI ?_
 cases hy3
 exact ⟨rfl,wc⟩
 refine zH<|Q4 ?_
 refine q9 ?_
 refine Q20 ?_
 have ⟨t77,ht77,hy3⟩:=bE hy3
 refine yR (zT9 (en:=eI) (l:=r3001) (lq rfl) yT rfl rfl rfl rfl ht77) ?_
 refine q0 ?_
 refine q35 yT ?_
 have ⟨r80_4,hr80_4,hy3⟩:=bE hy3
 refine kK rfl (zUA (en:=eI) (l:=r3001) (b:=v7) (lq rfl) yT rfl rfl ht77 rfl (by simp) hr80_4 (by decide) rfl) ?_
 have ⟨t81,ht81,hy3⟩:=bE hy3
 refine kK rfl (zVP (lq rfl) rfl rfl (uC ht81)) ?_
 refine Q70 ?_
 refine Q53 ?_
 refine Q41 ?_
 refine yV hy3 (fun hy3=>?_) (fun hy3=>?_)
 refine Q32 ?_
 refine zI ?_
 cases hy3
 exact ⟨rfl,wc⟩
 refine Q5 ?_
 refine zDG 10 MX rfl ?_
 refine Q76 ?_
 refine z0J ?_
 refine q8 ?_
 refine z0J ?_
 have ⟨t92,ht92,hy3⟩:=bE hy3
 refine u5 (zO4 (en:=eI) (l:=r3001) (lq rfl) yT rfl rfl rfl rfl ht92) ?_
 refine q63 ?_
 refine Q38 ?_
 have ⟨t96,ht96,hy3⟩:=bE hy3
 refine u5 (zO4 (en:=eI) (l:=r3001) (lq rfl) yT rfl rfl rfl rfl ht96) ?_
 refine wR ?_
 refine kK rfl (zZT (en:=eI) (l:=r3001) (a1:=(wi (v7+1))) (b1:=(wi (v11+1))) (a2:=v7) (b2:=v11) (lq rfl) yT rfl rfl rfl ht92 ht96 rfl) ?_
 refine zE<|Q60 ?_
 have ⟨t101,ht101,hy3⟩:=bE hy3
 refine yR (zBJ (en:=eI) (l:=(cpM r3001 (wi (v7+1)) (wi (v11+1)) v7 v11)) (lq rfl) yT rfl rfl rfl ht101) ?_
 have ⟨r3001_5,hr3001_5,hy3⟩:=bE hy3
 refine kK rfl (zO5 (en:=eI) (l:=(cpM r3001 (wi (v7+1)) (wi (v11+1)) v7 v11)) (i:=v7) (v:=t62) O3 rfl rfl rfl ht101 hr3001_5 rfl rfl rfl rfl) ?_
 refine zE<|Q21 ?_
 cases hy3
 exact ⟨rfl,wc⟩
 rintro y3 rfl
 replace p2:=eL p2
 cases p2
 intro q;cases q
 exact zG (wc)
 rintro y3 rfl
 replace p2:=eR p2
 refine Q21 ?_
 cases p2
 exact wc
 refine zI ?_
 cases p2
 intro q;cases q
 exact zG (wc)
 refine Q2 ?_
 refine q9 ?_
 refine q0 ?_
 have ⟨t108,ht108,h⟩:=bE h
 refine yR (zL1 (en:=eI) (l:=y2.2) (lq rfl) yT rfl rfl rfl ht108) ?_
 refine zFH (zQZ (tm:=108) (en:=eI) (l:=y2.2) (b:=y2.1) (lq rfl) rfl rfl ht108) ?_ (by simp)
 have ⟨t109,ht109,h⟩:=bE h
 refine kK rfl ((zA6 (lq rfl) rfl (uC ht109)).step) ?_
 refine Q70 ?_
 refine Q53 ?_
 refine q0 ?_
 refine q1 ?_
 refine Q24 ?_
 cases h
 refine zB ?_
 exact ⟨⟨_,_,rfl,rfl,⟨_,_,rfl,rfl,⟨_,_,rfl,rfl,rfl⟩⟩⟩,⟨rfl,trivial⟩⟩
set_option maxHeartbeats 8000000 in
theorem zFB {a0 a1 a2 r} (h:wM a0 a1 a2=some r):zJ Tryd.prog 29 [(eNorm.dv a0),(eCollation.dv a1),(yE eI a2)] [(yE eElement r)]:=by
 refine co Tryd.func29 ?_;intro _ _ _ _
 unfold wM at h
 refine Q44 ?_
 refine q83 ?_
 refine Q67 ?_
 have ⟨t14,ht14,h⟩:=bE h
 have ⟨t16,ht16,h⟩:=bE h
 refine tl .normal ⟨[(2,.d (yE eI a2)),(3,.d (.pt (eNorm.cells a0))),(7,.ptr 2514 0)],[(2514,.box 93 [.d (yE eEntry t16.c.Entries),.d (yE eGroup t16.c.Groups),.d (di t16.c.Base),.d (di t16.c.Second),.d (di t16.c.Third),.row 3014,.d (di t16.longest),.d (yE eSpan t16.classes),.d (di t16.top)]),(3014,.map (xK zA9 (eL eElement) t16.entries))]⟩ ?_ ?_
 refine zBE MX ?_
 refine xn [0,2] ?_
 refine xa rfl (zGW (lq rfl) G49 rfl rfl) ?_ ?_
 refine xn [1,2] ?_
 refine xb rfl (zA7 [(13,2514),(11,3014)] (zBB ht14) (lq rfl) (by decide) ⟨rfl,trivial⟩ rfl rfl trivial rfl rfl rfl (fun _=>rfl) rfl) ?_ ?_
 refine xn [2] ?_
 refine z0K G45 ?_
 refine xn [3] ?_
 refine xd rfl (zA7 [(3000,2514),(3105,3014)] (uB ht16) (lq rfl) (by decide) ⟨rfl,rfl,trivial⟩ rfl rfl ⟨rfl,rfl,trivial⟩ rfl rfl rfl (fun _=>rfl) rfl) ?_
 refine xn [4] ?_
 refine xc rfl (u0 (lq rfl) rfl) ?_
 exact ae
 refine z0K G45 ?_
 refine xn [1] ?_
 refine xd rfl (zA7 [(13,2514),(11,3014)] (zBB ht14) (lq rfl) (by decide) ⟨rfl,trivial⟩ rfl rfl trivial rfl rfl rfl (fun _=>rfl) rfl) ?_
 refine xn [3] ?_
 refine xd rfl (zA7 [(3000,2514),(3105,3014)] (uB ht16) (lq rfl) (by decide) ⟨rfl,rfl,trivial⟩ rfl rfl ⟨rfl,rfl,trivial⟩ rfl rfl rfl (fun _=>rfl) rfl) ?_
 refine xn [4] ?_
 refine xc rfl (u0 (lq rfl) rfl) ?_
 exact ae
 refine z0K G45 ?_
 refine xn [0] ?_
 refine z0K G49 ?_
 refine xn [1] ?_
 refine xd rfl (zA7 [(13,2514),(11,3014)] (zBB ht14) (lq rfl) (by decide) ⟨rfl,trivial⟩ rfl rfl trivial rfl rfl rfl (fun _=>rfl) rfl) ?_
 refine xn [3] ?_
 refine xd rfl (zA7 [(3000,2514),(3105,3014)] (uB ht16) (lq rfl) (by decide) ⟨rfl,rfl,trivial⟩ rfl rfl ⟨rfl,rfl,trivial⟩ rfl rfl rfl (fun _=>rfl) rfl) ?_
 refine xn [4] ?_
 refine xc rfl (u0 (lq rfl) rfl) ?_
 exact ae
 refine zM (zMZ (bid:=2514) (off:=5) rfl rfl rfl) ?_
 refine zM (zY (t:=7) (lq rfl) rfl rfl rfl) ?_
 refine Q3 ?_
 refine zM (uR (t:=8) 1008 37 eElement.size (lq rfl) (lq rfl) rfl rfl) ?_
 refine Q11 ?_
 refine q33 G45 ?_
 refine q0 ?_
 have ⟨t19,ht19,h⟩:=bE h
 refine kK rfl (zA7 [(2531,2519)] (zHU ht19) (lq rfl) (by decide) ⟨rfl,rfl,rfl,trivial⟩ rfl rfl trivial rfl rfl rfl (fun _=>rfl) rfl) ?_
 refine Q19 ?_
 refine zM (zMY (id:=2519) rfl) ?_
 refine yL ?_
 have ⟨y1,hy1,h⟩:=bE h
 refine tl (.exit 0) ⟨[(8,.row 1008)],[(1008,.row 37 eElement.size false (eElement.all y1))]⟩ ?_ ?_
 refine zF (fun x=>⟨[(7,.d (.pt (eColltable_table.cells t16))),(8,.row 1008),(9,.row 2519)],[(1008,.row 37 eElement.size false (eElement.all x.1)),(2519,.win 3 eI.size 0 (eI.all x.2))]⟩) hy1 (wc) ?_
 rintro ⟨r1008,r2519⟩ sy1 p1
 replace p1:k6 t16 r1008 r2519=some sy1:=p1
 unfold k6 at p1
 refine Q11 ?_
 refine q9 ?_
 refine z0I yT ?_
 refine Q46 ?_
 refine yV p1 (fun p1=>?_) (fun p1=>?_)
 refine zH<|Q64 ?_
 refine q9 ?_
 have ⟨t26,ht26,p1⟩:=bE p1
 refine kK rfl (zA7 [(3001,2519)] (zDN ht26) (lq rfl) (by decide) ⟨rfl,rfl,trivial⟩ rfl rfl ⟨rfl,trivial⟩ rfl rfl rfl (fun _=>rfl) rfl) ?_
 refine yR (zH9 (lq rfl) rfl) ?_
 refine zXD ?_
 refine zXD ?_
 refine zXD ?_
 refine q1 ?_
 refine Q24 ?_
 refine Q27 ?_
 refine q0 ?_
 have ⟨r1008_2,hr1008_2,p1⟩:=bE p1
 refine q34 S22 hr1008_2 ?_
 refine Q19 ?_
 refine Q29 ?_
 refine q0 ?_
 have ⟨r2519_3,hr2519_3,p1⟩:=bE p1
 refine kK rfl (zWI (en:=eI) (l:=t26.2.2.2) (lq rfl) yT rfl rfl rfl hr2519_3 (Nat.le_refl _) rfl) ?_
 refine Q19 ?_
 cases p1
 exact wc
 refine zI ?_
 cases p1
 intro q;cases q
 exact zG (wc)
 refine Q27 ?_
 refine Q19 ?_
 cases h
 refine zB ?_
 exact zN rfl
theorem zK3 {a0 a1 a2 a3 r} (h:zAS a0 a1 a2 a3=some r):zJ Tryd.prog 21 [(eNorm.dv a0),(eCollation.dv a1),(eOptions.dv a2),(yE eI a3)] [(yE eI r)]:=by
 refine co Tryd.func21 ?_;intro _ _ _ _
 unfold zAS at h
 refine Q44 ?_
 refine q83 ?_
 refine q75 ?_
 refine Q45 ?_
 refine yR ((jF (lq rfl) G24 rfl rfl rfl rfl).data rfl) ?_
 have ⟨t15,ht15,h⟩:=bE h
 refine q7 (zBX ht15) ?_
 refine Q79 ?_
 refine Q3 ?_
 refine zM (uR (t:=9) 1009 3 eI.size (lq rfl) (lq rfl) rfl rfl) ?_
 refine kT<|kT ?_
 refine kL MX rfl ?_
 refine q72 G45 ?_
 refine q72 G49 ?_
 refine q8 ?_
 have ⟨t19,ht19,h⟩:=bE h
 refine q26 (zFB ht19) ?_
 refine u5 ((jF (lq rfl) G24 rfl rfl rfl rfl).data rfl) ?_
 have ⟨t21,ht21,h⟩:=bE h
 refine q26 (zC0 ht21) ?_
 refine u5 (zLV (en:=(eL eI)) (l:=t21) (lq rfl) S29 rfl) ?_
 refine q8 ?_
 refine wR<|yL ?_
 have ⟨y1,hy1,h⟩:=bE h
 refine tl (.exit 0) ⟨[(3,.d (yE eI a3)),(4,.d (.pt (eNorm.cells a0))),(6,.ptr 6 0),(9,.row 1009)],[(6,.box 24 [.d (di t15.Strength),.d (di t15.Variable),.d (db t15.Backward),.d (db t15.Identical)]),(1009,.row 3 eI.size false (eI.all y1))]⟩ ?_ ?_
 refine zF (fun x=>⟨[(3,.d (yE eI a3)),(4,.d (.pt (eNorm.cells a0))),(6,.ptr 6 0),(9,.row 1009),(21,.d (yE (eL eI) t21)),(22,.d (di (t21.length:Int))),(23,.d (di x.1))],[(6,.box 24 [.d (di t15.Strength),.d (di t15.Variable),.d (db t15.Backward),.d (db t15.Identical)]),(1009,.row 3 eI.size false (eI.all x.2))]⟩) hy1 (wc) ?_
 rintro ⟨v23,r1009⟩ sy1 p1
 replace p1:vQ t21 v23 r1009=some sy1:=p1
 unfold vQ at p1
 refine Q13 ?_
 refine yV p1 (fun p1=>?_) (fun p1=>?_)
 refine Q9 ?_
 refine Q2 ?_
 have ⟨t26,ht26,p1⟩:=bE p1
 refine q14 S29 ht26 ?_
 refine yR (u2 (en:=(eL eI)) (l:=t21) (i:=v23) (v:=t26) (off:=0) (lq rfl) O32 rfl ht26 rfl) ?_
 refine Q90 ?_
 refine Q46 ?_
 have ⟨y2,hy2,p1⟩:=bE p1
 refine tl .normal ⟨[(3,.d (yE eI a3)),(4,.d (.pt (eNorm.cells a0))),(6,.ptr 6 0),(9,.row 1009),(11,.d (yE eI t26)),(21,.d (yE (eL eI) t21)),(22,.d (di (t21.length:Int))),(23,.d (di v23))],[(6,.box 24 [.d (di t15.Strength),.d (di t15.Variable),.d (db t15.Backward),.d (db t15.Identical)]),(1009,.row 3 eI.size false (eI.all y2))]⟩ ?_ ?_
 refine yV hy2 (fun hy2=>?_) (fun hy2=>?_)
 refine Q29 ?_
 refine q35 yT ?_
 have ⟨r1009_3,hr1009_3,hy2⟩:=bE hy2
 refine q34 yT hr1009_3 ?_
 refine Q19 ?_
 cases hy2
 exact zG (wc)
 refine zH ?_
 cases hy2
 exact zG (wc)
 refine Q29 ?_
 refine q0 ?_
 have ⟨r1009_4,hr1009_4,p1⟩:=bE p1
 refine q34 yT hr1009_4 ?_
 refine Q19 ?_
 refine Q16 ?_
 cases p1
 exact wc
 refine zI ?_
 cases p1
 intro q;cases q
 exact zG (wc)
 refine Q11 ?_
 refine q41 z58 ?_
 refine q24 O4 ?_
 refine Q41 ?_
 refine yV h (fun h=>?_) (fun h=>?_)
 refine Q27 ?_
 refine Q19 ?_
 cases h
 refine zB ?_
 exact zN rfl
 refine zH<|Q27 ?_
 refine q35 yT ?_
 have ⟨r1009_5,hr1009_5,h⟩:=bE h
 refine q34 yT hr1009_5 ?_
 refine Q19 ?_
 refine Q11 ?_
 refine q33 G45 ?_
 refine q0 ?_
 have ⟨t46,ht46,h⟩:=bE h
 refine q7 (zHT ht46) ?_
 refine Q58 ?_
 have ⟨y6,hy6,h⟩:=bE h
 refine tl (.exit 2) ⟨[(9,.row 1009)],[(1009,.row 3 eI.size false (eI.all y6))]⟩ ?_ ?_
 refine zF (fun x=>⟨[(9,.row 1009),(46,.d (yE eI t46)),(47,.d (di (t46.length:Int))),(48,.d (di x.1))],[(1009,.row 3 eI.size false (eI.all x.2))]⟩) hy6 (wc) ?_
 rintro ⟨v48,r1009⟩ sy6 p6
 replace p6:vR t46 v48 r1009=some sy6:=p6
 unfold vR at p6
 refine Q13 ?_
 refine yV p6 (fun p6=>?_) (fun p6=>?_)
 refine Q5 ?_
 have ⟨y7,hy7,p6⟩:=bE p6
 refine tl .normal ⟨[(9,.row 1009),(46,.d (yE eI t46)),(47,.d (di (t46.length:Int))),(48,.d (di v48))],[(1009,.row 3 eI.size false (eI.all y7))]⟩ ?_ ?_
 refine yL<|Q0 ?_
 have ⟨t50,ht50,hy7⟩:=bE hy7
 refine q14 yT ht50 ?_
 refine q49 O3 ht50 ?_
 refine Q10 ?_
 refine q48 ?_
 have ⟨b54,hb54,hy7⟩:=bE hy7
 refine yR ((zC (lq rfl) rfl).bool (oi hb54)) ?_
 refine q20 (.d (di t50)) ?_
 refine q76 (.d (db (decide (t50≤1114111)))) ?_
 refine Q47 ?_
 refine yV hy7 (fun hy7=>?_) (fun hy7=>?_)
 refine Q29 ?_
 refine q0 ?_
 refine q4 ?_
 refine q35 yT ?_
 have ⟨r1009_8,hr1009_8,hy7⟩:=bE hy7
 refine q34 yT hr1009_8 ?_
 refine Q19 ?_
 cases hy7
 exact zG (wc)
 refine zH ?_
 cases hy7
 exact zG (wc)
 refine Q16 ?_
 cases p6
 exact wc
 refine zI ?_
 cases p6
 intro q;cases q
 exact zG (wc)
 refine Q27 ?_
 refine Q19 ?_
 cases h
 refine zB ?_
 exact zN rfl
theorem zEM {a0 a1 r} (h:uK a0 a1=some r):zJ Tryd.prog 16 [(yE eI a0),(yE eI a1)] [(di r)]:=by
 refine co Tryd.func16 ?_;intro _ _ _ _
 unfold uK at h
 refine Q3 ?_
 refine Q66 ?_
 have ⟨y1,hy1,h⟩:=bE h
 refine yG y1 (.exit 0) (fun y1=>⟨[(0,.d (yE eI a0)),(1,.d (yE eI a1))],[]⟩) .ret (fun y1=>⟨[(4,.d (di y1))],[]⟩) ?_ ?_ ?_
 refine zF (fun x=>⟨[(0,.d (yE eI a0)),(1,.d (yE eI a1)),(5,.d (di x))],[]⟩) hy1 (wc) ?_
 rintro v5 sy1 p1
 replace p1:wF a0 a1 v5=some sy1:=p1
 unfold wF at p1
 refine Q14 ?_
 refine q6 yT ?_
 refine q2 ?_
 have ⟨b10,hb10,p1⟩:=bE p1
 refine yR ((zC (lq rfl) rfl).bool (oi hb10)) ?_
 refine q20 (.d (di v5)) ?_
 refine q20 (.d (yE eI a1)) ?_
 refine z3W (.d (di (a1.length:Int))) yT ?_
 refine q64 (.d (db (decide (v5 < (a1.length:Int))))) ?_
 refine Q47 ?_
 refine yV p1 (fun p1=>?_) (fun p1=>?_)
 refine Q9 ?_
 refine kT<|kT ?_
 refine kL MX rfl ?_
 refine Q38 ?_
 have ⟨t20,ht20,p1⟩:=bE p1
 refine q42 yT ht20 ?_
 refine q70 O3 ht20 ?_
 refine Q38 ?_
 have ⟨t24,ht24,p1⟩:=bE p1
 refine q42 yT ht24 ?_
 refine q70 O3 ht24 ?_
 refine zXC ?_
 refine wR ?_
 refine yV p1 (fun p1=>?_) (fun p1=>?_)
 refine Q22 ?_
 cases p1
 intro q;cases q
 exact ⟨rfl,wc⟩
 refine Q5 ?_
 refine kL MX rfl ?_
 refine Q38 ?_
 have ⟨t29,ht29,p1⟩:=bE p1
 refine q42 yT ht29 ?_
 refine q70 O3 ht29 ?_
 refine Q38 ?_
 have ⟨t33,ht33,p1⟩:=bE p1
 refine q42 yT ht33 ?_
 refine q70 O3 ht33 ?_
 refine q85 ?_
 refine wR ?_
 refine yV p1 (fun p1=>?_) (fun p1=>?_)
 refine Q22 ?_
 cases p1
 intro q;cases q
 exact ⟨rfl,wc⟩
 refine Q59 ?_
 cases p1
 exact wc
 refine zI ?_
 cases p1
 intro q;cases q
 exact ⟨rfl,wc⟩
 rintro y1 rfl
 replace h:=eL h
 refine Q4 ?_
 refine q6 yT ?_
 refine q0 ?_
 refine q6 yT ?_
 refine Q7 ?_
 refine yV h (fun h=>?_) (fun h=>?_)
 refine Q3 ?_
 cases h
 refine zB ?_
 exact zN rfl
 refine zH<|Q4 ?_
 refine q6 yT ?_
 refine q0 ?_
 refine q6 yT ?_
 refine Q46 ?_
 refine yV h (fun h=>?_) (fun h=>?_)
 refine Q3 ?_
 cases h
 refine zB ?_
 exact zN rfl
 refine Q43 ?_
 cases h
 refine zB ?_
 exact zN rfl
 rintro y1 rfl
 replace h:=eR h
 cases h
 exact zN rfl
theorem zK4 {a0 a1 r} (h:zAR a0 a1=some r):zJ Tryd.prog 17 [(yE eI a0),(yE eI a1)] [(db r)]:=by
 refine co Tryd.func17 ?_;intro _ _ _ _
 unfold zAR at h
 refine Q3 ?_
 refine Q28 ?_
 have ⟨t7,ht7,h⟩:=bE h
 refine q7 (zEM ht7) ?_
 refine Q73 ?_
 cases h
 refine zB ?_
 exact zN rfl
theorem zBU {a0 r} (h:xI a0=some r):zJ Tryd.prog 14 [(yE eI a0)] [(ds r)]:=by
 refine co Tryd.func14 ?_;intro _ _ _ _
 unfold xI at h
 refine Q3 ?_
 refine Q3 ?_
 refine zM (uR (t:=3) 1003 5 e8.size (lq rfl) (lq rfl) rfl rfl) ?_
 refine Q4 ?_
 refine Q58 ?_
 have ⟨y1,hy1,h⟩:=bE h
 refine tl (.exit 0) ⟨[(3,.row 1003)],[(1003,.row 5 e8.size false (e8.all y1))]⟩ ?_ ?_
 refine zF (fun x=>⟨[(3,.row 1003),(7,.d (yE eI a0)),(8,.d (di (a0.length:Int))),(9,.d (di x.1))],[(1003,.row 5 e8.size false (e8.all x.2))]⟩) hy1 (wc) ?_
 rintro ⟨v9,r1003⟩ sy1 p1
 replace p1:xF a0 v9 r1003=some sy1:=p1
 unfold xF at p1
 refine Q13 ?_
 refine yV p1 (fun p1=>?_) (fun p1=>?_)
 refine Q25 ?_
 have ⟨t11,ht11,p1⟩:=bE p1
 refine q14 yT ht11 ?_
 refine q49 O3 ht11 ?_
 refine Q10 ?_
 refine q28 Tryd.underlying3 Tryd.underlying69 ?_
 refine Q1 ?_
 refine Q29 ?_
 refine q0 ?_
 refine q45 ?_
 refine q28 Tryd.underlying69 Tryd.underlying5 ?_
 refine q0 ?_
 refine q45 ?_
 refine q28 Tryd.underlying69 Tryd.underlying5 ?_
 refine q0 ?_
 refine q45 ?_
 refine q28 Tryd.underlying69 Tryd.underlying5 ?_
 refine q0 ?_
 refine q28 Tryd.underlying69 Tryd.underlying5 ?_
 refine q35 S68 ?_
 have ⟨r1003_2,hr1003_2,p1⟩:=bE p1
 refine q34 S68 hr1003_2 ?_
 refine Q19 ?_
 refine Q16 ?_
 cases p1
 exact wc
 refine zI ?_
 cases p1
 intro q;cases q
 exact zG (wc)
 refine Q27 ?_
 refine yR (zWP (lq rfl) Tryd.underlying68 Tryd.underlying9 Tryd.underlying5 rfl rfl) ?_
 refine Q1 ?_
 cases h
 refine zB ?_
 exact zN rfl
set_option maxHeartbeats 8000000 in
set_option maxRecDepth 40000 in
theorem zDE {r} (h:uW=some r):zJ Tryd.prog 8 [] [(db r)]:=by
 refine co Tryd.func8 ?_;intro _ _ _ _
 unfold uW at h
 refine Q3 ?_
 refine Q0 ?_
 refine q51 B37 ?_
 refine q51 B37 ?_
 refine q35 S22 ?_
 refine Q10 ?_
 refine q51 B24 ?_
 have ⟨t10,ht10,h⟩:=bE h
 refine q7 (zC0 ht10) ?_
 refine Q67 ?_
 have ⟨t13,ht13,h⟩:=bE h
 have ⟨t17,ht17,h⟩:=bE h
 refine tl .normal ⟨[(2,.d (yE (eL eI) t10)),(3,.ptr 3 0)],[(3,.box 49 [.d (yE eEntry (({Entries:=[({Codes:=[97],Elements:=t13}:Entry),({Codes:=[98],Elements:=t17}:Entry)],Groups:=[],Base:=100,Second:=32,Third:=2}:Collation).Entries)),.d (yE eGroup (({Entries:=[({Codes:=[97],Elements:=t13}:Entry),({Codes:=[98],Elements:=t17}:Entry)],Groups:=[],Base:=100,Second:=32,Third:=2}:Collation).Groups)),.d (di (({Entries:=[({Codes:=[97],Elements:=t13}:Entry),({Codes:=[98],Elements:=t17}:Entry)],Groups:=[],Base:=100,Second:=32,Third:=2}:Collation).Base)),.d (di (({Entries:=[({Codes:=[97],Elements:=t13}:Entry),({Codes:=[98],Elements:=t17}:Entry)],Groups:=[],Base:=100,Second:=32,Third:=2}:Collation).Second)),.d (di (({Entries:=[({Codes:=[97],Elements:=t13}:Entry),({Codes:=[98],Elements:=t17}:Entry)],Groups:=[],Base:=100,Second:=32,Third:=2}:Collation).Third))])]⟩ ?_ ?_
 refine zBE MX ?_
 refine xm 1 ?_
 refine zQ4 (en:=eElement) (i:=2) rfl (lq rfl) S22 rfl rfl ht13 rfl (by kernel_rfl) (by kernel_rfl) (by kernel_rfl) ?_
 refine xm 5 ?_
 refine zQ5 (en:=eElement) (i:=6) rfl (lq rfl) S22 rfl rfl ht17 rfl (by kernel_rfl) (by kernel_rfl) (by kernel_rfl) ?_
 refine xn [0,4,10] ?_
 refine q80 yT ?_ ?_
 refine jN (bs:=eEntry.cells ({Codes:=[97],Elements:=t13}:Entry)) (i:=3) rfl (lq rfl) B58 rfl rfl (nlE (nlE nl0)) rfl (by kernel_rfl) (by kernel_rfl) (by kernel_rfl) ?_
 refine xn [4,10] ?_
 refine q80 yT ?_ ?_
 refine jN (bs:=eEntry.cells ({Codes:=[98],Elements:=t17}:Entry)) (i:=7) rfl (lq rfl) B58 rfl rfl (nlE (nlE nl0)) rfl (by kernel_rfl) (by kernel_rfl) (by kernel_rfl) ?_
 refine xn [8,10] ?_
 refine q80 S46 ?_ ?_
 refine jN (bs:=eCollation.cells ({Entries:=[({Codes:=[97],Elements:=t13}:Entry),({Codes:=[98],Elements:=t17}:Entry)],Groups:=[],Base:=100,Second:=32,Third:=2}:Collation)) (i:=9) rfl (lq rfl) B49 rfl rfl (nlE (nlN (nlE (nlE (nlE nl0))))) rfl (by kernel_rfl) (by kernel_rfl) (by kernel_rfl) ?_
 refine xn [10] ?_
 refine q81 ?_
 refine Q77 ?_
 exact ae
 refine q81 ?_
 refine xn [8] ?_
 refine q60 S46 ?_
 refine jN (bs:=eCollation.cells ({Entries:=[({Codes:=[97],Elements:=t13}:Entry),({Codes:=[98],Elements:=t17}:Entry)],Groups:=[],Base:=100,Second:=32,Third:=2}:Collation)) (i:=9) rfl (lq rfl) B49 rfl rfl (nlE (nlN (nlE (nlE (nlE nl0))))) rfl (by kernel_rfl) (by kernel_rfl) (by kernel_rfl) ?_
 refine Q77 ?_
 exact ae
 refine q81 ?_
 refine xn [4] ?_
 refine q60 yT ?_
 refine jN (bs:=eEntry.cells ({Codes:=[98],Elements:=t17}:Entry)) (i:=7) rfl (lq rfl) B58 rfl rfl (nlE (nlE nl0)) rfl (by kernel_rfl) (by kernel_rfl) (by kernel_rfl) ?_
 refine xn [8] ?_
 refine q60 S46 ?_
 refine jN (bs:=eCollation.cells ({Entries:=[({Codes:=[97],Elements:=t13}:Entry),({Codes:=[98],Elements:=t17}:Entry)],Groups:=[],Base:=100,Second:=32,Third:=2}:Collation)) (i:=9) rfl (lq rfl) B49 rfl rfl (nlE (nlN (nlE (nlE (nlE nl0))))) rfl (by kernel_rfl) (by kernel_rfl) (by kernel_rfl) ?_
 refine Q77 ?_
 exact ae
 refine q80 yT ?_ ?_
 refine jN (bs:=eEntry.cells ({Codes:=[98],Elements:=t17}:Entry)) (i:=7) rfl (lq rfl) B58 rfl rfl (nlE (nlE nl0)) rfl (by kernel_rfl) (by kernel_rfl) (by kernel_rfl) ?_
 refine xn [0,10] ?_
 refine q80 yT ?_ ?_
 refine jN (bs:=eEntry.cells ({Codes:=[97],Elements:=t13}:Entry)) (i:=3) rfl (lq rfl) B58 rfl rfl (nlE (nlE nl0)) rfl (by kernel_rfl) (by kernel_rfl) (by kernel_rfl) ?_
 refine xn [8,10] ?_
 refine q80 S46 ?_ ?_
 refine jN (bs:=eCollation.cells ({Entries:=[({Codes:=[97],Elements:=t13}:Entry),({Codes:=[98],Elements:=t17}:Entry)],Groups:=[],Base:=100,Second:=32,Third:=2}:Collation)) (i:=9) rfl (lq rfl) B49 rfl rfl (nlE (nlN (nlE (nlE (nlE nl0))))) rfl (by kernel_rfl) (by kernel_rfl) (by kernel_rfl) ?_
 refine xn [10] ?_
 refine q81 ?_
 refine Q77 ?_
 exact ae
 refine q81 ?_
 refine xn [8] ?_
 refine q60 S46 ?_
 refine jN (bs:=eCollation.cells ({Entries:=[({Codes:=[97],Elements:=t13}:Entry),({Codes:=[98],Elements:=t17}:Entry)],Groups:=[],Base:=100,Second:=32,Third:=2}:Collation)) (i:=9) rfl (lq rfl) B49 rfl rfl (nlE (nlN (nlE (nlE (nlE nl0))))) rfl (by kernel_rfl) (by kernel_rfl) (by kernel_rfl) ?_
 refine Q77 ?_
 exact ae
 refine q81 ?_
 refine xn [0] ?_
 refine q60 yT ?_
 refine jN (bs:=eEntry.cells ({Codes:=[97],Elements:=t13}:Entry)) (i:=3) rfl (lq rfl) B58 rfl rfl (nlE (nlE nl0)) rfl (by kernel_rfl) (by kernel_rfl) (by kernel_rfl) ?_
 refine xn [8] ?_
 refine q60 S46 ?_
 refine jN (bs:=eCollation.cells ({Entries:=[({Codes:=[97],Elements:=t13}:Entry),({Codes:=[98],Elements:=t17}:Entry)],Groups:=[],Base:=100,Second:=32,Third:=2}:Collation)) (i:=9) rfl (lq rfl) B49 rfl rfl (nlE (nlN (nlE (nlE (nlE nl0))))) rfl (by kernel_rfl) (by kernel_rfl) (by kernel_rfl) ?_
 refine Q77 ?_
 exact ae
 refine q81 ?_
 refine xn [0,4] ?_
 refine q80 yT ?_ ?_
 refine jN (bs:=eEntry.cells ({Codes:=[97],Elements:=t13}:Entry)) (i:=3) rfl (lq rfl) B58 rfl rfl (nlE (nlE nl0)) rfl (by kernel_rfl) (by kernel_rfl) (by kernel_rfl) ?_
 refine xn [4] ?_
 refine q60 yT ?_
 refine jN (bs:=eEntry.cells ({Codes:=[98],Elements:=t17}:Entry)) (i:=7) rfl (lq rfl) B58 rfl rfl (nlE (nlE nl0)) rfl (by kernel_rfl) (by kernel_rfl) (by kernel_rfl) ?_
 refine xn [8] ?_
 refine q60 S46 ?_
 refine jN (bs:=eCollation.cells ({Entries:=[({Codes:=[97],Elements:=t13}:Entry),({Codes:=[98],Elements:=t17}:Entry)],Groups:=[],Base:=100,Second:=32,Third:=2}:Collation)) (i:=9) rfl (lq rfl) B49 rfl rfl (nlE (nlN (nlE (nlE (nlE nl0))))) rfl (by kernel_rfl) (by kernel_rfl) (by kernel_rfl) ?_
 refine Q77 ?_
 exact ae
 refine q60 yT ?_
 refine jN (bs:=eEntry.cells ({Codes:=[98],Elements:=t17}:Entry)) (i:=7) rfl (lq rfl) B58 rfl rfl (nlE (nlE nl0)) rfl (by kernel_rfl) (by kernel_rfl) (by kernel_rfl) ?_
 refine xn [0] ?_
 refine q60 yT ?_
 refine jN (bs:=eEntry.cells ({Codes:=[97],Elements:=t13}:Entry)) (i:=3) rfl (lq rfl) B58 rfl rfl (nlE (nlE nl0)) rfl (by kernel_rfl) (by kernel_rfl) (by kernel_rfl) ?_
 refine xn [8] ?_
 refine q60 S46 ?_
 refine jN (bs:=eCollation.cells ({Entries:=[({Codes:=[97],Elements:=t13}:Entry),({Codes:=[98],Elements:=t17}:Entry)],Groups:=[],Base:=100,Second:=32,Third:=2}:Collation)) (i:=9) rfl (lq rfl) B49 rfl rfl (nlE (nlN (nlE (nlE (nlE nl0))))) rfl (by kernel_rfl) (by kernel_rfl) (by kernel_rfl) ?_
 refine Q77 ?_
 exact ae
 refine zM (zY (t:=3) (lq rfl) rfl rfl rfl) ?_
 refine Q0 ?_
 refine yR ((zCX (lq rfl) B45 rfl rfl).nils (bs:=eNorm.cells ({Classes:=[],Decomp:=[],Excluded:=(({Ranges:=[]}):Set)}:Norm)) (nlN (nlN (nlN nl0)))) ?_
 refine q33 G49 ?_
 refine q51 B24 ?_
 refine q35 yT ?_
 have ⟨t25,ht25,h⟩:=bE h
 refine q7 (zK3 ht25) ?_
 refine Q10 ?_
 refine q6 S29 ?_
 refine q36 ?_
 have ⟨b29,hb29,h⟩:=bE h
 refine yR ((zC (lq rfl) rfl).bool (oi hb29)) ?_
 refine q20 (.d (yE eI t25)) ?_
 refine sqt (.d (yE eI [16,17,0,32,32])) rfl (fun hb=>by subst hb;exact zH5 (lq rfl) yT rfl rfl rfl rfl (by decide) rfl) ?_
 have ⟨t32,ht32,h⟩:=bE h
 refine sqt (.d (db t32)) rfl (fun hb=>by subst hb;exact zA6 (lq rfl) rfl (zK4 ht32)) ?_
 refine q16 ?_
 have ⟨b34,hb34,h⟩:=bE h
 refine yR ((zC (lq rfl) rfl).bool (oi hb34)) ?_
 refine sqt (.d (yE eI [258])) rfl (fun hb=>by subst hb;exact zH5 (lq rfl) yT rfl rfl rfl rfl (by decide) rfl) ?_
 have ⟨t36,ht36,h⟩:=bE h
 refine sqt (.d (ds t36)) rfl (fun hb=>by subst hb;exact zA6 (lq rfl) rfl (zBU ht36)) ?_
 refine sqt (.d (db (t36== [0,0,1,2]))) rfl (fun hb=>by subst hb;exact zMR (a:=t36) (b:=[0,0,1,2]) (lq rfl) rfl rfl) ?_
 refine q16 ?_
 have ⟨b39,hb39,h⟩:=bE h
 refine yR ((zC (lq rfl) rfl).bool (oi hb39)) ?_
 refine sqt (.d (eOptions.dv ({Strength:=0,Variable:=0,Backward:=false,Identical:=false}:Options))) rfl (fun hb=>by subst hb;exact zCX (lq rfl) B24 rfl rfl) ?_
 have ⟨t41,ht41,h⟩:=bE h
 refine sqt (.d (di t41)) rfl (fun hb=>by subst hb;exact zA6 (lq rfl) rfl (zBT (gT ht41))) ?_
 refine q62 (.d (db (decide (t41=1)))) ?_
 refine q16 ?_
 have ⟨b44,hb44,h⟩:=bE h
 refine yR ((zC (lq rfl) rfl).bool (oi hb44)) ?_
 refine sqt (.d (eOptions.dv ({Strength:=1,Variable:=0,Backward:=false,Identical:=false}:Options))) rfl (fun hb=>by subst hb;exact zCX (lq rfl) B24 rfl rfl) ?_
 have ⟨t46,ht46,h⟩:=bE h
 refine sqt (.d (di t46)) rfl (fun hb=>by subst hb;exact zA6 (lq rfl) rfl (zBT (gT ht46))) ?_
 refine q62 (.d (db (decide (t46=8)))) ?_
 refine Q35 ?_
 cases h
 refine zB ?_
 exact zN rfl
theorem zF8 {a0 r} (h:zAT a0=some r):zJ Tryd.prog 15 [(yE eI a0)] [(ds r)]:=by
 refine co Tryd.func15 ?_;intro _ _ _ _
 unfold zAT at h
 refine Q3 ?_
 refine Q3 ?_
 refine zM (uR (t:=3) 1003 5 e8.size (lq rfl) (lq rfl) rfl rfl) ?_
 refine Q66 ?_
 have ⟨y1,hy1,h⟩:=bE h
 refine tl (.exit 0) ⟨[(3,.row 1003)],[(1003,.row 5 e8.size false (e8.all y1))]⟩ ?_ ?_
 refine zF (fun x=>⟨[(0,.d (yE eI a0)),(3,.row 1003),(4,.d (di x.1))],[(1003,.row 5 e8.size false (e8.all x.2))]⟩) hy1 (wc) ?_
 rintro ⟨v4,r1003⟩ sy1 p1
 replace p1:vS a0 v4 r1003=some sy1:=p1
 unfold vS at p1
 refine Q14 ?_
 refine q6 yT ?_
 refine Q7 ?_
 refine yV p1 (fun p1=>?_) (fun p1=>?_)
 refine Q9 ?_
 refine Q28 ?_
 have ⟨t14,ht14,p1⟩:=bE p1
 refine q14 yT ht14 ?_
 refine q49 O3 ht14 ?_
 refine q28 Tryd.underlying3 Tryd.underlying71 ?_
 refine Q1 ?_
 refine Q29 ?_
 refine q0 ?_
 refine q45 ?_
 refine q28 Tryd.underlying71 Tryd.underlying5 ?_
 refine q0 ?_
 refine q45 ?_
 refine q28 Tryd.underlying71 Tryd.underlying5 ?_
 refine q0 ?_
 refine q45 ?_
 refine q28 Tryd.underlying71 Tryd.underlying5 ?_
 refine q0 ?_
 refine q28 Tryd.underlying71 Tryd.underlying5 ?_
 refine q35 S68 ?_
 have ⟨r1003_2,hr1003_2,p1⟩:=bE p1
 refine q34 S68 hr1003_2 ?_
 refine Q19 ?_
 refine Q21 ?_
 cases p1
 exact wc
 refine zI ?_
 cases p1
 intro q;cases q
 exact zG (wc)
 refine Q27 ?_
 refine yR (zWP (lq rfl) Tryd.underlying68 Tryd.underlying9 Tryd.underlying5 rfl rfl) ?_
 refine Q1 ?_
 cases h
 refine zB ?_
 exact zN rfl
set_option maxRecDepth 40000 in
theorem law44_SortkeyBytes_c {a0 a1 r} (h:uA a0 a1=some r):zJ Tryd.prog 4 [(yE eI a0),(yE eI a1)] [(db r)]:=by
 refine co Tryd.func4 ?_;intro _ _ _ _
 unfold uA at h
 refine Q39 ?_
 refine q6 yT ?_
 refine q40 ?_
 have ⟨b13,hb13,h⟩:=bE h
 refine yR ((zC (lq rfl) rfl).bool (oi hb13)) ?_
 refine q21 (.d (yE eI a1)) ?_
 refine q53 (.d (di (a1.length:Int))) yT ?_
 refine q32 (.d (db (decide (100 < (a1.length:Int))))) ?_
 refine Q26 ?_
 refine yV h (fun h=>?_) (fun h=>?_)
 refine Q0 ?_
 have ⟨t18,ht18,h⟩:=bE h
 refine q7 (zDE ht18) ?_
 refine Q1 ?_
 cases h
 refine zB ?_
 exact zN rfl
 refine zH<|Q2 ?_
 have ⟨t20,ht20,h⟩:=bE h
 refine q7 (zBU ht20) ?_
 refine q0 ?_
 have ⟨t22,ht22,h⟩:=bE h
 refine q7 (zBU ht22) ?_
 refine Q24 ?_
 refine Q14 ?_
 have ⟨t25,ht25,h⟩:=bE h
 refine q7 (zF8 ht25) ?_
 refine zW3 ?_
 have ⟨b27,hb27,h⟩:=bE h
 refine yR ((zC (lq rfl) rfl).bool (oi hb27)) ?_
 refine q21 (.d (ds t22)) ?_
 refine q21 (.d (yE eI a1)) ?_
 have ⟨t30,ht30,h⟩:=bE h
 refine sqf (.d (ds t30)) rfl (fun hb=>by subst hb;exact zA6 (lq rfl) rfl (zF8 ht30)) ?_
 refine sqf (.d (db (!(t22==t30)))) rfl (fun hb=>by subst hb;exact zQR (a:=t22) (b:=t30) (lq rfl) rfl rfl) ?_
 refine Q26 ?_
 refine yV h (fun h=>?_) (fun h=>?_)
 refine Q3 ?_
 cases h
 refine zB ?_
 exact zN rfl
 refine Q91 ?_
 have ⟨y1,hy1,h⟩:=bE h
 refine yG y1 (.exit 0) (fun y1=>⟨[(0,.d (yE eI a0)),(1,.d (yE eI a1)),(5,.d (ds t20)),(6,.d (ds t22))],[]⟩) .ret (fun y1=>⟨[(4,.d (db y1))],[]⟩) ?_ ?_ ?_
 refine zF (fun x=>⟨[(0,.d (yE eI a0)),(1,.d (yE eI a1)),(5,.d (ds t20)),(6,.d (ds t22)),(7,.d (di x))],[]⟩) hy1 (wc) ?_
 rintro v7 sy1 p1
 replace p1:k7 a0 a1 v7=some sy1:=p1
 unfold k7 at p1
 refine Q14 ?_
 refine q6 yT ?_
 refine q0 ?_
 refine q6 yT ?_
 refine q4 ?_
 refine Q7 ?_
 refine yV p1 (fun p1=>?_) (fun p1=>?_)
 refine Q9 ?_
 refine Q3 ?_
 refine Q14 ?_
 refine q6 yT ?_
 refine Q7 ?_
 have ⟨y2,hy2,p1⟩:=bE p1
 refine tl .normal ⟨[(0,.d (yE eI a0)),(1,.d (yE eI a1)),(5,.d (ds t20)),(6,.d (ds t22)),(7,.d (di v7)),(8,.d (di y2))],[]⟩ ?_ ?_
 refine yV hy2 (fun hy2=>?_) (fun hy2=>?_)
 refine Q57 ?_
 have ⟨t48,ht48,hy2⟩:=bE hy2
 refine q14 yT ht48 ?_
 refine q49 O3 ht48 ?_
 refine Q1 ?_
 cases hy2
 exact zG (wc)
 refine Q8 ?_
 refine Q20 ?_
 refine q6 yT ?_
 refine q30 ?_
 have ⟨t55,ht55,hy2⟩:=bE hy2
 refine q14 yT ht55 ?_
 refine q49 O3 ht55 ?_
 refine Q1 ?_
 cases hy2
 exact zG (wc)
 refine Q2 ?_
 refine q2 ?_
 have ⟨b59,hb59,p1⟩:=bE p1
 refine yR ((zC (lq rfl) rfl).bool (oi hb59)) ?_
 refine q21 (.d (di y2)) ?_
 refine q32 (.d (db (decide (2147483648 < y2)))) ?_
 refine Q26 ?_
 refine yV p1 (fun p1=>?_) (fun p1=>?_)
 refine Q0 ?_
 have ⟨t63,ht63,p1⟩:=bE p1
 refine q7 (zDE ht63) ?_
 refine Q1 ?_
 refine zB ?_
 cases p1
 intro q;cases q
 exact ⟨rfl,wc⟩
 refine Q59 ?_
 cases p1
 exact wc
 refine zI ?_
 cases p1
 intro q;cases q
 exact ⟨rfl,wc⟩
 rintro y1 rfl
 replace h:=eL h
 refine Q28 ?_
 have ⟨t66,ht66,h⟩:=bE h
 refine q7 (zEM ht66) ?_
 refine Q65 ?_
 refine yR (zV5 (a:=t20) (b:=t22) (lq rfl) rfl rfl) ?_
 refine q0 ?_
 refine q2 ?_
 refine yR (zVX (lq rfl) Tryd.underlying4 rfl rfl) ?_
 have ⟨b73,hb73,h⟩:=bE h
 refine yR ((zC (lq rfl) rfl).bool (oi hb73)) ?_
 refine q20 (.d (ds t20)) ?_
 refine q20 (.d (ds t22)) ?_
 refine sqt (.d (db (t20==t22))) rfl (fun hb=>by subst hb;exact zMR (a:=t20) (b:=t22) (lq rfl) rfl rfl) ?_
 refine q20 (.d (di t66)) ?_
 refine q62 (.d (db (decide (t66=0)))) ?_
 refine sqt (.d (db ((t20==t22)==(decide (t66=0))))) rfl (fun hb=>by subst hb;exact zVX (lq rfl) Tryd.underlying4 rfl rfl) ?_
 refine q16 ?_
 have ⟨b81,hb81,h⟩:=bE h
 refine yR ((zC (lq rfl) rfl).bool (oi hb81)) ?_
 have ⟨t82,ht82,h⟩:=bE h
 refine sqt (.d (db t82)) rfl (fun hb=>by subst hb;exact zA6 (lq rfl) rfl (zDE ht82)) ?_
 refine Q35 ?_
 cases h
 refine zB ?_
 exact zN rfl
 rintro y1 rfl
 replace h:=eR h
 cases h
 exact zN rfl
end Go.Proofs.YtjcbhabmkcdcnaaDoor.Walk


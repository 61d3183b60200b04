/- Each function of the program answers as its plain counterpart does, where that answers. Conditions: none. -/
import Derived.Test.YtjcbhabmkcdcnaaDoorMir
import Derived.Test.YtjcbhabmkcdcnaaDoorLa3
import Derived.Test.YtjcbhabmkcdcnaaDoorProg
import Derived.Test.YtjcbhabmkcdcnaaDoorWk1
set_option linter.unusedSimpArgs false
set_option linter.unusedVariables false
set_option linter.unnecessarySimpa false
namespace Go.Proofs.YtjcbhabmkcdcnaaDoor.Walk
open Go.AV Go.M Go.RowKit Go.Proofs
theorem zH5 {a0} {a1} {a2} {r:(List Int)} (h:jU a0 a1 a2=some r):GC Tryd.prog 30 [.d (eNorm.dv a0),.d (z8 eI a1),.d (db a2)] [] [] [.row 2531] [(2531,.row 3 eI.size false (eI.all r))]:=by
 refine zAY Tryd.func30 (by kernel_rfl) rfl (lq rfl) (lq rfl) fun w0 I0 hG0 p0=>?_
 unfold jU at h
 refine Q0 ?_
 refine q75 ?_
 refine Q45 ?_
 refine yP ((kQ (lq rfl) G45 rfl rfl rfl rfl).data rfl) ?_
 have ⟨t12,ht12,h⟩:=bE h
 refine q7 (zCR ht12) ?_
 refine q13 G45 ?_
 refine Q34 ?_
 refine yP ((kQ (lq rfl) G45 rfl rfl rfl rfl).data rfl) ?_
 refine q0 ?_
 have ⟨t15,ht15,h⟩:=bE h
 refine kL rfl (zNQ [(5,2515),(6,3015),(7,3515)] (zBY ht15) (lq rfl) (by decide) ⟨rfl,rfl,trivial⟩ rfl rfl trivial rfl rfl rfl (fun _=>rfl) rfl) ?_
 refine q98 ?_
 refine zG<|Q3 ?_
 refine zK (vM (t:=8) 1008 3 eI.size (lq rfl) (lq rfl) rfl rfl) ?_
 refine Q4 ?_
 refine Q58 ?_
 have ⟨y1,hy1,h⟩:=bE h
 refine tl (.exit 0) ⟨[(3,.ptr 3 0),(8,.row 1008)],[(3,.box 45 [.d (z8 eSpan t12.Classes),.d (z8 eMapping t12.Decomp),.d (z8 eRange t12.Excluded.Ranges)]),(1008,.row 3 eI.size false (eI.all y1))]⟩ ?_ ?_
 refine zF (fun x=>⟨[(3,.ptr 3 0),(7,.clo 45 [.ptr 2515 0,.d (.pt (eNorm.cells ({Classes:=t12.Classes,Decomp:=t12.Decomp,Excluded:=({Ranges:=t12.Excluded.Ranges}:Set)}:Norm))),.d (.pt [(db a2)]),.ptr 3015 0]),(8,.row 1008),(16,.d (z8 eI a1)),(17,.d (di (a1.length:Int))),(18,.d (di x.1))],[(3,.box 45 [.d (z8 eSpan t12.Classes),.d (z8 eMapping t12.Decomp),.d (z8 eRange t12.Excluded.Ranges)]),(1008,.row 3 eI.size false (eI.all x.2.1)),(2515,.box 104 [.row 3515]),(3015,.box 87 [.clo 45 [.ptr 2515 0,.d (.pt (eNorm.cells ({Classes:=t12.Classes,Decomp:=t12.Decomp,Excluded:=({Ranges:=t12.Excluded.Ranges}:Set)}:Norm))),.d (.pt [(db a2)]),.ptr 3015 0]]),(3515,.map (xJ kI (eL eI) x.2.2))]⟩) hy1 (wc) ?_
 rintro ⟨v18,r1008,r3515⟩ sy1 p1
 replace p1:k8 a1 t12 a2 v18 r1008 r3515=some sy1:=p1
 unfold k8 at p1
 refine Q13 ?_
 refine yQ p1 (fun p1=>?_) (fun p1=>?_)
 refine Q25 ?_
 have ⟨t20,ht20,p1⟩:=bE p1
 refine q14 yZ ht20 ?_
 refine q49 O3 ht20 ?_
 refine Q1 ?_
 refine Q29 ?_
 refine yP (zAX (lq rfl) rfl) ?_
 refine q0 ?_
 have ⟨t25,ht25,p1⟩:=bE p1
 refine kL rfl (zJE [(3001,2515),(3004,3015),(3120,3515)] (zBA _ ht25) (lq rfl) (by decide) rfl ⟨rfl,rfl,rfl,rfl,rfl,trivial⟩ rfl rfl ⟨rfl,rfl,rfl,trivial⟩ rfl rfl rfl (fun _=>rfl) rfl) ?_
 have ⟨r1008_2,hr1008_2,p1⟩:=bE p1
 refine q34 yZ hr1008_2 ?_
 refine Q19 ?_
 refine Q16 ?_
 cases p1
 exact wc
 refine zJ ?_
 cases p1
 intro q;cases q
 exact zE (wc)
 refine Q0 ?_
 refine q41 zP3 ?_
 refine q24 O39 ?_
 refine q9 ?_
 refine zD0 (zBI (t:=30) (lq rfl) rfl rfl) ?_ (by simp)
 have ⟨t31,ht31,h⟩:=bE h
 refine kL rfl (zBJ [(100,2531)] (zEV ht31) (lq rfl) (by decide) ⟨rfl,rfl,trivial⟩ rfl rfl trivial rfl rfl rfl (fun _=>rfl) rfl) ?_
 refine Q19 ?_
 cases h
 refine zB ?_
 exact ⟨⟨_,_,rfl,rfl,rfl⟩,⟨rfl,trivial⟩⟩
theorem uF {a0 a1 r} (h:kR a0 a1=some r):zI Tryd.prog 42 [(.pt (eColltable_table.cells a0)),(z8 eI a1)] [(z8 eElement r.1),(db r.2)]:=by
 refine co Tryd.func42 ?_;intro _ _ _ _
 unfold kR at h
 refine Q0 ?_
 refine Q90 ?_
 refine q6 yZ ?_
 refine q36 ?_
 have ⟨b11,hb11,h⟩:=bE h
 refine yP ((zC (lq rfl) rfl).bool (oi hb11)) ?_
 refine q21 (.d (z8 eI a1)) ?_
 refine q53 (.d (di (a1.length:Int))) yZ ?_
 refine q21 (.d (.pt (eColltable_table.cells a0))) ?_
 refine sqf (.d (.pt (eColltable_table.cells a0))) rfl (fun hb=>by subst hb;exact zCN (lq rfl) rfl) ?_
 refine q18 (.ip (eColltable_table.cells a0) (0+6)) zS1 ?_
 refine q19 (.d (di a0.longest)) O3 ?_
 refine q32 (.d (db (decide (a0.longest < (a1.length:Int))))) ?_
 refine Q26 ?_
 refine yQ h (fun h=>?_) (fun h=>?_)
 refine Q0 ?_
 refine Q24 ?_
 refine zK (zD4 (t:=4) eElement.size (lq rfl) rfl) ?_
 cases h
 refine zB ?_
 exact zD5 rfl rfl
 refine Q5 ?_
 refine kF MX rfl ?_
 refine q8 ?_
 refine q97 ?_
 refine q17 z2Q ?_
 refine q27 O91 ?_
 refine q8 ?_
 have ⟨t26,ht26,h⟩:=bE h
 refine q26 (zC9 ht26) ?_
 refine uS (zRO (kv:=zBL) (ev:=(eL eElement)) (mp:=a0.entries) (k:=t26) (zero:=[]) (lq rfl) M91 K95 rfl rfl (z0F rfl) (fun _ _=> .nil _ _ _)) ?_
 refine uS (zJ4 (lq rfl) rfl) ?_
 refine uS (zHU (lq rfl) rfl rfl) ?_
 refine uS (zHU (lq rfl) rfl rfl) ?_
 refine q43 ?_
 refine Q50 ?_
 refine Q28 ?_
 refine Q24 ?_
 cases h
 refine zB ?_
 exact zD5 rfl rfl
theorem zCU {a0 a1 r} (h:k5 a0 a1=some r):zI Tryd.prog 43 [(.pt (eColltable_table.cells a0)),(di a1)] [(z8 eElement r)]:=by
 refine co Tryd.func43 ?_;intro _ _ _ _
 unfold k5 at h
 refine Q39 ?_
 have ⟨t6,ht6,h⟩:=bE h
 refine q7 (uQ ht6) ?_
 refine Q41 ?_
 refine yQ h (fun h=>?_) (fun h=>?_)
 refine Q3 ?_
 refine zK (zD4 (t:=4) eElement.size (lq rfl) rfl) ?_
 cases h
 refine zB ?_
 exact zN rfl
 refine Q5 ?_
 refine kF MX rfl ?_
 refine q8 ?_
 refine q97 ?_
 refine q17 zXQ ?_
 refine q94 zP5 ?_
 refine q27 O3 ?_
 refine q8 ?_
 have ⟨t14,ht14,h⟩:=bE h
 refine uS (zSP (lq rfl) rfl rfl ht14) ?_
 refine z08 ?_
 refine q8 ?_
 refine q97 ?_
 refine q17 zXQ ?_
 refine q94 z2O ?_
 refine q27 O3 ?_
 refine q8 ?_
 refine q97 ?_
 refine q17 zXQ ?_
 refine q94 z2P ?_
 refine q27 O3 ?_
 refine uS (zC6 (lq rfl) B37 rfl rfl) ?_
 refine q8 ?_
 have ⟨t28,ht28,h⟩:=bE h
 refine uS (z2H (lq rfl) rfl rfl ht28) ?_
 refine z08 ?_
 refine uS (zC6 (lq rfl) B37 rfl rfl) ?_
 refine uS (zIG (lq rfl) S22 rfl rfl rfl rfl (by decide) rfl) ?_
 refine Q50 ?_
 cases h
 refine zB ?_
 exact zN rfl
theorem zCZ {a0 a1 a2 r} (h:jP a0 a1 a2=some r):zI Tryd.prog 66 [(di a0),(.pt [(.pt (eColltable_table.cells a1))]),(.pt [(di a2)])] [(db r)]:=by
 refine co Tryd.func66 ?_;intro _ _ _ _
 unfold jP at h
 refine Q3 ?_
 refine kM ?_
 refine kF MX rfl ?_
 refine zX6 O81 ?_
 refine q97 ?_
 refine q17 zKL ?_
 refine q27 O39 ?_
 refine q8 ?_
 have ⟨t10,ht10,h⟩:=bE h
 refine q42 S39 ht10 ?_
 refine q94 zKN ?_
 refine uS (uO (en:=eSpan) (l:=a1.classes) (i:=a0) (v:=t10) (off:=1) (lq rfl) O3 rfl ht10 rfl) ?_
 refine zX6 O3 ?_
 refine uS (zJX (lq rfl) rfl rfl) ?_
 refine Q50 ?_
 cases h
 refine zB ?_
 exact zN rfl
theorem zLT {fv1:DV} {a0:Int} {a1:Int→Option (Bool)} (hf1:∀x0 y,a1 x0=some y→FnC Tryd.prog fv1 [(di x0)] [(db y)]) {r:Int} (h:zC8 a0 a1=some r):zI Tryd.prog 65 [(di a0),fv1] [(di r)]:=by
 refine co Tryd.func65 ?_;intro _ _ _ _
 unfold zC8 at h
 refine Q54 ?_
 refine Q24 ?_
 refine Q42 ?_
 have ⟨y1,hy1,h⟩:=bE h
 refine tl (.exit 0) ⟨[(5,.d (di y1))],[]⟩ ?_ ?_
 refine zF (fun x=>⟨[(1,.d fv1),(5,.d (di x.1)),(6,.d (di x.2))],[]⟩) hy1 (wc) ?_
 rintro ⟨v5,v6⟩ sy1 p1
 replace p1:vU a1 v5 v6=some sy1:=p1
 unfold vU at p1
 refine Q49 ?_
 refine yQ p1 (fun p1=>?_) (fun p1=>?_)
 refine zH ?_
 have ⟨y2,hy2,p1⟩:=bE p1
 refine tl .normal ⟨[(1,.d fv1),(5,.d (di y2.1)),(6,.d (di y2.2))],[]⟩ ?_ ?_
 refine Q75 ?_
 refine Q89 ?_
 refine Q65 ?_
 have ⟨t20,ht20,hy2⟩:=bE hy2
 refine yP (zBP (lq rfl) rfl rfl (hf1 _ _ ht20)) ?_
 refine Q41 ?_
 refine yQ hy2 (fun hy2=>?_) (fun hy2=>?_)
 refine Q21 ?_
 cases hy2
 exact zE (wc)
 refine Q68 ?_
 cases hy2
 exact zE (wc)
 cases p1
 exact wc
 refine zJ ?_
 cases p1
 intro q;cases q
 exact zE (wc)
 refine Q32 ?_
 cases h
 refine zB ?_
 exact zN rfl
theorem zDU {a0 a1 r} (h:j6 a0 a1=some r):zI Tryd.prog 44 [(.pt (eColltable_table.cells a0)),(di a1)] [(di r)]:=by
 refine co Tryd.func44 ?_;intro _ _ _ _
 unfold j6 at h
 refine Q0 ?_
 refine q74 ?_
 refine q74 ?_
 refine Q45 ?_
 refine q65 O81 ?_
 refine yP (zCN (lq rfl) rfl) ?_
 refine q5 zKL ?_
 refine q3 O39 ?_
 refine q6 S39 ?_
 refine yP (zGN (lq rfl) rfl) ?_
 have ⟨t12,ht12,h⟩:=bE h
 refine q7 (zLT (fun _ _ q=> .inl ⟨_,_,rfl,zCZ q⟩) ht12) ?_
 refine Q67 ?_
 refine kM ?_
 refine kF MX rfl ?_
 refine q8 ?_
 refine zX6 O81 ?_
 refine q97 ?_
 refine q17 zKL ?_
 refine q27 O39 ?_
 refine uS (zMJ (en:=eSpan) (l:=a0.classes) (lq rfl) S39 rfl) ?_
 refine zX7 ?_
 have ⟨b20,hb20,h⟩:=bE h
 refine uS ((zC (lq rfl) rfl).bool (oi hb20)) ?_
 refine dat (.d (.pt (eColltable_table.cells a0))) rfl (fun hb=>by subst hb;exact zFQ (lq rfl) O81 rfl) ?_
 refine dat (.d (.pt (eColltable_table.cells a0))) rfl (fun hb=>by subst hb;exact zCN (lq rfl) rfl) ?_
 refine q86 (.ip (eColltable_table.cells a0) (0+7)) zKL ?_
 refine q87 (.d (z8 eSpan a0.classes)) O39 ?_
 refine q54 (.d (di t12)) ?_
 have ⟨t26,ht26,h⟩:=bE h
 refine dat (.ip (eSpan.all a0.classes) (t12.toNat*eSpan.size)) rfl (fun hb=>by subst hb;exact zC5 (en:=eSpan) (lq rfl) S39 rfl rfl ht26) ?_
 refine dat (.ip (eSpan.all a0.classes) (t12.toNat*eSpan.size+0)) rfl (fun hb=>by subst hb;exact vN (lq rfl) zKM rfl) ?_
 refine dat (.d (di t26.Lo)) rfl (fun hb=>by subst hb;exact uO (en:=eSpan) (l:=a0.classes) (i:=t12) (v:=t26) (off:=0) (lq rfl) O3 rfl ht26 rfl) ?_
 refine dat (.d (di a1)) rfl (fun hb=>by subst hb;exact zFQ (lq rfl) O3 rfl) ?_
 refine dat (.d (db (decide (t26.Lo≤a1)))) rfl (fun hb=>by subst hb;exact zIF (lq rfl) rfl rfl) ?_
 refine q69 ?_
 refine wK ?_
 refine yQ h (fun h=>?_) (fun h=>?_)
 refine Q0 ?_
 refine q65 O81 ?_
 refine yP (zCN (lq rfl) rfl) ?_
 refine q5 zKL ?_
 refine q3 O39 ?_
 refine q0 ?_
 have ⟨t37,ht37,h⟩:=bE h
 refine q14 S39 ht37 ?_
 refine q90 zKO ?_
 refine yP (uO (en:=eSpan) (l:=a0.classes) (i:=t12) (v:=t37) (off:=2) (lq rfl) O3 rfl ht37 rfl) ?_
 refine Q1 ?_
 cases h
 refine zB ?_
 exact zN rfl
 refine Q43 ?_
 cases h
 refine zB ?_
 exact zN rfl
theorem zDV {a0} {a1} {r:Int×(List Element)×Bool×(List Int)} (h:j7 a0 a1=some r):GC Tryd.prog 35 [.d (.pt (eColltable_table.cells a0)),.row 3001] [(3001,.win 3 eI.size 0 (eI.all a1))] [3001] [.d (di r.1),.d (z8 eElement r.2.1),.d (db r.2.2.1)] [(3001,.win 3 eI.size r.1.toNat (eI.all r.2.2.2))]:=by
 refine zAY Tryd.func35 (by kernel_rfl) rfl (lq rfl) (lq rfl) fun w0 I0 hG0 p0=>?_
 unfold j7 at h
 refine Q0 ?_
 refine q1 ?_
 refine Q53 ?_
 refine yP (zCN (lq rfl) rfl) ?_
 refine q5 zS1 ?_
 refine q3 O3 ?_
 refine q9 ?_
 refine z07 yZ ?_
 refine z03 ?_
 refine Q1 ?_
 refine Q42 ?_
 have ⟨y1,hy1,h⟩:=bE h
 refine tl (.exit 0) ⟨[(0,.d (.pt (eColltable_table.cells a0))),(1,.row 3001),(7,.d (di y1))],[(3001,.win 3 eI.size 0 (eI.all a1))]⟩ ?_ ?_
 refine zF (fun x=>⟨[(0,.d (.pt (eColltable_table.cells a0))),(1,.row 3001),(7,.d (di x))],[(3001,.win 3 eI.size 0 (eI.all a1))]⟩) hy1 (wc) ?_
 rintro v7 sy1 p1
 replace p1:kB a1 a0 v7=some sy1:=p1
 unfold kB at p1
 refine Q4 ?_
 refine Q46 ?_
 refine yQ p1 (fun p1=>?_) (fun p1=>?_)
 refine zH<|yK<|Q4 ?_
 refine q9 ?_
 refine q0 ?_
 have ⟨t31,ht31,p1⟩:=bE p1
 refine yP (zMO (en:=eI) (l:=a1) (lq rfl) yZ rfl rfl rfl ht31) ?_
 have ⟨t32,ht32,p1⟩:=bE p1
 refine kL rfl (z0H (lq rfl) ⟨_,_,rfl,.d _,⟨_,_,rfl,.front rfl ht31,rfl⟩⟩ (uF ht32)) ?_
 refine yP (zIK (lq rfl) rfl) ?_
 refine zX8 ?_
 refine zX8 ?_
 refine yP (zNL (lq rfl)) ?_
 refine Q10 ?_
 refine zG ?_
 refine yQ p1 (fun p1=>?_) (fun p1=>?_)
 refine zJ ?_
 cases p1
 intro q;cases q
 exact zE (wc)
 refine zH<|Q8 ?_
 refine Q52 ?_
 cases p1
 exact wc
 refine zJ ?_
 cases p1
 intro q;cases q
 exact zE (wc)
 refine Q4 ?_
 refine Q63 ?_
 refine yQ h (fun h=>?_) (fun h=>?_)
 refine Q2 ?_
 refine q9 ?_
 have ⟨t42,ht42,h⟩:=bE h
 refine yP (zBV (en:=eI) (l:=a1) (lq rfl) yZ rfl rfl rfl ht42) ?_
 refine yP (zEC (en:=eI) (l:=a1) (i:=(0:Int)) (v:=t42) (lq rfl) O3 rfl rfl ht42 rfl) ?_
 have ⟨t44,ht44,h⟩:=bE h
 refine q7 (zCU ht44) ?_
 refine q1 ?_
 refine Q24 ?_
 refine zK (zRR (id:=3001) ((1:Int).toNat) rfl (Nat.zero_le _)) ?_
 cases h
 refine zB ?_
 exact ⟨⟨_,_,rfl,rfl,⟨_,_,rfl,rfl,⟨_,_,rfl,rfl,rfl⟩⟩⟩,⟨rfl,trivial⟩⟩
 refine zH<|Q39 ?_
 refine Q1 ?_
 refine yK ?_
 have ⟨y2,hy2,h⟩:=bE h
 refine tl (.exit 2) ⟨[(0,.d (.pt (eColltable_table.cells a0))),(1,.row 3001),(7,.d (di y2.1))],[(3001,.win 3 eI.size 0 (eI.all y2.2))]⟩ ?_ ?_
 refine zF (fun x=>⟨[(0,.d (.pt (eColltable_table.cells a0))),(1,.row 3001),(7,.d (di x.1)),(10,.d (di x.2.1)),(11,.d (di x.2.2.1))],[(3001,.win 3 eI.size 0 (eI.all x.2.2.2))]⟩) hy2 (wc) ?_
 rintro ⟨v7,v10,v11,r3001⟩ sy2 p2
 replace p2:yG a0 v7 v10 v11 r3001=some sy2:=p2
 unfold yG at p2
 refine Q4 ?_
 refine q9 ?_
 refine z07 yZ ?_
 refine q2 ?_
 have ⟨b50,hb50,p2⟩:=bE p2
 refine yP ((zC (lq rfl) rfl).bool (oi hb50)) ?_
 refine q20 (.d (di v10)) ?_
 refine q20 (.d (.pt (eColltable_table.cells a0))) ?_
 refine sqt (.d (.pt (eColltable_table.cells a0))) rfl (fun hb=>by subst hb;exact zCN (lq rfl) rfl) ?_
 refine q52 (.ip (eColltable_table.cells a0) (0+8)) zXR ?_
 refine q55 (.d (di a0.top)) O3 ?_
 refine q64 (.d (db (decide (v10 < a0.top)))) ?_
 refine Q47 ?_
 refine yQ p2 (fun p2=>?_) (fun p2=>?_)
 refine Q5 ?_
 have ⟨y3,hy3,p2⟩:=bE p2
 refine yI y3 (.exit 2) (fun y3=>⟨[(0,.d (.pt (eColltable_table.cells a0))),(1,.row 3001),(7,.d (di v7))],[(3001,.win 3 eI.size 0 (eI.all r3001))]⟩) .normal (fun y3=>⟨[(0,.d (.pt (eColltable_table.cells a0))),(1,.row 3001),(7,.d (di y3.1)),(10,.d (di y3.2.1)),(11,.d (di v11))],[(3001,.win 3 eI.size 0 (eI.all y3.2.2))]⟩) ?_ ?_ ?_
 refine yK<|Q27 ?_
 refine q0 ?_
 have ⟨t62,ht62,hy3⟩:=bE hy3
 refine yP (zBV (en:=eI) (l:=r3001) (lq rfl) yZ rfl rfl rfl ht62) ?_
 refine yP (zEC (en:=eI) (l:=r3001) (i:=v11) (v:=t62) (lq rfl) O3 rfl rfl ht62 rfl) ?_
 refine Q65 ?_
 have ⟨t66,ht66,hy3⟩:=bE hy3
 refine q7 (zDU ht66) ?_
 refine Q1 ?_
 refine Q4 ?_
 refine Q63 ?_
 refine yQ hy3 (fun hy3=>?_) (fun hy3=>?_)
 refine zJ ?_
 cases hy3
 exact ⟨rfl,wc⟩
 refine zH<|Q14 ?_
 refine q66 ?_
 refine zG ?_
 refine yQ hy3 (fun hy3=>?_) (fun hy3=>?_)
 refine zJ ?_
 cases hy3
 exact ⟨rfl,wc⟩
 refine zH<|Q4 ?_
 refine q9 ?_
 refine Q20 ?_
 have ⟨t77,ht77,hy3⟩:=bE hy3
 refine yP (zUY (en:=eI) (l:=r3001) (lq rfl) yZ rfl rfl rfl rfl ht77) ?_
 refine q0 ?_
 refine q35 yZ ?_
 have ⟨r80_4,hr80_4,hy3⟩:=bE hy3
 refine kL rfl (zUZ (en:=eI) (l:=r3001) (b:=v7) (lq rfl) yZ rfl rfl ht77 rfl (by simp) hr80_4 (by decide) rfl) ?_
 have ⟨t81,ht81,hy3⟩:=bE hy3
 refine kL rfl (zWM (lq rfl) rfl rfl (uF ht81)) ?_
 refine Q70 ?_
 refine Q53 ?_
 refine Q41 ?_
 refine yQ hy3 (fun hy3=>?_) (fun hy3=>?_)
 refine Q32 ?_
 refine zJ ?_
 cases hy3
 exact ⟨rfl,wc⟩
 refine Q5 ?_
 refine zDM 10 MX rfl ?_
 refine Q76 ?_
 refine z08 ?_
 refine q8 ?_
 refine z08 ?_
 have ⟨t92,ht92,hy3⟩:=bE hy3
 refine uS (zPR (en:=eI) (l:=r3001) (lq rfl) yZ rfl rfl rfl rfl ht92) ?_
 refine q63 ?_
 refine Q38 ?_
 have ⟨t96,ht96,hy3⟩:=bE hy3
 refine uS (zPR (en:=eI) (l:=r3001) (lq rfl) yZ rfl rfl rfl rfl ht96) ?_
 refine wK ?_
 refine kL rfl (z0J (en:=eI) (l:=r3001) (a1:=(wi (v7+1))) (b1:=(wi (v11+1))) (a2:=v7) (b2:=v11) (lq rfl) yZ rfl rfl rfl ht92 ht96 rfl) ?_
 refine zG<|Q60 ?_
 have ⟨t101,ht101,hy3⟩:=bE hy3
 refine yP (zBV (en:=eI) (l:=(cpM r3001 (wi (v7+1)) (wi (v11+1)) v7 v11)) (lq rfl) yZ rfl rfl rfl ht101) ?_
 have ⟨r3001_5,hr3001_5,hy3⟩:=bE hy3
 refine kL rfl (zPS (en:=eI) (l:=(cpM r3001 (wi (v7+1)) (wi (v11+1)) v7 v11)) (i:=v7) (v:=t62) O3 rfl rfl rfl ht101 hr3001_5 rfl rfl rfl rfl) ?_
 refine zG<|Q21 ?_
 cases hy3
 exact ⟨rfl,wc⟩
 rintro y3 rfl
 replace p2:=eL p2
 cases p2
 intro q;cases q
 exact zE (wc)
 rintro y3 rfl
 replace p2:=eR p2
 refine Q21 ?_
 cases p2
 exact wc
 refine zJ ?_
 cases p2
 intro q;cases q
 exact zE (wc)
 refine Q2 ?_
 refine q9 ?_
 refine q0 ?_
 have ⟨t108,ht108,h⟩:=bE h
 refine yP (zMO (en:=eI) (l:=y2.2) (lq rfl) yZ rfl rfl rfl ht108) ?_
 refine zD0 (zRS (tm:=108) (en:=eI) (l:=y2.2) (b:=y2.1) (lq rfl) rfl rfl ht108) ?_ (by simp)
 have ⟨t109,ht109,h⟩:=bE h
 refine kL rfl ((zAW (lq rfl) rfl (uF ht109)).step) ?_
 refine Q70 ?_
 refine Q53 ?_
 refine q0 ?_
 refine q1 ?_
 refine Q24 ?_
 cases h
 refine zB ?_
 exact ⟨⟨_,_,rfl,rfl,⟨_,_,rfl,rfl,⟨_,_,rfl,rfl,rfl⟩⟩⟩,⟨rfl,trivial⟩⟩
set_option maxHeartbeats 8000000 in
theorem zFI {a0 a1 a2 r} (h:wP a0 a1 a2=some r):zI Tryd.prog 29 [(eNorm.dv a0),(eCollation.dv a1),(z8 eI a2)] [(z8 eElement r)]:=by
 refine co Tryd.func29 ?_;intro _ _ _ _
 unfold wP at h
 refine Q44 ?_
 refine q83 ?_
 refine Q67 ?_
 have ⟨t14,ht14,h⟩:=bE h
 have ⟨t16,ht16,h⟩:=bE h
 refine tl .normal ⟨[(2,.d (z8 eI a2)),(3,.d (.pt (eNorm.cells a0))),(7,.ptr 2514 0)],[(2514,.box 93 [.d (z8 eEntry t16.c.Entries),.d (z8 eGroup t16.c.Groups),.d (di t16.c.Base),.d (di t16.c.Second),.d (di t16.c.Third),.row 3014,.d (di t16.longest),.d (z8 eSpan t16.classes),.d (di t16.top)]),(3014,.map (xJ zBL (eL eElement) t16.entries))]⟩ ?_ ?_
 refine zBQ MX ?_
 refine xn [0,2] ?_
 refine xa rfl (zDN (lq rfl) G49 rfl rfl) ?_ ?_
 refine xn [1,2] ?_
 refine xb rfl (zBJ [(13,2514),(11,3014)] (zBN ht14) (lq rfl) (by decide) ⟨rfl,trivial⟩ rfl rfl trivial rfl rfl rfl (fun _=>rfl) rfl) ?_ ?_
 refine xn [2] ?_
 refine z09 G45 ?_
 refine xn [3] ?_
 refine xd rfl (zBJ [(3000,2514),(3105,3014)] (uE ht16) (lq rfl) (by decide) ⟨rfl,rfl,trivial⟩ rfl rfl ⟨rfl,rfl,trivial⟩ rfl rfl rfl (fun _=>rfl) rfl) ?_
 refine xn [4] ?_
 refine xc rfl (u5 (lq rfl) rfl) ?_
 exact ae
 refine z09 G45 ?_
 refine xn [1] ?_
 refine xd rfl (zBJ [(13,2514),(11,3014)] (zBN ht14) (lq rfl) (by decide) ⟨rfl,trivial⟩ rfl rfl trivial rfl rfl rfl (fun _=>rfl) rfl) ?_
 refine xn [3] ?_
 refine xd rfl (zBJ [(3000,2514),(3105,3014)] (uE ht16) (lq rfl) (by decide) ⟨rfl,rfl,trivial⟩ rfl rfl ⟨rfl,rfl,trivial⟩ rfl rfl rfl (fun _=>rfl) rfl) ?_
 refine xn [4] ?_
 refine xc rfl (u5 (lq rfl) rfl) ?_
 exact ae
 refine z09 G45 ?_
 refine xn [0] ?_
 refine z09 G49 ?_
 refine xn [1] ?_
 refine xd rfl (zBJ [(13,2514),(11,3014)] (zBN ht14) (lq rfl) (by decide) ⟨rfl,trivial⟩ rfl rfl trivial rfl rfl rfl (fun _=>rfl) rfl) ?_
 refine xn [3] ?_
 refine xd rfl (zBJ [(3000,2514),(3105,3014)] (uE ht16) (lq rfl) (by decide) ⟨rfl,rfl,trivial⟩ rfl rfl ⟨rfl,rfl,trivial⟩ rfl rfl rfl (fun _=>rfl) rfl) ?_
 refine xn [4] ?_
 refine xc rfl (u5 (lq rfl) rfl) ?_
 exact ae
 refine zK (zNN (bid:=2514) (off:=5) rfl rfl rfl) ?_
 refine zK (zU (t:=7) (lq rfl) rfl rfl rfl) ?_
 refine Q3 ?_
 refine zK (vM (t:=8) 1008 37 eElement.size (lq rfl) (lq rfl) rfl rfl) ?_
 refine Q11 ?_
 refine q33 G45 ?_
 refine q0 ?_
 have ⟨t19,ht19,h⟩:=bE h
 refine kL rfl (zBJ [(2531,2519)] (zH5 ht19) (lq rfl) (by decide) ⟨rfl,rfl,rfl,trivial⟩ rfl rfl trivial rfl rfl rfl (fun _=>rfl) rfl) ?_
 refine Q19 ?_
 refine zK (zNM (id:=2519) rfl) ?_
 refine yK ?_
 have ⟨y1,hy1,h⟩:=bE h
 refine tl (.exit 0) ⟨[(8,.row 1008)],[(1008,.row 37 eElement.size false (eElement.all y1))]⟩ ?_ ?_
 refine zF (fun x=>⟨[(7,.d (.pt (eColltable_table.cells t16))),(8,.row 1008),(9,.row 2519)],[(1008,.row 37 eElement.size false (eElement.all x.1)),(2519,.win 3 eI.size 0 (eI.all x.2))]⟩) hy1 (wc) ?_
 rintro ⟨r1008,r2519⟩ sy1 p1
 replace p1:k7 t16 r1008 r2519=some sy1:=p1
 unfold k7 at p1
 refine Q11 ?_
 refine q9 ?_
 refine z07 yZ ?_
 refine Q46 ?_
 refine yQ p1 (fun p1=>?_) (fun p1=>?_)
 refine zH<|Q64 ?_
 refine q9 ?_
 have ⟨t26,ht26,p1⟩:=bE p1
 refine kL rfl (zBJ [(3001,2519)] (zDV ht26) (lq rfl) (by decide) ⟨rfl,rfl,trivial⟩ rfl rfl ⟨rfl,trivial⟩ rfl rfl rfl (fun _=>rfl) rfl) ?_
 refine yP (zIK (lq rfl) rfl) ?_
 refine zX8 ?_
 refine zX8 ?_
 refine zX8 ?_
 refine q1 ?_
 refine Q24 ?_
 refine Q27 ?_
 refine q0 ?_
 have ⟨r1008_2,hr1008_2,p1⟩:=bE p1
 refine q34 S22 hr1008_2 ?_
 refine Q19 ?_
 refine Q29 ?_
 refine q0 ?_
 have ⟨r2519_3,hr2519_3,p1⟩:=bE p1
 refine kL rfl (zXD (en:=eI) (l:=t26.2.2.2) (lq rfl) yZ rfl rfl rfl hr2519_3 (Nat.le_refl _) rfl) ?_
 refine Q19 ?_
 cases p1
 exact wc
 refine zJ ?_
 cases p1
 intro q;cases q
 exact zE (wc)
 refine Q27 ?_
 refine Q19 ?_
 cases h
 refine zB ?_
 exact zN rfl
theorem zLU {a0 a1 a2 a3 r} (h:zA2 a0 a1 a2 a3=some r):zI Tryd.prog 21 [(eNorm.dv a0),(eCollation.dv a1),(eOptions.dv a2),(z8 eI a3)] [(z8 eI r)]:=by
 refine co Tryd.func21 ?_;intro _ _ _ _
 unfold zA2 at h
 refine Q44 ?_
 refine q83 ?_
 refine q75 ?_
 refine Q45 ?_
 refine yP ((kQ (lq rfl) G24 rfl rfl rfl rfl).data rfl) ?_
 have ⟨t15,ht15,h⟩:=bE h
 refine q7 (zB5 ht15) ?_
 refine Q79 ?_
 refine Q3 ?_
 refine zK (vM (t:=9) 1009 3 eI.size (lq rfl) (lq rfl) rfl rfl) ?_
 refine kM<|kM ?_
 refine kF MX rfl ?_
 refine q72 G45 ?_
 refine q72 G49 ?_
 refine q8 ?_
 have ⟨t19,ht19,h⟩:=bE h
 refine q26 (zFI ht19) ?_
 refine uS ((kQ (lq rfl) G24 rfl rfl rfl rfl).data rfl) ?_
 have ⟨t21,ht21,h⟩:=bE h
 refine q26 (zA9 ht21) ?_
 refine uS (zMJ (en:=(eL eI)) (l:=t21) (lq rfl) S29 rfl) ?_
 refine q8 ?_
 refine wK<|yK ?_
 have ⟨y1,hy1,h⟩:=bE h
 refine tl (.exit 0) ⟨[(3,.d (z8 eI a3)),(4,.d (.pt (eNorm.cells a0))),(6,.ptr 6 0),(9,.row 1009)],[(6,.box 24 [.d (di t15.Strength),.d (di t15.Variable),.d (db t15.Backward),.d (db t15.Identical)]),(1009,.row 3 eI.size false (eI.all y1))]⟩ ?_ ?_
 refine zF (fun x=>⟨[(3,.d (z8 eI a3)),(4,.d (.pt (eNorm.cells a0))),(6,.ptr 6 0),(9,.row 1009),(21,.d (z8 (eL eI) t21)),(22,.d (di (t21.length:Int))),(23,.d (di x.1))],[(6,.box 24 [.d (di t15.Strength),.d (di t15.Variable),.d (db t15.Backward),.d (db t15.Identical)]),(1009,.row 3 eI.size false (eI.all x.2))]⟩) hy1 (wc) ?_
 rintro ⟨v23,r1009⟩ sy1 p1
 replace p1:vV t21 v23 r1009=some sy1:=p1
 unfold vV at p1
 refine Q13 ?_
 refine yQ p1 (fun p1=>?_) (fun p1=>?_)
 refine Q9 ?_
 refine Q2 ?_
 have ⟨t26,ht26,p1⟩:=bE p1
 refine q14 S29 ht26 ?_
 refine yP (uO (en:=(eL eI)) (l:=t21) (i:=v23) (v:=t26) (off:=0) (lq rfl) O32 rfl ht26 rfl) ?_
 refine Q90 ?_
 refine Q46 ?_
 have ⟨y2,hy2,p1⟩:=bE p1
 refine tl .normal ⟨[(3,.d (z8 eI a3)),(4,.d (.pt (eNorm.cells a0))),(6,.ptr 6 0),(9,.row 1009),(11,.d (z8 eI t26)),(21,.d (z8 (eL eI) t21)),(22,.d (di (t21.length:Int))),(23,.d (di v23))],[(6,.box 24 [.d (di t15.Strength),.d (di t15.Variable),.d (db t15.Backward),.d (db t15.Identical)]),(1009,.row 3 eI.size false (eI.all y2))]⟩ ?_ ?_
 refine yQ hy2 (fun hy2=>?_) (fun hy2=>?_)
 refine Q29 ?_
 refine q35 yZ ?_
 have ⟨r1009_3,hr1009_3,hy2⟩:=bE hy2
 refine q34 yZ hr1009_3 ?_
 refine Q19 ?_
 cases hy2
 exact zE (wc)
 refine zH ?_
 cases hy2
 exact zE (wc)
 refine Q29 ?_
 refine q0 ?_
 have ⟨r1009_4,hr1009_4,p1⟩:=bE p1
 refine q34 yZ hr1009_4 ?_
 refine Q19 ?_
 refine Q16 ?_
 cases p1
 exact wc
 refine zJ ?_
 cases p1
 intro q;cases q
 exact zE (wc)
 refine Q11 ?_
 refine q41 z61 ?_
 refine q24 O4 ?_
 refine Q41 ?_
 refine yQ h (fun h=>?_) (fun h=>?_)
 refine Q27 ?_
 refine Q19 ?_
 cases h
 refine zB ?_
 exact zN rfl
 refine zH<|Q27 ?_
 refine q35 yZ ?_
 have ⟨r1009_5,hr1009_5,h⟩:=bE h
 refine q34 yZ hr1009_5 ?_
 refine Q19 ?_
 refine Q11 ?_
 refine q33 G45 ?_
 refine q0 ?_
 have ⟨t46,ht46,h⟩:=bE h
 refine q7 (zH4 ht46) ?_
 refine Q58 ?_
 have ⟨y6,hy6,h⟩:=bE h
 refine tl (.exit 2) ⟨[(9,.row 1009)],[(1009,.row 3 eI.size false (eI.all y6))]⟩ ?_ ?_
 refine zF (fun x=>⟨[(9,.row 1009),(46,.d (z8 eI t46)),(47,.d (di (t46.length:Int))),(48,.d (di x.1))],[(1009,.row 3 eI.size false (eI.all x.2))]⟩) hy6 (wc) ?_
 rintro ⟨v48,r1009⟩ sy6 p6
 replace p6:vW t46 v48 r1009=some sy6:=p6
 unfold vW at p6
 refine Q13 ?_
 refine yQ p6 (fun p6=>?_) (fun p6=>?_)
 refine Q5 ?_
 have ⟨y7,hy7,p6⟩:=bE p6
 refine tl .normal ⟨[(9,.row 1009),(46,.d (z8 eI t46)),(47,.d (di (t46.length:Int))),(48,.d (di v48))],[(1009,.row 3 eI.size false (eI.all y7))]⟩ ?_ ?_
 refine yK<|Q0 ?_
 have ⟨t50,ht50,hy7⟩:=bE hy7
 refine q14 yZ ht50 ?_
 refine q49 O3 ht50 ?_
 refine Q10 ?_
 refine q48 ?_
 have ⟨b54,hb54,hy7⟩:=bE hy7
 refine yP ((zC (lq rfl) rfl).bool (oi hb54)) ?_
 refine q20 (.d (di t50)) ?_
 refine q76 (.d (db (decide (t50≤1114111)))) ?_
 refine Q47 ?_
 refine yQ hy7 (fun hy7=>?_) (fun hy7=>?_)
 refine Q29 ?_
 refine q0 ?_
 refine q4 ?_
 refine q35 yZ ?_
 have ⟨r1009_8,hr1009_8,hy7⟩:=bE hy7
 refine q34 yZ hr1009_8 ?_
 refine Q19 ?_
 cases hy7
 exact zE (wc)
 refine zH ?_
 cases hy7
 exact zE (wc)
 refine Q16 ?_
 cases p6
 exact wc
 refine zJ ?_
 cases p6
 intro q;cases q
 exact zE (wc)
 refine Q27 ?_
 refine Q19 ?_
 cases h
 refine zB ?_
 exact zN rfl
theorem zI5 {a0 a1 r} (h:zAM a0 a1=some r):zI Tryd.prog 16 [(z8 eI a0),(z8 eI a1)] [(di r)]:=by
 refine co Tryd.func16 ?_;intro _ _ _ _
 unfold zAM at h
 refine Q3 ?_
 refine Q66 ?_
 have ⟨y1,hy1,h⟩:=bE h
 refine yI y1 (.exit 0) (fun y1=>⟨[(0,.d (z8 eI a0)),(1,.d (z8 eI a1))],[]⟩) .ret (fun y1=>⟨[(4,.d (di y1))],[]⟩) ?_ ?_ ?_
 refine zF (fun x=>⟨[(0,.d (z8 eI a0)),(1,.d (z8 eI a1)),(5,.d (di x))],[]⟩) hy1 (wc) ?_
 rintro v5 sy1 p1
 replace p1:wE a0 a1 v5=some sy1:=p1
 unfold wE at p1
 refine Q14 ?_
 refine q6 yZ ?_
 refine q2 ?_
 have ⟨b10,hb10,p1⟩:=bE p1
 refine yP ((zC (lq rfl) rfl).bool (oi hb10)) ?_
 refine q20 (.d (di v5)) ?_
 refine q20 (.d (z8 eI a1)) ?_
 refine z4L (.d (di (a1.length:Int))) yZ ?_
 refine q64 (.d (db (decide (v5 < (a1.length:Int))))) ?_
 refine Q47 ?_
 refine yQ p1 (fun p1=>?_) (fun p1=>?_)
 refine Q9 ?_
 refine kM<|kM ?_
 refine kF MX rfl ?_
 refine Q38 ?_
 have ⟨t20,ht20,p1⟩:=bE p1
 refine q42 yZ ht20 ?_
 refine q70 O3 ht20 ?_
 refine Q38 ?_
 have ⟨t24,ht24,p1⟩:=bE p1
 refine q42 yZ ht24 ?_
 refine q70 O3 ht24 ?_
 refine zX7 ?_
 refine wK ?_
 refine yQ p1 (fun p1=>?_) (fun p1=>?_)
 refine Q22 ?_
 cases p1
 intro q;cases q
 exact ⟨rfl,wc⟩
 refine Q5 ?_
 refine kF MX rfl ?_
 refine Q38 ?_
 have ⟨t29,ht29,p1⟩:=bE p1
 refine q42 yZ ht29 ?_
 refine q70 O3 ht29 ?_
 refine Q38 ?_
 have ⟨t33,ht33,p1⟩:=bE p1
 refine q42 yZ ht33 ?_
 refine q70 O3 ht33 ?_
 refine q85 ?_
 refine wK ?_
 refine yQ p1 (fun p1=>?_) (fun p1=>?_)
 refine Q22 ?_
 cases p1
 intro q;cases q
 exact ⟨rfl,wc⟩
 refine Q59 ?_
 cases p1
 exact wc
 refine zJ ?_
 cases p1
 intro q;cases q
 exact ⟨rfl,wc⟩
 rintro y1 rfl
 replace h:=eL h
 refine Q4 ?_
 refine q6 yZ ?_
 refine q0 ?_
 refine q6 yZ ?_
 refine Q7 ?_
 refine yQ h (fun h=>?_) (fun h=>?_)
 refine Q3 ?_
 cases h
 refine zB ?_
 exact zN rfl
 refine zH<|Q4 ?_
 refine q6 yZ ?_
 refine q0 ?_
 refine q6 yZ ?_
 refine Q46 ?_
 refine yQ h (fun h=>?_) (fun h=>?_)
 refine Q3 ?_
 cases h
 refine zB ?_
 exact zN rfl
 refine Q43 ?_
 cases h
 refine zB ?_
 exact zN rfl
 rintro y1 rfl
 replace h:=eR h
 cases h
 exact zN rfl
theorem zGH {a0 a1 r} (h:uA a0 a1=some r):zI Tryd.prog 17 [(z8 eI a0),(z8 eI a1)] [(db r)]:=by
 refine co Tryd.func17 ?_;intro _ _ _ _
 unfold uA at h
 refine Q3 ?_
 refine Q28 ?_
 have ⟨t7,ht7,h⟩:=bE h
 refine q7 (zI5 ht7) ?_
 refine Q73 ?_
 cases h
 refine zB ?_
 exact zN rfl
theorem zI6 {a0 r} (h:zAN a0=some r):zI Tryd.prog 14 [(z8 eI a0)] [(ds r)]:=by
 refine co Tryd.func14 ?_;intro _ _ _ _
 unfold zAN at h
 refine Q3 ?_
 refine Q3 ?_
 refine zK (vM (t:=3) 1003 5 e8.size (lq rfl) (lq rfl) rfl rfl) ?_
 refine Q4 ?_
 refine Q58 ?_
 have ⟨y1,hy1,h⟩:=bE h
 refine tl (.exit 0) ⟨[(3,.row 1003)],[(1003,.row 5 e8.size false (e8.all y1))]⟩ ?_ ?_
 refine zF (fun x=>⟨[(3,.row 1003),(7,.d (z8 eI a0)),(8,.d (di (a0.length:Int))),(9,.d (di x.1))],[(1003,.row 5 e8.size false (e8.all x.2))]⟩) hy1 (wc) ?_
 rintro ⟨v9,r1003⟩ sy1 p1
 replace p1:u9 a0 v9 r1003=some sy1:=p1
 unfold u9 at p1
 refine Q13 ?_
 refine yQ p1 (fun p1=>?_) (fun p1=>?_)
 refine Q25 ?_
 have ⟨t11,ht11,p1⟩:=bE p1
 refine q14 yZ ht11 ?_
 refine q49 O3 ht11 ?_
 refine Q10 ?_
 refine q28 Tryd.underlying3 Tryd.underlying69 ?_
 refine Q1 ?_
 refine Q29 ?_
 refine q0 ?_
 refine q45 ?_
 refine q28 Tryd.underlying69 Tryd.underlying5 ?_
 refine q0 ?_
 refine q45 ?_
 refine q28 Tryd.underlying69 Tryd.underlying5 ?_
 refine q0 ?_
 refine q45 ?_
 refine q28 Tryd.underlying69 Tryd.underlying5 ?_
 refine q0 ?_
 refine q28 Tryd.underlying69 Tryd.underlying5 ?_
 refine q35 S68 ?_
 have ⟨r1003_2,hr1003_2,p1⟩:=bE p1
 refine q34 S68 hr1003_2 ?_
 refine Q19 ?_
 refine Q16 ?_
 cases p1
 exact wc
 refine zJ ?_
 cases p1
 intro q;cases q
 exact zE (wc)
 refine Q27 ?_
 refine yP (z36 (lq rfl) Tryd.underlying68 Tryd.underlying9 Tryd.underlying5 rfl rfl) ?_
 refine Q1 ?_
 cases h
 refine zB ?_
 exact zN rfl
set_option maxHeartbeats 8000000 in
set_option maxRecDepth 40000 in
theorem zGI {r} (h:zA3=some r):zI Tryd.prog 8 [] [(db r)]:=by
 refine co Tryd.func8 ?_;intro _ _ _ _
 unfold zA3 at h
 refine Q3 ?_
 refine Q0 ?_
 refine q51 B37 ?_
 refine q51 B37 ?_
 refine q35 S22 ?_
 refine Q10 ?_
 refine q51 B24 ?_
 have ⟨t10,ht10,h⟩:=bE h
 refine q7 (zA9 ht10) ?_
 refine Q67 ?_
 have ⟨t13,ht13,h⟩:=bE h
 have ⟨t17,ht17,h⟩:=bE h
 refine tl .normal ⟨[(2,.d (z8 (eL eI) t10)),(3,.ptr 3 0)],[(3,.box 49 [.d (z8 eEntry (({Entries:=[({Codes:=[97],Elements:=t13}:Entry),({Codes:=[98],Elements:=t17}:Entry)],Groups:=[],Base:=100,Second:=32,Third:=2}:Collation).Entries)),.d (z8 eGroup (({Entries:=[({Codes:=[97],Elements:=t13}:Entry),({Codes:=[98],Elements:=t17}:Entry)],Groups:=[],Base:=100,Second:=32,Third:=2}:Collation).Groups)),.d (di (({Entries:=[({Codes:=[97],Elements:=t13}:Entry),({Codes:=[98],Elements:=t17}:Entry)],Groups:=[],Base:=100,Second:=32,Third:=2}:Collation).Base)),.d (di (({Entries:=[({Codes:=[97],Elements:=t13}:Entry),({Codes:=[98],Elements:=t17}:Entry)],Groups:=[],Base:=100,Second:=32,Third:=2}:Collation).Second)),.d (di (({Entries:=[({Codes:=[97],Elements:=t13}:Entry),({Codes:=[98],Elements:=t17}:Entry)],Groups:=[],Base:=100,Second:=32,Third:=2}:Collation).Third))])]⟩ ?_ ?_
 refine zBQ MX ?_
 refine xm 1 ?_
 refine zRX (en:=eElement) (i:=2) rfl (lq rfl) S22 rfl rfl ht13 rfl (by kernel_rfl) (by kernel_rfl) (by kernel_rfl) ?_
 refine xm 5 ?_
 refine zRY (en:=eElement) (i:=6) rfl (lq rfl) S22 rfl rfl ht17 rfl (by kernel_rfl) (by kernel_rfl) (by kernel_rfl) ?_
 refine xn [0,4,10] ?_
 refine q80 yZ ?_ ?_
 refine jM (bs:=eEntry.cells ({Codes:=[97],Elements:=t13}:Entry)) (i:=3) rfl (lq rfl) B58 rfl rfl (nlE (nlE nl0)) rfl (by kernel_rfl) (by kernel_rfl) (by kernel_rfl) ?_
 refine xn [4,10] ?_
 refine q80 yZ ?_ ?_
 refine jM (bs:=eEntry.cells ({Codes:=[98],Elements:=t17}:Entry)) (i:=7) rfl (lq rfl) B58 rfl rfl (nlE (nlE nl0)) rfl (by kernel_rfl) (by kernel_rfl) (by kernel_rfl) ?_
 refine xn [8,10] ?_
 refine q80 S46 ?_ ?_
 refine jM (bs:=eCollation.cells ({Entries:=[({Codes:=[97],Elements:=t13}:Entry),({Codes:=[98],Elements:=t17}:Entry)],Groups:=[],Base:=100,Second:=32,Third:=2}:Collation)) (i:=9) rfl (lq rfl) B49 rfl rfl (nlE (nlN (nlE (nlE (nlE nl0))))) rfl (by kernel_rfl) (by kernel_rfl) (by kernel_rfl) ?_
 refine xn [10] ?_
 refine q81 ?_
 refine Q77 ?_
 exact ae
 refine q81 ?_
 refine xn [8] ?_
 refine q60 S46 ?_
 refine jM (bs:=eCollation.cells ({Entries:=[({Codes:=[97],Elements:=t13}:Entry),({Codes:=[98],Elements:=t17}:Entry)],Groups:=[],Base:=100,Second:=32,Third:=2}:Collation)) (i:=9) rfl (lq rfl) B49 rfl rfl (nlE (nlN (nlE (nlE (nlE nl0))))) rfl (by kernel_rfl) (by kernel_rfl) (by kernel_rfl) ?_
 refine Q77 ?_
 exact ae
 refine q81 ?_
 refine xn [4] ?_
 refine q60 yZ ?_
 refine jM (bs:=eEntry.cells ({Codes:=[98],Elements:=t17}:Entry)) (i:=7) rfl (lq rfl) B58 rfl rfl (nlE (nlE nl0)) rfl (by kernel_rfl) (by kernel_rfl) (by kernel_rfl) ?_
 refine xn [8] ?_
 refine q60 S46 ?_
 refine jM (bs:=eCollation.cells ({Entries:=[({Codes:=[97],Elements:=t13}:Entry),({Codes:=[98],Elements:=t17}:Entry)],Groups:=[],Base:=100,Second:=32,Third:=2}:Collation)) (i:=9) rfl (lq rfl) B49 rfl rfl (nlE (nlN (nlE (nlE (nlE nl0))))) rfl (by kernel_rfl) (by kernel_rfl) (by kernel_rfl) ?_
 refine Q77 ?_
 exact ae
 refine q80 yZ ?_ ?_
 refine jM (bs:=eEntry.cells ({Codes:=[98],Elements:=t17}:Entry)) (i:=7) rfl (lq rfl) B58 rfl rfl (nlE (nlE nl0)) rfl (by kernel_rfl) (by kernel_rfl) (by kernel_rfl) ?_
 refine xn [0,10] ?_
 refine q80 yZ ?_ ?_
 refine jM (bs:=eEntry.cells ({Codes:=[97],Elements:=t13}:Entry)) (i:=3) rfl (lq rfl) B58 rfl rfl (nlE (nlE nl0)) rfl (by kernel_rfl) (by kernel_rfl) (by kernel_rfl) ?_
 refine xn [8,10] ?_
 refine q80 S46 ?_ ?_
 refine jM (bs:=eCollation.cells ({Entries:=[({Codes:=[97],Elements:=t13}:Entry),({Codes:=[98],Elements:=t17}:Entry)],Groups:=[],Base:=100,Second:=32,Third:=2}:Collation)) (i:=9) rfl (lq rfl) B49 rfl rfl (nlE (nlN (nlE (nlE (nlE nl0))))) rfl (by kernel_rfl) (by kernel_rfl) (by kernel_rfl) ?_
 refine xn [10] ?_
 refine q81 ?_
 refine Q77 ?_
 exact ae
 refine q81 ?_
 refine xn [8] ?_
 refine q60 S46 ?_
 refine jM (bs:=eCollation.cells ({Entries:=[({Codes:=[97],Elements:=t13}:Entry),({Codes:=[98],Elements:=t17}:Entry)],Groups:=[],Base:=100,Second:=32,Third:=2}:Collation)) (i:=9) rfl (lq rfl) B49 rfl rfl (nlE (nlN (nlE (nlE (nlE nl0))))) rfl (by kernel_rfl) (by kernel_rfl) (by kernel_rfl) ?_
 refine Q77 ?_
 exact ae
 refine q81 ?_
 refine xn [0] ?_
 refine q60 yZ ?_
 refine jM (bs:=eEntry.cells ({Codes:=[97],Elements:=t13}:Entry)) (i:=3) rfl (lq rfl) B58 rfl rfl (nlE (nlE nl0)) rfl (by kernel_rfl) (by kernel_rfl) (by kernel_rfl) ?_
 refine xn [8] ?_
 refine q60 S46 ?_
 refine jM (bs:=eCollation.cells ({Entries:=[({Codes:=[97],Elements:=t13}:Entry),({Codes:=[98],Elements:=t17}:Entry)],Groups:=[],Base:=100,Second:=32,Third:=2}:Collation)) (i:=9) rfl (lq rfl) B49 rfl rfl (nlE (nlN (nlE (nlE (nlE nl0))))) rfl (by kernel_rfl) (by kernel_rfl) (by kernel_rfl) ?_
 refine Q77 ?_
 exact ae
 refine q81 ?_
 refine xn [0,4] ?_
 refine q80 yZ ?_ ?_
 refine jM (bs:=eEntry.cells ({Codes:=[97],Elements:=t13}:Entry)) (i:=3) rfl (lq rfl) B58 rfl rfl (nlE (nlE nl0)) rfl (by kernel_rfl) (by kernel_rfl) (by kernel_rfl) ?_
 refine xn [4] ?_
 refine q60 yZ ?_
 refine jM (bs:=eEntry.cells ({Codes:=[98],Elements:=t17}:Entry)) (i:=7) rfl (lq rfl) B58 rfl rfl (nlE (nlE nl0)) rfl (by kernel_rfl) (by kernel_rfl) (by kernel_rfl) ?_
 refine xn [8] ?_
 refine q60 S46 ?_
 refine jM (bs:=eCollation.cells ({Entries:=[({Codes:=[97],Elements:=t13}:Entry),({Codes:=[98],Elements:=t17}:Entry)],Groups:=[],Base:=100,Second:=32,Third:=2}:Collation)) (i:=9) rfl (lq rfl) B49 rfl rfl (nlE (nlN (nlE (nlE (nlE nl0))))) rfl (by kernel_rfl) (by kernel_rfl) (by kernel_rfl) ?_
 refine Q77 ?_
 exact ae
 refine q60 yZ ?_
 refine jM (bs:=eEntry.cells ({Codes:=[98],Elements:=t17}:Entry)) (i:=7) rfl (lq rfl) B58 rfl rfl (nlE (nlE nl0)) rfl (by kernel_rfl) (by kernel_rfl) (by kernel_rfl) ?_
 refine xn [0] ?_
 refine q60 yZ ?_
 refine jM (bs:=eEntry.cells ({Codes:=[97],Elements:=t13}:Entry)) (i:=3) rfl (lq rfl) B58 rfl rfl (nlE (nlE nl0)) rfl (by kernel_rfl) (by kernel_rfl) (by kernel_rfl) ?_
 refine xn [8] ?_
 refine q60 S46 ?_
 refine jM (bs:=eCollation.cells ({Entries:=[({Codes:=[97],Elements:=t13}:Entry),({Codes:=[98],Elements:=t17}:Entry)],Groups:=[],Base:=100,Second:=32,Third:=2}:Collation)) (i:=9) rfl (lq rfl) B49 rfl rfl (nlE (nlN (nlE (nlE (nlE nl0))))) rfl (by kernel_rfl) (by kernel_rfl) (by kernel_rfl) ?_
 refine Q77 ?_
 exact ae
 refine zK (zU (t:=3) (lq rfl) rfl rfl rfl) ?_
 refine Q0 ?_
 refine yP ((zC6 (lq rfl) B45 rfl rfl).nils (bs:=eNorm.cells ({Classes:=[],Decomp:=[],Excluded:=(({Ranges:=[]}):Set)}:Norm)) (nlN (nlN (nlN nl0)))) ?_
 refine q33 G49 ?_
 refine q51 B24 ?_
 refine q35 yZ ?_
 have ⟨t25,ht25,h⟩:=bE h
 refine q7 (zLU ht25) ?_
 refine Q10 ?_
 refine q6 S29 ?_
 refine q36 ?_
 have ⟨b29,hb29,h⟩:=bE h
 refine yP ((zC (lq rfl) rfl).bool (oi hb29)) ?_
 refine q20 (.d (z8 eI t25)) ?_
 refine sqt (.d (z8 eI [16,17,0,32,32])) rfl (fun hb=>by subst hb;exact zIG (lq rfl) yZ rfl rfl rfl rfl (by decide) rfl) ?_
 have ⟨t32,ht32,h⟩:=bE h
 refine sqt (.d (db t32)) rfl (fun hb=>by subst hb;exact zAW (lq rfl) rfl (zGH ht32)) ?_
 refine q16 ?_
 have ⟨b34,hb34,h⟩:=bE h
 refine yP ((zC (lq rfl) rfl).bool (oi hb34)) ?_
 refine sqt (.d (z8 eI [258])) rfl (fun hb=>by subst hb;exact zIG (lq rfl) yZ rfl rfl rfl rfl (by decide) rfl) ?_
 have ⟨t36,ht36,h⟩:=bE h
 refine sqt (.d (ds t36)) rfl (fun hb=>by subst hb;exact zAW (lq rfl) rfl (zI6 ht36)) ?_
 refine sqt (.d (db (t36== [0,0,1,2]))) rfl (fun hb=>by subst hb;exact zRK (a:=t36) (b:=[0,0,1,2]) (lq rfl) rfl rfl) ?_
 refine q16 ?_
 have ⟨b39,hb39,h⟩:=bE h
 refine yP ((zC (lq rfl) rfl).bool (oi hb39)) ?_
 refine sqt (.d (eOptions.dv ({Strength:=0,Variable:=0,Backward:=false,Identical:=false}:Options))) rfl (fun hb=>by subst hb;exact zC6 (lq rfl) B24 rfl rfl) ?_
 have ⟨t41,ht41,h⟩:=bE h
 refine sqt (.d (di t41)) rfl (fun hb=>by subst hb;exact zAW (lq rfl) rfl (zAT (gT ht41))) ?_
 refine q62 (.d (db (decide (t41=1)))) ?_
 refine q16 ?_
 have ⟨b44,hb44,h⟩:=bE h
 refine yP ((zC (lq rfl) rfl).bool (oi hb44)) ?_
 refine sqt (.d (eOptions.dv ({Strength:=1,Variable:=0,Backward:=false,Identical:=false}:Options))) rfl (fun hb=>by subst hb;exact zC6 (lq rfl) B24 rfl rfl) ?_
 have ⟨t46,ht46,h⟩:=bE h
 refine sqt (.d (di t46)) rfl (fun hb=>by subst hb;exact zAW (lq rfl) rfl (zAT (gT ht46))) ?_
 refine q62 (.d (db (decide (t46=8)))) ?_
 refine Q35 ?_
 cases h
 refine zB ?_
 exact zN rfl
theorem zGJ {a0 r} (h:zA4 a0=some r):zI Tryd.prog 10 [(eOptions.dv a0)] [(di r)]:=by
 refine co Tryd.func10 ?_;intro _ _ _ _
 unfold zA4 at h
 refine Q61 ?_
 refine Q48 ?_
 refine q5 zMT ?_
 refine Q72 ?_
 have ⟨b6,hb6,h⟩:=bE h
 refine yP ((zC (lq rfl) rfl).bool (oi hb6)) ?_
 refine q18 (.ip (eOptions.cells a0) (0+0)) zMT ?_
 refine q19 (.d (di a0.Strength)) O3 ?_
 refine q32 (.d (db (decide (4 < a0.Strength)))) ?_
 refine Q26 ?_
 refine yQ h (fun h=>?_) (fun h=>?_)
 refine Q3 ?_
 cases h
 refine zB ?_
 exact zN rfl
 refine Q55 ?_
 refine q5 zP0 ?_
 refine Q72 ?_
 have ⟨b14,hb14,h⟩:=bE h
 refine yP ((zC (lq rfl) rfl).bool (oi hb14)) ?_
 refine q18 (.ip (eOptions.cells a0) (0+1)) zP0 ?_
 refine q19 (.d (di a0.Variable)) O3 ?_
 refine q32 (.d (db (decide (3 < a0.Variable)))) ?_
 refine Q26 ?_
 refine yQ h (fun h=>?_) (fun h=>?_)
 refine Q3 ?_
 cases h
 refine zB ?_
 exact zN rfl
 refine Q43 ?_
 cases h
 refine zB ?_
 exact zN rfl
theorem zI7 {a0 r} (h:zAO a0=some r):zI Tryd.prog 25 [(eOptions.dv a0)] [(eOptions.dv r)]:=by
 refine co Tryd.func25 ?_;intro _ _ _ _
 unfold zAO at h
 refine Q61 ?_
 refine kL rfl (z9 (zs:=[(.int IntKind.i64 (0)),(.int IntKind.i64 (0)),(.bool false),(.bool false)]) (lq rfl) (by kernel_rfl) rfl rfl) ?_
 refine Q78 ?_
 refine q33 G24 ?_
 have ⟨t4,ht4,h⟩:=bE h
 refine q7 (zGJ ht4) ?_
 refine Q33 ?_
 refine yQ h (fun h=>?_) (fun h=>?_)
 refine Q0 ?_
 refine q51 B24 ?_
 refine Q79 ?_
 cases h
 refine zB ?_
 exact vO rfl rfl G24 rfl
 refine Q40 ?_
 refine q33 G24 ?_
 refine Q79 ?_
 cases h
 refine zB ?_
 exact vO rfl rfl G24 rfl
theorem zI8 {a0 a1 r} (h:zAP a0 a1=some r):zI Tryd.prog 26 [(z8 eElement a0),(di a1)] [(z8 eA4Int r)]:=by
 refine co Tryd.func26 ?_;intro _ _ _ _
 unfold zAP at h
 refine Q3 ?_
 refine Q3 ?_
 refine zK (vM (t:=5) 1005 64 eA4Int.size (lq rfl) (lq rfl) rfl rfl) ?_
 refine Q3 ?_
 refine Q66 ?_
 have ⟨y1,hy1,h⟩:=bE h
 refine tl (.exit 0) ⟨[(5,.row 1005)],[(1005,.row 64 eA4Int.size false (eA4Int.all y1))]⟩ ?_ ?_
 refine zF (fun x=>⟨[(0,.d (z8 eElement a0)),(1,.d (di a1)),(5,.row 1005),(6,.d (db x.1)),(7,.d (di x.2.1))],[(1005,.row 64 eA4Int.size false (eA4Int.all x.2.2))]⟩) hy1 (wc) ?_
 rintro ⟨v6,v7,r1005⟩ sy1 p1
 replace p1:wG a0 a1 v6 v7 r1005=some sy1:=p1
 unfold wG at p1
 refine Q14 ?_
 refine q6 S22 ?_
 refine Q7 ?_
 refine yQ p1 (fun p1=>?_) (fun p1=>?_)
 refine Q9 ?_
 refine Q28 ?_
 have ⟨t19,ht19,p1⟩:=bE p1
 refine q14 S22 ht19 ?_
 refine q99 G37 ht19 ?_
 refine z0W ?_
 refine q13 G37 ?_
 refine zG ?_
 refine zK (zU (t:=8) (lq rfl) rfl rfl rfl) ?_
 refine Q0 ?_
 refine Q62 ?_
 refine q5 zMU ?_
 refine q3 O3 ?_
 refine q5 zMV ?_
 refine q3 O3 ?_
 refine q59 A64 ?_
 refine kL rfl (z9 (zs:=[(.int IntKind.i64 (0)),(.int IntKind.i64 (0)),(.int IntKind.i64 (0)),(.int IntKind.i64 (0))]) (lq rfl) (by kernel_rfl) rfl rfl) ?_
 refine q13 G64 ?_
 refine Q34 ?_
 refine Q62 ?_
 refine q36 ?_
 have ⟨b31,hb31,p1⟩:=bE p1
 refine yP ((zC (lq rfl) rfl).bool (oi hb31)) ?_
 refine q52 (.ip (eElement.cells t19) (0+1)) zMU ?_
 refine q55 (.d (di t19.Secondary)) O3 ?_
 refine q62 (.d (db (decide (t19.Secondary=0)))) ?_
 refine q16 ?_
 have ⟨b36,hb36,p1⟩:=bE p1
 refine yP ((zC (lq rfl) rfl).bool (oi hb36)) ?_
 refine q52 (.ip (eElement.cells t19) (0+2)) zMV ?_
 refine q55 (.d (di t19.Tertiary)) O3 ?_
 refine q62 (.d (db (decide (t19.Tertiary=0)))) ?_
 refine Q35 ?_
 refine Q11 ?_
 refine q5 zP1 ?_
 refine q3 O4 ?_
 have ⟨b43,hb43,p1⟩:=bE p1
 refine yP ((zC (lq rfl) rfl).bool (oi hb43)) ?_
 refine q18 (.ip (eElement.cells t19) (0+0)) zXL ?_
 refine q19 (.d (di t19.Primary)) O3 ?_
 refine z82 (.d (db (!decide (t19.Primary=0)))) ?_
 refine Q26 ?_
 have ⟨y2,hy2,p1⟩:=bE p1
 refine tl .normal ⟨[(0,.d (z8 eElement a0)),(1,.d (di a1)),(5,.row 1005),(6,.d (db y2)),(7,.d (di v7)),(8,.d (.pt (eElement.cells t19))),(9,.ptr 9 0),(10,.d (db (b36&&(decide (t19.Tertiary=0)))))],[(9,.box 64 [.d (di (({x0:=t19.Primary,x1:=t19.Secondary,x2:=t19.Tertiary,x3:=0}:A4Int).x0)),.d (di (({x0:=t19.Primary,x1:=t19.Secondary,x2:=t19.Tertiary,x3:=0}:A4Int).x1)),.d (di (({x0:=t19.Primary,x1:=t19.Secondary,x2:=t19.Tertiary,x3:=0}:A4Int).x2)),.d (di (({x0:=t19.Primary,x1:=t19.Secondary,x2:=t19.Tertiary,x3:=0}:A4Int).x3))]),(1005,.row 64 eA4Int.size false (eA4Int.all r1005))]⟩ ?_ ?_
 refine yQ hy2 (fun hy2=>?_) (fun hy2=>?_)
 refine xI<|q5 zP1 ?_
 refine q3 O4 ?_
 refine Q1 ?_
 cases hy2
 exact zE (wc)
 refine zH ?_
 cases hy2
 exact zE (wc)
 refine kM ?_
 have ⟨y3,hy3,p1⟩:=bE p1
 refine tl .normal ⟨[(0,.d (z8 eElement a0)),(1,.d (di a1)),(5,.row 1005),(6,.d (db y2)),(7,.d (di v7)),(9,.ptr 9 0)],[(9,.box 64 [.d (di y3.1),.d (di y3.2.1),.d (di y3.2.2.1),.d (di y3.2.2.2)]),(1005,.row 64 eA4Int.size false (eA4Int.all r1005))]⟩ ?_ ?_
 refine Q64 ?_
 refine Q73 ?_
 refine yQ hy3 (fun hy3=>?_) (fun hy3=>?_)
 refine Q2 ?_
 refine Q41 ?_
 refine yQ hy3 (fun hy3=>?_) (fun hy3=>?_)
 refine xI<|q46 A64 ?_
 refine Q56 ?_
 cases hy3
 exact zE (wc)
 refine zH ?_
 cases hy3
 exact zE (wc)
 refine Q32 ?_
 refine yQ hy3 (fun hy3=>?_) (fun hy3=>?_)
 refine Q0 ?_
 refine q59 A64 ?_
 refine q13 G64 ?_
 refine zG<|Q2 ?_
 refine q36 ?_
 have ⟨b61,hb61,hy3⟩:=bE hy3
 refine yP ((zC (lq rfl) rfl).bool (oi hb61)) ?_
 refine q52 (.ip (eElement.cells t19) (0+3)) zP1 ?_
 refine q55 (.d (db t19.Variable)) O4 ?_
 refine Q47 ?_
 refine yQ hy3 (fun hy3=>?_) (fun hy3=>?_)
 refine xI<|Q62 ?_
 refine q46 A64 ?_
 refine Q56 ?_
 cases hy3
 exact zE (wc)
 refine zH ?_
 cases hy3
 exact zE (wc)
 refine Q2 ?_
 refine q36 ?_
 have ⟨b71,hb71,hy3⟩:=bE hy3
 refine yP ((zC (lq rfl) rfl).bool (oi hb71)) ?_
 refine q20 (.d (db (b36&&(decide (t19.Tertiary=0))))) ?_
 refine sqt (.d (db (!(b36&&(decide (t19.Tertiary=0)))))) rfl (fun hb=>by subst hb;exact zJ0 (lq rfl) rfl) ?_
 refine Q35 ?_
 refine yQ hy3 (fun hy3=>?_) (fun hy3=>?_)
 refine xI<|q46 A64 ?_
 refine Q56 ?_
 cases hy3
 exact zE (wc)
 refine zH ?_
 cases hy3
 exact zE (wc)
 refine Q29 ?_
 refine yP ((kQ (lq rfl) G64 rfl rfl rfl rfl).data rfl) ?_
 refine q35 S66 ?_
 have ⟨r1005_4,hr1005_4,p1⟩:=bE p1
 refine q34 S66 hr1005_4 ?_
 refine Q19 ?_
 refine Q21 ?_
 cases p1
 exact wc
 refine zJ ?_
 cases p1
 intro q;cases q
 exact zE (wc)
 refine Q27 ?_
 refine Q19 ?_
 cases h
 refine zB ?_
 exact zN rfl
theorem zI9 {a0 a1 r} (h:zAQ a0 a1=some r):zI Tryd.prog 13 [(z8 eElement a0),(eOptions.dv a1)] [(z8 (eL eI) r)]:=by
 refine co Tryd.func13 ?_;intro _ _ _ _
 unfold zAQ at h
 refine Q0 ?_
 refine q75 ?_
 refine Q45 ?_
 refine yP ((kQ (lq rfl) G24 rfl rfl rfl rfl).data rfl) ?_
 have ⟨t12,ht12,h⟩:=bE h
 refine q7 (zI7 ht12) ?_
 refine Q79 ?_
 refine Q2 ?_
 refine q41 zP0 ?_
 refine q24 O3 ?_
 have ⟨t16,ht16,h⟩:=bE h
 refine q7 (zI8 ht16) ?_
 refine Q1 ?_
 refine Q3 ?_
 refine zK (vM (t:=6) 1006 32 (eL eI).size (lq rfl) (lq rfl) rfl rfl) ?_
 refine Q66 ?_
 have ⟨y1,hy1,h⟩:=bE h
 refine tl (.exit 0) ⟨[(6,.row 1006)],[(1006,.row 32 (eL eI).size false ((eL eI).all y1))]⟩ ?_ ?_
 refine zF (fun x=>⟨[(3,.ptr 3 0),(5,.d (z8 eA4Int t16)),(6,.row 1006),(7,.d (di x.1))],[(3,.box 24 [.d (di t12.Strength),.d (di t12.Variable),.d (db t12.Backward),.d (db t12.Identical)]),(1006,.row 32 (eL eI).size false ((eL eI).all x.2))]⟩) hy1 (wc) ?_
 rintro ⟨v7,r1006⟩ sy1 p1
 replace p1:wI t12 t16 v7 r1006=some sy1:=p1
 unfold wI at p1
 refine Q4 ?_
 refine q41 zMT ?_
 refine q24 O3 ?_
 refine Q7 ?_
 refine yQ p1 (fun p1=>?_) (fun p1=>?_)
 refine Q9 ?_
 refine Q3 ?_
 refine zK (vM (t:=8) 1008 3 eI.size (lq rfl) (lq rfl) rfl rfl) ?_
 refine Q66 ?_
 have ⟨y2,hy2,p1⟩:=bE p1
 refine tl (.exit 2) ⟨[(3,.ptr 3 0),(5,.d (z8 eA4Int t16)),(6,.row 1006),(7,.d (di v7)),(8,.row 1008)],[(3,.box 24 [.d (di t12.Strength),.d (di t12.Variable),.d (db t12.Backward),.d (db t12.Identical)]),(1006,.row 32 (eL eI).size false ((eL eI).all r1006)),(1008,.row 3 eI.size false (eI.all y2))]⟩ ?_ ?_
 refine zF (fun x=>⟨[(3,.ptr 3 0),(5,.d (z8 eA4Int t16)),(6,.row 1006),(7,.d (di v7)),(8,.row 1008),(9,.d (di x.1))],[(3,.box 24 [.d (di t12.Strength),.d (di t12.Variable),.d (db t12.Backward),.d (db t12.Identical)]),(1006,.row 32 (eL eI).size false ((eL eI).all r1006)),(1008,.row 3 eI.size false (eI.all x.2))]⟩) hy2 (wc) ?_
 rintro ⟨v9,r1008⟩ sy2 p2
 replace p2:wH t16 v7 t12 v9 r1008=some sy2:=p2
 unfold wH at p2
 refine Q14 ?_
 refine q6 S66 ?_
 refine Q7 ?_
 refine yQ p2 (fun p2=>?_) (fun p2=>?_)
 refine Q5 ?_
 have ⟨y3,hy3,p2⟩:=bE p2
 refine tl .normal ⟨[(3,.ptr 3 0),(5,.d (z8 eA4Int t16)),(6,.row 1006),(7,.d (di v7)),(8,.row 1008),(9,.d (di v9))],[(3,.box 24 [.d (di t12.Strength),.d (di t12.Variable),.d (db t12.Backward),.d (db t12.Identical)]),(1006,.row 32 (eL eI).size false ((eL eI).all r1006)),(1008,.row 3 eI.size false (eI.all y3))]⟩ ?_ ?_
 refine yK<|Q32 ?_
 refine Q4 ?_
 refine q36 ?_
 have ⟨b32,hb32,hy3⟩:=bE hy3
 refine yP ((zC (lq rfl) rfl).bool (oi hb32)) ?_
 refine sqt (.ptr 3 2) rfl (fun hb=>by subst hb;exact zAR (lq rfl) z2N rfl) ?_
 refine sqt (.d (db t12.Backward)) rfl (fun hb=>by subst hb;exact vF (lq rfl) O4 rfl rfl rfl) ?_
 refine Q47 ?_
 have ⟨y4,hy4,hy3⟩:=bE hy3
 refine tl .normal ⟨[(3,.ptr 3 0),(5,.d (z8 eA4Int t16)),(6,.row 1006),(7,.d (di v7)),(8,.row 1008),(9,.d (di v9)),(10,.d (di y4))],[(3,.box 24 [.d (di t12.Strength),.d (di t12.Variable),.d (db t12.Backward),.d (db t12.Identical)]),(1006,.row 32 (eL eI).size false ((eL eI).all r1006)),(1008,.row 3 eI.size false (eI.all r1008))]⟩ ?_ ?_
 refine yQ hy4 (fun hy4=>?_) (fun hy4=>?_)
 refine Q8 ?_
 refine q6 S66 ?_
 refine q30 ?_
 refine q0 ?_
 refine Q52 ?_
 cases hy4
 exact zE (wc)
 refine zH ?_
 cases hy4
 exact zE (wc)
 refine Q2 ?_
 refine Q20 ?_
 have ⟨t44,ht44,hy3⟩:=bE hy3
 refine q14 S66 ht44 ?_
 have ⟨t45,ht45,hy3⟩:=bE hy3
 refine yP (zMQ (en:=eI) (l:=[t44.x0,t44.x1,t44.x2,t44.x3]) (lq rfl) A64 rfl rfl rfl ht45) ?_
 refine yP (zPV (en:=eA4Int) (en2:=eI) (ls:=t16) (l:=[t44.x0,t44.x1,t44.x2,t44.x3]) (i:=y4) (j:=v7) (v:=t44) (lq rfl) O3 rfl ht44 ht45 rfl rfl) ?_
 refine Q33 ?_
 refine yQ hy3 (fun hy3=>?_) (fun hy3=>?_)
 refine Q86 ?_
 refine q0 ?_
 have ⟨t52,ht52,hy3⟩:=bE hy3
 refine q14 S66 ht52 ?_
 have ⟨t53,ht53,hy3⟩:=bE hy3
 refine yP (zMQ (en:=eI) (l:=[t52.x0,t52.x1,t52.x2,t52.x3]) (lq rfl) A64 rfl rfl rfl ht53) ?_
 refine yP (zPV (en:=eA4Int) (en2:=eI) (ls:=t16) (l:=[t52.x0,t52.x1,t52.x2,t52.x3]) (i:=y4) (j:=v7) (v:=t52) (lq rfl) O3 rfl ht52 ht53 rfl rfl) ?_
 refine q35 yZ ?_
 have ⟨r1008_5,hr1008_5,hy3⟩:=bE hy3
 refine q34 yZ hr1008_5 ?_
 refine Q19 ?_
 cases hy3
 exact zE (wc)
 refine zH ?_
 cases hy3
 exact zE (wc)
 refine Q21 ?_
 cases p2
 exact wc
 refine zJ ?_
 cases p2
 intro q;cases q
 exact zE (wc)
 refine Q29 ?_
 refine q9 ?_
 refine zD0 (zBI (t:=58) (lq rfl) rfl rfl) ?_ (by simp)
 refine q35 S29 ?_
 have ⟨r1006_6,hr1006_6,p1⟩:=bE p1
 refine q34 S29 hr1006_6 ?_
 refine Q19 ?_
 refine Q21 ?_
 cases p1
 exact wc
 refine zJ ?_
 cases p1
 intro q;cases q
 exact zE (wc)
 refine Q27 ?_
 refine Q19 ?_
 cases h
 refine zB ?_
 exact zN rfl
theorem zNV {a0 a1 r} (h:zCP a0 a1=some r):zI Tryd.prog 11 [(z8 (eL eI) a0),(z8 (eL eI) a1)] [(db r)]:=by
 refine co Tryd.func11 ?_;intro _ _ _ _
 unfold zCP at h
 refine Q39 ?_
 refine q6 S29 ?_
 refine q0 ?_
 refine q6 S29 ?_
 refine Q33 ?_
 refine yQ h (fun h=>?_) (fun h=>?_)
 refine Q3 ?_
 cases h
 refine zB ?_
 exact zN rfl
 refine Q91 ?_
 have ⟨y1,hy1,h⟩:=bE h
 refine yI y1 (.exit 0) (fun y1=>⟨[],[]⟩) .ret (fun y1=>⟨[(4,.d (db y1))],[]⟩) ?_ ?_ ?_
 refine zF (fun x=>⟨[(0,.d (z8 (eL eI) a0)),(1,.d (z8 (eL eI) a1)),(5,.d (di x))],[]⟩) hy1 (wc) ?_
 rintro v5 sy1 p1
 replace p1:vJ a0 a1 v5=some sy1:=p1
 unfold vJ at p1
 refine Q14 ?_
 refine q6 S29 ?_
 refine Q7 ?_
 refine yQ p1 (fun p1=>?_) (fun p1=>?_)
 refine Q9 ?_
 refine kM ?_
 refine kF MX rfl ?_
 refine Q38 ?_
 have ⟨t19,ht19,p1⟩:=bE p1
 refine q42 S29 ht19 ?_
 refine z7C O32 ht19 ?_
 refine Q38 ?_
 have ⟨t23,ht23,p1⟩:=bE p1
 refine q42 S29 ht23 ?_
 refine z7C O32 ht23 ?_
 have ⟨t25,ht25,p1⟩:=bE p1
 refine q26 (zGH ht25) ?_
 refine z4K ?_
 refine wK ?_
 refine yQ p1 (fun p1=>?_) (fun p1=>?_)
 refine Q22 ?_
 cases p1
 intro q;cases q
 exact ⟨rfl,wc⟩
 refine Q59 ?_
 cases p1
 exact wc
 refine zJ ?_
 cases p1
 intro q;cases q
 exact ⟨rfl,wc⟩
 rintro y1 rfl
 replace h:=eL h
 refine Q3 ?_
 cases h
 refine zB ?_
 exact zN rfl
 rintro y1 rfl
 replace h:=eR h
 cases h
 exact zN rfl
theorem law44_SortkeyWeights_c {a0 a1 r} (h:vC a0 a1=some r):zI Tryd.prog 3 [(z8 eElement a0),(eOptions.dv a1)] [(db r)]:=by
 refine co Tryd.func3 ?_;intro _ _ _ _
 unfold vC at h
 refine Q61 ?_
 refine Q1 ?_
 refine Q4 ?_
 refine q6 S22 ?_
 refine Q46 ?_
 refine yQ h (fun h=>?_) (fun h=>?_)
 refine Q0 ?_
 have ⟨t8,ht8,h⟩:=bE h
 refine q7 (zGI ht8) ?_
 refine Q1 ?_
 cases h
 refine zB ?_
 exact zN rfl
 refine Q5 ?_
 refine kF MX rfl ?_
 refine q72 G24 ?_
 have ⟨t10,ht10,h⟩:=bE h
 refine q26 (zAT ht10) ?_
 refine q72 G24 ?_
 have ⟨t12,ht12,h⟩:=bE h
 refine q26 (zGJ ht12) ?_
 refine uS (zJY (lq rfl) rfl rfl) ?_
 have ⟨b14,hb14,h⟩:=bE h
 refine uS ((zC (lq rfl) rfl).bool (oi hb14)) ?_
 refine q54 (.d (z8 eElement a0)) ?_
 refine dat (.d (eOptions.dv a1)) rfl (fun hb=>by subst hb;exact zDN (lq rfl) G24 rfl rfl) ?_
 have ⟨t17,ht17,h⟩:=bE h
 refine dat (.d (z8 (eL eI) t17)) rfl (fun hb=>by subst hb;exact zAW (lq rfl) rfl (zA9 ht17)) ?_
 refine q54 (.d (z8 eElement a0)) ?_
 refine dat (.d (eOptions.dv a1)) rfl (fun hb=>by subst hb;exact zDN (lq rfl) G24 rfl rfl) ?_
 have ⟨t20,ht20,h⟩:=bE h
 refine dat (.d (z8 (eL eI) t20)) rfl (fun hb=>by subst hb;exact zAW (lq rfl) rfl (zI9 ht20)) ?_
 have ⟨t21,ht21,h⟩:=bE h
 refine dat (.d (db t21)) rfl (fun hb=>by subst hb;exact zAW (lq rfl) rfl (zNV ht21)) ?_
 refine q69 ?_
 have ⟨b23,hb23,h⟩:=bE h
 refine uS ((zC (lq rfl) rfl).bool (oi hb23)) ?_
 have ⟨t24,ht24,h⟩:=bE h
 refine dat (.d (db t24)) rfl (fun hb=>by subst hb;exact zAW (lq rfl) rfl (zGI ht24)) ?_
 refine q69 ?_
 refine Q50 ?_
 cases h
 refine zB ?_
 exact zN rfl
end Go.Proofs.YtjcbhabmkcdcnaaDoor.Walk


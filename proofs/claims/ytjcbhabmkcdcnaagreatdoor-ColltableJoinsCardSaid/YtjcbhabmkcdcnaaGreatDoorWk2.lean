/- Each function of the program answers as its plain counterpart does, where that answers. Conditions: none. -/
import Derived.Test.YtjcbhabmkcdcnaaGreatDoorMir
import Derived.Test.YtjcbhabmkcdcnaaGreatDoorLa3
import Derived.Test.YtjcbhabmkcdcnaaGreatDoorProg
import Derived.Test.YtjcbhabmkcdcnaaGreatDoorWk1
set_option linter.unusedSimpArgs false
set_option linter.unusedVariables false
set_option linter.unnecessarySimpa false
namespace Go.Proofs.YtjcbhabmkcdcnaaGreatDoor.Walk
open Go.AV Go.M Go.RowKit Go.Proofs
theorem zC5:∀(n:Nat) {a0:Int} {a1:(List (Int×(List Int)))} {a2:Norm} {a3:Bool} {r:(List Int)×(List (Int×(List Int)))},yI n a0 a1 a2 a3=some r→GC Tryz.prog 61 [.d (di a0),.ptr 3001 0,.d (.pt (eNorm.cells a2)),.d (.pt [(db a3)]),.ptr 3004 0] [(3001,.box 94 [.row 3120]),(3004,.box 69 [.clo 61 [.ptr 3001 0,.d (.pt (eNorm.cells a2)),.d (.pt [(db a3)]),.ptr 3004 0]]),(3120,.map (wS kI (eL eI) a1))] [3001,3004,3120] [.d (zW eI r.1)] [(3001,.box 94 [.row 3120]),(3004,.box 69 [.clo 61 [.ptr 3001 0,.d (.pt (eNorm.cells a2)),.d (.pt [(db a3)]),.ptr 3004 0]]),(3120,.map (wS kI (eL eI) r.2))]:=by
 intro n
 induction n with
 | zero=>intro a0 a1 a2 a3 r h;cases h
 | succ n ih=>
 intro a0 a1 a2 a3 r h
 replace h:xI (yI n) a0 a1 a2 a3=some r:=h
 generalize yI n=rec at h ih
 refine zCJ Tryz.func61 (by kernel_rfl) rfl (lq rfl) (lq rfl) fun w0 I0 hG0 p0=>?_
 unfold xI at h
 refine Q3 ?_
 refine Q31 ?_
 refine q28 O94 ?_
 refine q0 ?_
 refine yH (zQ8 (kv:=kI) (ev:=(eL eI)) (mp:=a1) (k:=a0) (zero:=[]) (lq rfl) M94 K3 rfl rfl rfl (fun _ _=> .nil _ _ _)) ?_
 refine Q78 ?_
 refine z18 ?_
 refine zL ?_
 refine yB h (fun h=>?_) (fun h=>?_)
 refine Q35 ?_
 cases h
 refine zB ?_
 exact ⟨⟨_,_,rfl,rfl,rfl⟩,⟨rfl,rfl,rfl,trivial⟩⟩
 refine Q50 ?_
 refine q21 G28 ?_
 refine q0 ?_
 refine q92 O4 ?_
 have ⟨t26,ht26,h⟩:=bE h
 refine q8 (zGZ ht26) ?_
 refine Q78 ?_
 refine zXZ ?_
 refine Q42 ?_
 refine yB h (fun h=>?_) (fun h=>?_)
 refine Q2 ?_
 refine q24 yU ?_
 refine Q1 ?_
 cases h
 refine zB ?_
 exact ⟨⟨_,_,rfl,rfl,rfl⟩,⟨rfl,rfl,rfl,trivial⟩⟩
 refine Q58 ?_
 refine zV (zCT (t:=11) 1011 3 eI.size (lq rfl) (lq rfl) rfl rfl) ?_
 refine Q4 ?_
 refine Q94 ?_
 have ⟨y1,hy1,h⟩:=bE h
 refine tl (.exit 0) ⟨[(0,.d (di a0)),(1,.ptr 3001 0),(4,.ptr 3004 0),(11,.row 1011)],[(1011,.row 3 eI.size false (eI.all y1.1)),(3001,.box 94 [.row 3120]),(3004,.box 69 [.clo 61 [.ptr 3001 0,.d (.pt (eNorm.cells a2)),.d (.pt [(db a3)]),.ptr 3004 0]]),(3120,.map (wS kI (eL eI) y1.2))]⟩ ?_ ?_
 refine zD (fun x=>⟨[(0,.d (di a0)),(1,.ptr 3001 0),(4,.ptr 3004 0),(11,.row 1011),(33,.d (zW eI t26.1)),(34,.d (di (t26.1.length:Int))),(35,.d (di x.1))],[(1011,.row 3 eI.size false (eI.all x.2.1)),(3001,.box 94 [.row 3120]),(3004,.box 69 [.clo 61 [.ptr 3001 0,.d (.pt (eNorm.cells a2)),.d (.pt [(db a3)]),.ptr 3004 0]]),(3120,.map (wS kI (eL eI) x.2.2))]⟩) hy1 (wc) ?_
 rintro ⟨v35,r1011,r3120⟩ sy1 p1
 replace p1:kU t26 rec a2 a3 v35 r1011 r3120=some sy1:=p1
 unfold kU at p1
 refine Q22 ?_
 refine yB p1 (fun p1=>?_) (fun p1=>?_)
 refine Q29 ?_
 have ⟨t37,ht37,p1⟩:=bE p1
 refine q11 yU ht37 ?_
 refine q35 O3 ht37 ?_
 refine Q1 ?_
 refine Q64 ?_
 refine q28 O69 ?_
 refine q0 ?_
 have ⟨t42,ht42,p1⟩:=bE p1
 refine kP rfl (zU1 [(3001,3001),(3004,3004),(3120,3120)] (ih ht42) (lq rfl) (by decide) rfl ⟨rfl,rfl,rfl,rfl,rfl,trivial⟩ rfl rfl ⟨rfl,rfl,rfl,trivial⟩ rfl rfl rfl rfl) ?_
 have ⟨r1011_2,hr1011_2,p1⟩:=bE p1
 refine kP rfl (jU (en:=eI) (l:=r1011) (m:=t42.1) (lq rfl) yU rfl rfl rfl hr1011_2 (by decide) (by decide) rfl rfl) ?_
 refine Q13 ?_
 refine Q24 ?_
 cases p1
 exact wc
 refine zG ?_
 cases p1
 intro q;cases q
 exact zN (wc)
 refine Q0 ?_
 refine q28 O94 ?_
 refine q0 ?_
 refine q10 ?_
 refine zIT (zG9 (t:=47) (lq rfl) rfl rfl) ?_ (by simp)
 refine z8E M94 K3 ?_
 refine zL<|Q61 ?_
 refine zV (zG9 (t:=6) (lq rfl) rfl rfl) ?_
 cases h
 refine zB ?_
 exact ⟨⟨_,_,rfl,rfl,rfl⟩,⟨rfl,rfl,rfl,trivial⟩⟩
theorem zEF {a0} {a1} {r:Unit} (h:wD a0 a1=some r):GCA Tryz.prog 27 [.d (eNorm.dv a0),.d (db a1)] [] [] (.clo 61 [.ptr 5 0,.d (.pt (eNorm.cells a0)),.d (.pt [(db a1)]),.ptr 6 0]) [(5,.box 94 [.row 7]),(6,.box 69 [.clo 61 [.ptr 5 0,.d (.pt (eNorm.cells a0)),.d (.pt [(db a1)]),.ptr 6 0]]),(7,.map (wS kI (eL eI) []))]:=by
 refine yBF Tryz.func27 (by kernel_rfl) rfl (lq rfl) (lq rfl) rfl fun w0 I0 hG0 p0=>?_
 unfold wD at h
 refine Q40 ?_
 refine q63 ?_
 refine Q39 ?_
 refine z4Y ?_
 refine kP rfl (kX (zs:=[(.map none)]) (lq rfl) (by kernel_rfl) rfl rfl) ?_
 refine q93 O94 ?_
 refine Q52 ?_
 refine kP rfl (kX (zs:=[.nilFunc]) (lq rfl) (by kernel_rfl) rfl rfl) ?_
 refine Q52 ?_
 refine yH (zRF (cs:=[.ptr 5 0,.d (.pt (eNorm.cells a0)),.d (.pt [(db a1)]),.ptr 6 0]) (lq rfl) ⟨_,_,rfl,rfl,⟨_,_,rfl,rfl,⟨_,_,rfl,rfl,⟨_,_,rfl,rfl,rfl⟩⟩⟩⟩) ?_
 refine kP rfl (zIG O69 rfl rfl (lq rfl) rfl rfl rfl rfl) ?_
 refine Q52 ?_
 refine q28 O69 ?_
 refine yEP ?_
 refine zL ?_
 cases h
 refine zB ?_
 exact ⟨rfl,⟨rfl,rfl,rfl,trivial⟩⟩
theorem zMA {a0 a1 a2 r} (h:zBO a0 a1 a2=some r):zF Tryz.prog 9 [(eNorm.dv a0),(di a1),(db a2)] [(zW eI r)]:=by
 refine co Tryz.func9 ?_;intro _ _ _ _
 unfold zBO at h
 refine Q40 ?_
 refine Q39 ?_
 refine q21 G28 ?_
 have ⟨t8,ht8,h⟩:=bE h
 refine q8 (zFT ht8) ?_
 refine q0 ?_
 have ⟨t10,ht10,h⟩:=bE h
 refine kP rfl (zYY [(5,2510),(6,3010),(7,3510)] (zEF ht10) (lq rfl) (by decide) ⟨rfl,rfl,trivial⟩ rfl rfl trivial rfl rfl rfl (fun _=>rfl) rfl) ?_
 refine q0 ?_
 have ⟨t12,ht12,h⟩:=bE h
 refine kP rfl (zSE [(3001,2510),(3004,3010),(3120,3510)] (zC5 _ ht12) (lq rfl) (by decide) rfl ⟨rfl,rfl,rfl,rfl,rfl,trivial⟩ rfl rfl ⟨rfl,rfl,rfl,trivial⟩ rfl rfl rfl (fun _=>rfl) rfl) ?_
 refine Q1 ?_
 cases h
 refine zB ?_
 exact zH rfl
theorem zO3 {r} (h:zEZ=some r):zF Tryz.prog 99 [] [(zW eRange r)]:=by
 refine co Tryz.func99 ?_;intro _ _ _ _
 unfold zEZ at h
 refine Q3 ?_
 refine Q0 ?_
 refine q48 zU5 ?_
 refine q48 zU5 ?_
 refine q48 zU5 ?_
 refine q48 zU5 ?_
 refine q24 S24 ?_
 refine Q1 ?_
 cases h
 refine zB ?_
 exact zH rfl
theorem zJP {a0 r} (h:zCN a0=some r):zF Tryz.prog 64 [(zW eSpan a0)] [(di r)]:=by
 refine co Tryz.func64 ?_;intro _ _ _ _
 unfold zCN at h
 refine Q74 ?_
 have ⟨y1,hy1,h⟩:=bE h
 refine zK y1 (.exit 0) (fun y1=>⟨[(0,.d (zW eSpan a0))],[]⟩) .ret (fun y1=>⟨[(2,.d (di y1))],[]⟩) ?_ ?_ ?_
 refine zD (fun x=>⟨[(0,.d (zW eSpan a0)),(3,.d (di x))],[]⟩) hy1 (wc) ?_
 rintro v3 sy1 p1
 replace p1:zAG a0 v3=some sy1:=p1
 unfold zAG at p1
 refine Q12 ?_
 refine q4 S22 ?_
 refine Q6 ?_
 refine yB p1 (fun p1=>?_) (fun p1=>?_)
 refine Q65 ?_
 refine z7 MX rfl ?_
 refine Q27 ?_
 have ⟨t16,ht16,p1⟩:=bE p1
 refine q23 S22 ht16 ?_
 refine q52 zGU ?_
 refine vB (zZ (en:=eSpan) (l:=a0) (i:=v3) (v:=t16) (off:=0) (lq rfl) O3 rfl ht16 rfl) ?_
 have ⟨t19,ht19,p1⟩:=bE p1
 refine q22 (uY ht19) ?_
 refine z8N ?_
 have ⟨b21,hb21,p1⟩:=bE p1
 refine vB ((zC (lq rfl) rfl).bool (oi hb21)) ?_
 refine q50 (.d (zW eSpan a0)) ?_
 refine q50 (.d (di v3)) ?_
 have ⟨t24,ht24,p1⟩:=bE p1
 refine daf (.ip (eSpan.all a0) (v3.toNat*eSpan.size)) rfl (fun hb=>by subst hb;exact kM (en:=eSpan) (lq rfl) S22 rfl rfl ht24) ?_
 refine q82 (.ip (eSpan.all a0) (v3.toNat*eSpan.size+1)) zGV ?_
 refine daf (.d (di t24.Hi)) rfl (fun hb=>by subst hb;exact zZ (en:=eSpan) (l:=a0) (i:=v3) (v:=t24) (off:=1) (lq rfl) O3 rfl ht24 rfl) ?_
 have ⟨t27,ht27,p1⟩:=bE p1
 refine daf (.d (db t27)) rfl (fun hb=>by subst hb;exact xV (lq rfl) rfl (uY ht27)) ?_
 refine daf (.d (db (!t27))) rfl (fun hb=>by subst hb;exact zN9 (lq rfl) rfl) ?_
 refine q95 ?_
 have ⟨b30,hb30,p1⟩:=bE p1
 refine vB ((zC (lq rfl) rfl).bool (oi hb30)) ?_
 refine q50 (.d (zW eSpan a0)) ?_
 refine q50 (.d (di v3)) ?_
 have ⟨t33,ht33,p1⟩:=bE p1
 refine daf (.ip (eSpan.all a0) (v3.toNat*eSpan.size)) rfl (fun hb=>by subst hb;exact kM (en:=eSpan) (lq rfl) S22 rfl rfl ht33) ?_
 refine q82 (.ip (eSpan.all a0) (v3.toNat*eSpan.size+0)) zGU ?_
 refine daf (.d (di t33.Lo)) rfl (fun hb=>by subst hb;exact zZ (en:=eSpan) (l:=a0) (i:=v3) (v:=t33) (off:=0) (lq rfl) O3 rfl ht33 rfl) ?_
 refine q50 (.d (zW eSpan a0)) ?_
 refine q50 (.d (di v3)) ?_
 have ⟨t38,ht38,p1⟩:=bE p1
 refine daf (.ip (eSpan.all a0) (v3.toNat*eSpan.size)) rfl (fun hb=>by subst hb;exact kM (en:=eSpan) (lq rfl) S22 rfl rfl ht38) ?_
 refine q82 (.ip (eSpan.all a0) (v3.toNat*eSpan.size+1)) zGV ?_
 refine daf (.d (di t38.Hi)) rfl (fun hb=>by subst hb;exact zZ (en:=eSpan) (l:=a0) (i:=v3) (v:=t38) (off:=1) (lq rfl) O3 rfl ht38 rfl) ?_
 refine daf (.d (db (decide (t38.Hi < t33.Lo)))) rfl (fun hb=>by subst hb;exact zTU (lq rfl) rfl rfl) ?_
 refine q95 ?_
 have ⟨b43,hb43,p1⟩:=bE p1
 refine vB ((zC (lq rfl) rfl).bool (oi hb43)) ?_
 refine q50 (.d (zW eSpan a0)) ?_
 refine q50 (.d (di v3)) ?_
 have ⟨t46,ht46,p1⟩:=bE p1
 refine daf (.ip (eSpan.all a0) (v3.toNat*eSpan.size)) rfl (fun hb=>by subst hb;exact kM (en:=eSpan) (lq rfl) S22 rfl rfl ht46) ?_
 refine q82 (.ip (eSpan.all a0) (v3.toNat*eSpan.size+2)) zHP ?_
 refine daf (.d (di t46.Value)) rfl (fun hb=>by subst hb;exact zZ (en:=eSpan) (l:=a0) (i:=v3) (v:=t46) (off:=2) (lq rfl) O3 rfl ht46 rfl) ?_
 refine daf (.d (db (decide (t46.Value < 1)))) rfl (fun hb=>by subst hb;exact zKJ (lq rfl) rfl rfl) ?_
 refine q95 ?_
 have ⟨b51,hb51,p1⟩:=bE p1
 refine vB ((zC (lq rfl) rfl).bool (oi hb51)) ?_
 refine q50 (.d (zW eSpan a0)) ?_
 refine q50 (.d (di v3)) ?_
 have ⟨t54,ht54,p1⟩:=bE p1
 refine daf (.ip (eSpan.all a0) (v3.toNat*eSpan.size)) rfl (fun hb=>by subst hb;exact kM (en:=eSpan) (lq rfl) S22 rfl rfl ht54) ?_
 refine q82 (.ip (eSpan.all a0) (v3.toNat*eSpan.size+2)) zHP ?_
 refine daf (.d (di t54.Value)) rfl (fun hb=>by subst hb;exact zZ (en:=eSpan) (l:=a0) (i:=v3) (v:=t54) (off:=2) (lq rfl) O3 rfl ht54 rfl) ?_
 refine daf (.d (db (decide (254 < t54.Value)))) rfl (fun hb=>by subst hb;exact zTU (lq rfl) rfl rfl) ?_
 refine q95 ?_
 refine xQ ?_
 refine yB p1 (fun p1=>?_) (fun p1=>?_)
 refine Q17 ?_
 cases p1
 intro q;cases q
 exact ⟨rfl,wc⟩
 refine Q28 ?_
 cases p1
 exact wc
 refine zG ?_
 cases p1
 intro q;cases q
 exact ⟨rfl,wc⟩
 rintro y1 rfl
 replace h:=eL h
 refine Q32 ?_
 have ⟨y2,hy2,h⟩:=bE h
 refine zK y2 (.exit 2) (fun y2=>⟨[(0,.d (zW eSpan a0))],[]⟩) .ret (fun y2=>⟨[(2,.d (di y2))],[]⟩) ?_ ?_ ?_
 refine zD (fun x=>⟨[(0,.d (zW eSpan a0)),(4,.d (di x))],[]⟩) hy2 (wc) ?_
 rintro v4 sy2 p2
 replace p2:zAH a0 v4=some sy2:=p2
 unfold zAH at p2
 refine Q12 ?_
 refine q4 S22 ?_
 refine Q6 ?_
 refine yB p2 (fun p2=>?_) (fun p2=>?_)
 refine Q65 ?_
 refine z7 MX rfl ?_
 refine Q27 ?_
 have ⟨t67,ht67,p2⟩:=bE p2
 refine q23 S22 ht67 ?_
 refine q52 zGU ?_
 refine vB (zZ (en:=eSpan) (l:=a0) (i:=v4) (v:=t67) (off:=0) (lq rfl) O3 rfl ht67 rfl) ?_
 refine Q27 ?_
 refine zVD ?_
 have ⟨t73,ht73,p2⟩:=bE p2
 refine q23 S22 ht73 ?_
 refine q52 zGV ?_
 refine vB (zZ (en:=eSpan) (l:=a0) (i:=(wi (v4 - 1))) (v:=t73) (off:=1) (lq rfl) O3 rfl ht73 rfl) ?_
 refine vB (zGP (lq rfl) rfl rfl) ?_
 have ⟨b77,hb77,p2⟩:=bE p2
 refine vB ((zC (lq rfl) rfl).bool (oi hb77)) ?_
 refine q50 (.d (zW eSpan a0)) ?_
 refine q50 (.d (di v4)) ?_
 have ⟨t80,ht80,p2⟩:=bE p2
 refine daf (.ip (eSpan.all a0) (v4.toNat*eSpan.size)) rfl (fun hb=>by subst hb;exact kM (en:=eSpan) (lq rfl) S22 rfl rfl ht80) ?_
 refine q82 (.ip (eSpan.all a0) (v4.toNat*eSpan.size+0)) zGU ?_
 refine daf (.d (di t80.Lo)) rfl (fun hb=>by subst hb;exact zZ (en:=eSpan) (l:=a0) (i:=v4) (v:=t80) (off:=0) (lq rfl) O3 rfl ht80 rfl) ?_
 refine q50 (.d (zW eSpan a0)) ?_
 refine q50 (.d (di v4)) ?_
 refine daf (.d (di (wi (v4 - 1)))) rfl (fun hb=>by subst hb;exact zUJ (lq rfl) rfl rfl) ?_
 have ⟨t86,ht86,p2⟩:=bE p2
 refine daf (.ip (eSpan.all a0) ((wi (v4 - 1)).toNat*eSpan.size)) rfl (fun hb=>by subst hb;exact kM (en:=eSpan) (lq rfl) S22 rfl rfl ht86) ?_
 refine q82 (.ip (eSpan.all a0) ((wi (v4 - 1)).toNat*eSpan.size+1)) zGV ?_
 refine daf (.d (di t86.Hi)) rfl (fun hb=>by subst hb;exact zZ (en:=eSpan) (l:=a0) (i:=(wi (v4 - 1))) (v:=t86) (off:=1) (lq rfl) O3 rfl ht86 rfl) ?_
 refine daf (.d (di (wi (t86.Hi+1)))) rfl (fun hb=>by subst hb;exact zQ6 (lq rfl) rfl rfl) ?_
 refine daf (.d (db (decide (t80.Lo=(wi (t86.Hi+1)))))) rfl (fun hb=>by subst hb;exact zGQ (lq rfl) rfl rfl) ?_
 have ⟨b91,hb91,p2⟩:=bE p2
 refine daf (.d (db b91)) rfl (fun hb=>by subst hb;exact (zC (lq rfl) rfl).bool (oi hb91)) ?_
 refine zB0 (x:= .d (zW eSpan a0)) rfl rfl rfl (lq rfl) (lq rfl) rfl (fun hb=>by obtain ⟨hb,hb1⟩:=zI hb;obtain rfl:=gF hb;obtain rfl:b91=true:=hb1;exact zC (lq rfl) rfl) ?_
 refine zB0 (x:= .d (di v4)) rfl rfl rfl (lq rfl) (lq rfl) rfl (fun hb=>by obtain ⟨hb,hb1⟩:=zI hb;obtain rfl:=gF hb;obtain rfl:b91=true:=hb1;exact zC (lq rfl) rfl) ?_
 have ⟨t94,ht94,p2⟩:=bE p2
 refine zB0 (x:= .ip (eSpan.all a0) (v4.toNat*eSpan.size)) rfl rfl rfl (lq rfl) (lq rfl) rfl (fun hb=>by obtain ⟨hb,hb1⟩:=zI hb;obtain rfl:=gF hb;obtain rfl:b91=true:=hb1;exact kM (en:=eSpan) (lq rfl) S22 rfl rfl ht94) ?_
 refine zB0 (x:= .ip (eSpan.all a0) (v4.toNat*eSpan.size+2)) rfl rfl rfl (lq rfl) (lq rfl) rfl (fun hb=>by obtain ⟨hb,hb1⟩:=zI hb;obtain rfl:=gF hb;obtain rfl:b91=true:=hb1;exact j9 (lq rfl) zHP rfl) ?_
 refine zB0 (x:= .d (di t94.Value)) rfl rfl rfl (lq rfl) (lq rfl) rfl (fun hb=>by obtain ⟨hb,hb1⟩:=zI hb;obtain rfl:=gF hb;obtain rfl:b91=true:=hb1;exact zZ (en:=eSpan) (l:=a0) (i:=v4) (v:=t94) (off:=2) (lq rfl) O3 rfl ht94 rfl) ?_
 refine zB0 (x:= .d (zW eSpan a0)) rfl rfl rfl (lq rfl) (lq rfl) rfl (fun hb=>by obtain ⟨hb,hb1⟩:=zI hb;obtain rfl:=gF hb;obtain rfl:b91=true:=hb1;exact zC (lq rfl) rfl) ?_
 refine zB0 (x:= .d (di v4)) rfl rfl rfl (lq rfl) (lq rfl) rfl (fun hb=>by obtain ⟨hb,hb1⟩:=zI hb;obtain rfl:=gF hb;obtain rfl:b91=true:=hb1;exact zC (lq rfl) rfl) ?_
 refine zB0 (x:= .d (di (wi (v4 - 1)))) rfl rfl rfl (lq rfl) (lq rfl) rfl (fun hb=>by obtain ⟨hb,hb1⟩:=zI hb;obtain rfl:=gF hb;obtain rfl:b91=true:=hb1;exact zUJ (lq rfl) rfl rfl) ?_
 have ⟨t100,ht100,p2⟩:=bE p2
 refine zB0 (x:= .ip (eSpan.all a0) ((wi (v4 - 1)).toNat*eSpan.size)) rfl rfl rfl (lq rfl) (lq rfl) rfl (fun hb=>by obtain ⟨hb,hb1⟩:=zI hb;obtain rfl:=gF hb;obtain rfl:b91=true:=hb1;exact kM (en:=eSpan) (lq rfl) S22 rfl rfl ht100) ?_
 refine zB0 (x:= .ip (eSpan.all a0) ((wi (v4 - 1)).toNat*eSpan.size+2)) rfl rfl rfl (lq rfl) (lq rfl) rfl (fun hb=>by obtain ⟨hb,hb1⟩:=zI hb;obtain rfl:=gF hb;obtain rfl:b91=true:=hb1;exact j9 (lq rfl) zHP rfl) ?_
 refine zB0 (x:= .d (di t100.Value)) rfl rfl rfl (lq rfl) (lq rfl) rfl (fun hb=>by obtain ⟨hb,hb1⟩:=zI hb;obtain rfl:=gF hb;obtain rfl:b91=true:=hb1;exact zZ (en:=eSpan) (l:=a0) (i:=(wi (v4 - 1))) (v:=t100) (off:=2) (lq rfl) O3 rfl ht100 rfl) ?_
 refine zB0 (x:= .d (db (decide (t94.Value=t100.Value)))) rfl rfl rfl (lq rfl) (lq rfl) rfl (fun hb=>by obtain ⟨hb,hb1⟩:=zI hb;obtain rfl:=gF hb;obtain rfl:b91=true:=hb1;exact zGQ (lq rfl) rfl rfl) ?_
 refine daf (.d (db (b91&&(decide (t94.Value=t100.Value))))) rfl (fun hb=>by subst hb;exact zDB (lq rfl) rfl rfl) ?_
 refine q95 ?_
 refine xQ ?_
 refine yB p2 (fun p2=>?_) (fun p2=>?_)
 refine Q17 ?_
 cases p2
 intro q;cases q
 exact ⟨rfl,wc⟩
 refine Q28 ?_
 cases p2
 exact wc
 refine zG ?_
 cases p2
 intro q;cases q
 exact ⟨rfl,wc⟩
 rintro y2 rfl
 replace h:=eL h
 refine Q0 ?_
 have ⟨t106,ht106,h⟩:=bE h
 refine q8 (zO3 ht106) ?_
 refine Q96 ?_
 have ⟨y3,hy3,h⟩:=bE h
 refine zK y3 (.exit 4) (fun y3=>⟨[],[]⟩) .ret (fun y3=>⟨[(2,.d (di y3))],[]⟩) ?_ ?_ ?_
 refine zD (fun x=>⟨[(0,.d (zW eSpan a0)),(5,.d (zW eRange t106)),(6,.d (di x))],[]⟩) hy3 (wc) ?_
 rintro v6 sy3 p3
 replace p3:zAI a0 t106 v6=some sy3:=p3
 unfold zAI at p3
 refine Q12 ?_
 refine q4 S22 ?_
 refine Q6 ?_
 refine yB p3 (fun p3=>?_) (fun p3=>?_)
 refine Q8 ?_
 refine Q14 ?_
 have ⟨y4,hy4,p3⟩:=bE p3
 refine zK y4 (.exit 6) (fun y4=>⟨[(0,.d (zW eSpan a0)),(5,.d (zW eRange t106)),(6,.d (di v6))],[]⟩) .ret (fun y4=>⟨[(2,.d (di y4))],[]⟩) ?_ ?_ ?_
 refine zD (fun x=>⟨[(0,.d (zW eSpan a0)),(5,.d (zW eRange t106)),(6,.d (di v6)),(7,.d (di x))],[]⟩) hy4 (wc) ?_
 rintro v7 sy4 p4
 replace p4:wN t106 a0 v6 v7=some sy4:=p4
 unfold wN at p4
 refine Q12 ?_
 refine q4 S24 ?_
 refine Q6 ?_
 refine yB p4 (fun p4=>?_) (fun p4=>?_)
 refine Q65 ?_
 refine z7 MX rfl ?_
 refine Q27 ?_
 have ⟨t121,ht121,p4⟩:=bE p4
 refine q23 S22 ht121 ?_
 refine q52 zGU ?_
 refine vB (zZ (en:=eSpan) (l:=a0) (i:=v6) (v:=t121) (off:=0) (lq rfl) O3 rfl ht121 rfl) ?_
 refine Q27 ?_
 have ⟨t126,ht126,p4⟩:=bE p4
 refine q23 S24 ht126 ?_
 refine q52 zC3 ?_
 refine vB (zZ (en:=eRange) (l:=t106) (i:=v7) (v:=t126) (off:=1) (lq rfl) O3 rfl ht126 rfl) ?_
 refine vB (zGP (lq rfl) rfl rfl) ?_
 have ⟨b130,hb130,p4⟩:=bE p4
 refine vB ((zC (lq rfl) rfl).bool (oi hb130)) ?_
 refine q59 (.d (zW eRange t106)) ?_
 refine q59 (.d (di v7)) ?_
 have ⟨t133,ht133,p4⟩:=bE p4
 refine dat (.ip (eRange.all t106) (v7.toNat*eRange.size)) rfl (fun hb=>by subst hb;exact kM (en:=eRange) (lq rfl) S24 rfl rfl ht133) ?_
 refine q99 (.ip (eRange.all t106) (v7.toNat*eRange.size+0)) zGK ?_
 refine dat (.d (di t133.Lo)) rfl (fun hb=>by subst hb;exact zZ (en:=eRange) (l:=t106) (i:=v7) (v:=t133) (off:=0) (lq rfl) O3 rfl ht133 rfl) ?_
 refine q59 (.d (zW eSpan a0)) ?_
 refine q59 (.d (di v6)) ?_
 have ⟨t138,ht138,p4⟩:=bE p4
 refine dat (.ip (eSpan.all a0) (v6.toNat*eSpan.size)) rfl (fun hb=>by subst hb;exact kM (en:=eSpan) (lq rfl) S22 rfl rfl ht138) ?_
 refine q99 (.ip (eSpan.all a0) (v6.toNat*eSpan.size+1)) zGV ?_
 refine dat (.d (di t138.Hi)) rfl (fun hb=>by subst hb;exact zZ (en:=eSpan) (l:=a0) (i:=v6) (v:=t138) (off:=1) (lq rfl) O3 rfl ht138 rfl) ?_
 refine dat (.d (db (decide (t133.Lo≤t138.Hi)))) rfl (fun hb=>by subst hb;exact zGP (lq rfl) rfl rfl) ?_
 refine Q98 ?_
 refine yB p4 (fun p4=>?_) (fun p4=>?_)
 refine Q17 ?_
 cases p4
 intro q;cases q
 exact ⟨rfl,wc⟩
 refine Q28 ?_
 cases p4
 exact wc
 refine zG ?_
 cases p4
 intro q;cases q
 exact ⟨rfl,wc⟩
 rintro y4 rfl
 replace p3:=eL p3
 refine Q11 ?_
 cases p3
 exact wc
 rintro y4 rfl
 replace p3:=eR p3
 cases p3
 intro q;cases q
 exact ⟨rfl,wc⟩
 refine zG ?_
 cases p3
 intro q;cases q
 exact ⟨rfl,wc⟩
 rintro y3 rfl
 replace h:=eL h
 refine Q3 ?_
 cases h
 refine zB ?_
 exact zH rfl
 rintro y3 rfl
 replace h:=eR h
 cases h
 exact zH rfl
 rintro y2 rfl
 replace h:=eR h
 cases h
 exact zH rfl
 rintro y1 rfl
 replace h:=eR h
 cases h
 exact zH rfl
theorem zQD {a0 r} (h:zD8 a0=some r):zF Tryz.prog 125 [(eMapping.dv a0)] [(db r)]:=by
 refine co Tryz.func125 ?_;intro _ _ _ _
 unfold zD8 at h
 refine Q40 ?_
 refine Q96 ?_
 have ⟨y1,hy1,h⟩:=bE h
 refine zK y1 (.exit 0) (fun y1=>⟨[(1,.d (.pt (eMapping.cells a0)))],[]⟩) .ret (fun y1=>⟨[(2,.d (db y1))],[]⟩) ?_ ?_ ?_
 refine zD (fun x=>⟨[(1,.d (.pt (eMapping.cells a0))),(3,.d (di x))],[]⟩) hy1 (wc) ?_
 rintro v3 sy1 p1
 replace p1:zAJ a0 v3=some sy1:=p1
 unfold zAJ at p1
 refine Q4 ?_
 refine q5 zBZ ?_
 refine q6 O33 ?_
 refine Q83 ?_
 refine yB p1 (fun p1=>?_) (fun p1=>?_)
 refine Q29 ?_
 refine q5 zBZ ?_
 refine q6 O33 ?_
 refine q0 ?_
 have ⟨t14,ht14,p1⟩:=bE p1
 refine q11 yU ht14 ?_
 refine q35 O3 ht14 ?_
 have ⟨t16,ht16,p1⟩:=bE p1
 refine q8 (uY ht16) ?_
 refine Q42 ?_
 refine yB p1 (fun p1=>?_) (fun p1=>?_)
 refine Q17 ?_
 cases p1
 intro q;cases q
 exact ⟨rfl,wc⟩
 refine Q28 ?_
 cases p1
 exact wc
 refine zG ?_
 cases p1
 intro q;cases q
 exact ⟨rfl,wc⟩
 rintro y1 rfl
 replace h:=eL h
 refine Q0 ?_
 refine zSN ?_
 have ⟨t20,ht20,h⟩:=bE h
 refine q8 (uY ht20) ?_
 refine Q1 ?_
 cases h
 refine zB ?_
 exact zH rfl
 rintro y1 rfl
 replace h:=eR h
 cases h
 exact zH rfl
theorem zQE {a0 r} (h:zD9 a0=some r):zF Tryz.prog 126 [(zW eMapping a0)] [(db r)]:=by
 refine co Tryz.func126 ?_;intro _ _ _ _
 unfold zD9 at h
 refine Q74 ?_
 have ⟨y1,hy1,h⟩:=bE h
 refine zK y1 (.exit 0) (fun y1=>⟨[],[]⟩) .ret (fun y1=>⟨[(2,.d (db y1))],[]⟩) ?_ ?_ ?_
 refine zD (fun x=>⟨[(0,.d (zW eMapping a0)),(3,.d (di x))],[]⟩) hy1 (wc) ?_
 rintro v3 sy1 p1
 replace p1:zAK a0 v3=some sy1:=p1
 unfold zAK at p1
 refine Q60 ?_
 refine yB p1 (fun p1=>?_) (fun p1=>?_)
 refine Q8 ?_
 refine Q14 ?_
 have ⟨y2,hy2,p1⟩:=bE p1
 refine zK y2 (.exit 2) (fun y2=>⟨[(0,.d (zW eMapping a0)),(3,.d (di v3))],[]⟩) .ret (fun y2=>⟨[(2,.d (db y2))],[]⟩) ?_ ?_ ?_
 refine zD (fun x=>⟨[(0,.d (zW eMapping a0)),(3,.d (di v3)),(4,.d (di x))],[]⟩) hy2 (wc) ?_
 rintro v4 sy2 p2
 replace p2:wO v3 a0 v4=some sy2:=p2
 unfold wO at p2
 refine Q72 ?_
 refine yB p2 (fun p2=>?_) (fun p2=>?_)
 refine Q65 ?_
 refine z7 MX rfl ?_
 refine Q27 ?_
 have ⟨t18,ht18,p2⟩:=bE p2
 refine q23 S23 ht18 ?_
 refine q52 zDJ ?_
 refine z45 O3 ht18 ?_
 refine Q27 ?_
 have ⟨t23,ht23,p2⟩:=bE p2
 refine q23 S23 ht23 ?_
 refine q52 zDJ ?_
 refine z45 O3 ht23 ?_
 refine vB (zGQ (lq rfl) rfl rfl) ?_
 have ⟨b27,hb27,p2⟩:=bE p2
 refine vB ((zC (lq rfl) rfl).bool (oi hb27)) ?_
 refine q59 (.d (zW eMapping a0)) ?_
 refine q59 (.d (di v3)) ?_
 have ⟨t30,ht30,p2⟩:=bE p2
 refine dat (.ip (eMapping.all a0) (v3.toNat*eMapping.size)) rfl (fun hb=>by subst hb;exact kM (en:=eMapping) (lq rfl) S23 rfl rfl ht30) ?_
 refine q99 (.ip (eMapping.all a0) (v3.toNat*eMapping.size+2)) zAX ?_
 refine dat (.d (ds t30.Tag)) rfl (fun hb=>by subst hb;exact zZ (en:=eMapping) (l:=a0) (i:=v3) (v:=t30) (off:=2) (lq rfl) O9 rfl ht30 rfl) ?_
 refine q59 (.d (zW eMapping a0)) ?_
 refine q59 (.d (di v4)) ?_
 have ⟨t35,ht35,p2⟩:=bE p2
 refine dat (.ip (eMapping.all a0) (v4.toNat*eMapping.size)) rfl (fun hb=>by subst hb;exact kM (en:=eMapping) (lq rfl) S23 rfl rfl ht35) ?_
 refine q99 (.ip (eMapping.all a0) (v4.toNat*eMapping.size+2)) zAX ?_
 refine dat (.d (ds t35.Tag)) rfl (fun hb=>by subst hb;exact zZ (en:=eMapping) (l:=a0) (i:=v4) (v:=t35) (off:=2) (lq rfl) O9 rfl ht35 rfl) ?_
 refine dat (.d (db (t30.Tag==t35.Tag))) rfl (fun hb=>by subst hb;exact zL0 (a:=t30.Tag) (b:=t35.Tag) (lq rfl) rfl rfl) ?_
 refine Q98 ?_
 refine yB p2 (fun p2=>?_) (fun p2=>?_)
 refine Q17 ?_
 cases p2
 intro q;cases q
 exact ⟨rfl,wc⟩
 refine Q28 ?_
 cases p2
 exact wc
 refine zG ?_
 cases p2
 intro q;cases q
 exact ⟨rfl,wc⟩
 rintro y2 rfl
 replace p1:=eL p1
 refine Q11 ?_
 cases p1
 exact wc
 rintro y2 rfl
 replace p1:=eR p1
 cases p1
 intro q;cases q
 exact ⟨rfl,wc⟩
 refine zG ?_
 cases p1
 intro q;cases q
 exact ⟨rfl,wc⟩
 rintro y1 rfl
 replace h:=eL h
 refine Q3 ?_
 cases h
 refine zB ?_
 exact zH rfl
 rintro y1 rfl
 replace h:=eR h
 cases h
 exact zH rfl
theorem zMB {a0 r} (h:zBP a0=some r):zF Tryz.prog 100 [(zW eMapping a0)] [(di r)]:=by
 refine co Tryz.func100 ?_;intro _ _ _ _
 unfold zBP at h
 refine Q74 ?_
 have ⟨y1,hy1,h⟩:=bE h
 refine zK y1 (.exit 0) (fun y1=>⟨[(0,.d (zW eMapping a0))],[]⟩) .ret (fun y1=>⟨[(2,.d (di y1))],[]⟩) ?_ ?_ ?_
 refine zD (fun x=>⟨[(0,.d (zW eMapping a0)),(3,.d (di x))],[]⟩) hy1 (wc) ?_
 rintro v3 sy1 p1
 replace p1:wY a0 v3=some sy1:=p1
 unfold wY at p1
 refine Q60 ?_
 refine yB p1 (fun p1=>?_) (fun p1=>?_)
 refine Q69 ?_
 have ⟨t14,ht14,p1⟩:=bE p1
 refine q11 S23 ht14 ?_
 refine q90 zIJ ht14 ?_
 have ⟨t16,ht16,p1⟩:=bE p1
 refine q8 (zQD ht16) ?_
 refine Q42 ?_
 refine yB p1 (fun p1=>?_) (fun p1=>?_)
 refine Q17 ?_
 cases p1
 intro q;cases q
 exact ⟨rfl,wc⟩
 refine Q28 ?_
 cases p1
 exact wc
 refine zG ?_
 cases p1
 intro q;cases q
 exact ⟨rfl,wc⟩
 rintro y1 rfl
 replace h:=eL h
 refine Q32 ?_
 have ⟨y2,hy2,h⟩:=bE h
 refine zK y2 (.exit 2) (fun y2=>⟨[(0,.d (zW eMapping a0))],[]⟩) .ret (fun y2=>⟨[(2,.d (di y2))],[]⟩) ?_ ?_ ?_
 refine zD (fun x=>⟨[(0,.d (zW eMapping a0)),(4,.d (di x))],[]⟩) hy2 (wc) ?_
 rintro v4 sy2 p2
 replace p2:wZ a0 v4=some sy2:=p2
 unfold wZ at p2
 refine Q60 ?_
 refine yB p2 (fun p2=>?_) (fun p2=>?_)
 refine Q69 ?_
 have ⟨t26,ht26,p2⟩:=bE p2
 refine q11 S23 ht26 ?_
 refine q46 zBZ ?_
 refine q84 O33 ht26 ?_
 refine q4 yU ?_
 refine Q54 ?_
 refine yB p2 (fun p2=>?_) (fun p2=>?_)
 refine Q17 ?_
 cases p2
 intro q;cases q
 exact ⟨rfl,wc⟩
 refine Q28 ?_
 cases p2
 exact wc
 refine zG ?_
 cases p2
 intro q;cases q
 exact ⟨rfl,wc⟩
 rintro y2 rfl
 replace h:=eL h
 refine Q32 ?_
 have ⟨y3,hy3,h⟩:=bE h
 refine zK y3 (.exit 4) (fun y3=>⟨[(0,.d (zW eMapping a0))],[]⟩) .ret (fun y3=>⟨[(2,.d (di y3))],[]⟩) ?_ ?_ ?_
 refine zD (fun x=>⟨[(0,.d (zW eMapping a0)),(5,.d (di x))],[]⟩) hy3 (wc) ?_
 rintro v5 sy3 p3
 replace p3:w6 a0 v5=some sy3:=p3
 unfold w6 at p3
 refine Q60 ?_
 refine yB p3 (fun p3=>?_) (fun p3=>?_)
 refine Q69 ?_
 have ⟨t39,ht39,p3⟩:=bE p3
 refine q11 S23 ht39 ?_
 refine q46 zAX ?_
 refine yH (zZ (en:=eMapping) (l:=a0) (i:=v5) (v:=t39) (off:=2) (lq rfl) O9 rfl ht39 rfl) ?_
 refine z1M ?_
 have ⟨b43,hb43,p3⟩:=bE p3
 refine yH ((zC (lq rfl) rfl).bool (oi hb43)) ?_
 refine q13 (.d (zW eMapping a0)) ?_
 refine q13 (.d (di v5)) ?_
 have ⟨t46,ht46,p3⟩:=bE p3
 refine sqt (.ip (eMapping.all a0) (v5.toNat*eMapping.size)) rfl (fun hb=>by subst hb;exact kM (en:=eMapping) (lq rfl) S23 rfl rfl ht46) ?_
 refine z1U (.ip (eMapping.all a0) (v5.toNat*eMapping.size+2)) zAX ?_
 refine sqt (.d (ds t46.Tag)) rfl (fun hb=>by subst hb;exact zZ (en:=eMapping) (l:=a0) (i:=v5) (v:=t46) (off:=2) (lq rfl) O9 rfl ht46 rfl) ?_
 have ⟨t49,ht49,p3⟩:=bE p3
 refine sqt (.d (db t49)) rfl (fun hb=>by subst hb;exact xV (lq rfl) rfl (zLB ht49)) ?_
 refine z1I (.d (db (!t49))) ?_
 refine Q36 ?_
 refine yB p3 (fun p3=>?_) (fun p3=>?_)
 refine Q17 ?_
 cases p3
 intro q;cases q
 exact ⟨rfl,wc⟩
 refine Q28 ?_
 cases p3
 exact wc
 refine zG ?_
 cases p3
 intro q;cases q
 exact ⟨rfl,wc⟩
 rintro y3 rfl
 replace h:=eL h
 refine Q4 ?_
 have ⟨t53,ht53,h⟩:=bE h
 refine q8 (zQE ht53) ?_
 refine zL ?_
 refine yB h (fun h=>?_) (fun h=>?_)
 refine Q3 ?_
 cases h
 refine zB ?_
 exact zH rfl
 refine Q58 ?_
 cases h
 refine zB ?_
 exact zH rfl
 rintro y3 rfl
 replace h:=eR h
 cases h
 exact zH rfl
 rintro y2 rfl
 replace h:=eR h
 cases h
 exact zH rfl
 rintro y1 rfl
 replace h:=eR h
 cases h
 exact zH rfl
theorem zO4 {a0 a1 r} (h:zE0 a0 a1=some r):zF Tryz.prog 101 [(eMapping.dv a0),(eMapping.dv a1)] [(db r)]:=by
 refine co Tryz.func101 ?_;intro _ _ _ _
 unfold zE0 at h
 refine Q40 ?_
 refine q40 ?_
 refine Q39 ?_
 refine zSN ?_
 refine zSN ?_
 refine q3 ?_
 have ⟨b10,hb10,h⟩:=bE h
 refine yH ((zC (lq rfl) rfl).bool (oi hb10)) ?_
 refine q25 (.ip (eMapping.cells a0) (0+0)) zDJ ?_
 refine q26 (.d (di a0.From)) O3 ?_
 refine q25 (.ip (eMapping.cells a1) (0+0)) zDJ ?_
 refine q26 (.d (di a1.From)) O3 ?_
 refine zXR (.d (db (decide (a0.From=a1.From)))) ?_
 have ⟨b16,hb16,h⟩:=bE h
 refine sqf (.d (db b16)) rfl (fun hb=>by subst hb;exact (zC (lq rfl) rfl).bool (oi hb16)) ?_
 refine jR (x:= .ip (eMapping.cells a0) (0+2)) rfl rfl rfl (lq rfl) (lq rfl) rfl (fun hb=>by obtain ⟨hb,hb1⟩:=zI hb;obtain rfl:=gF hb;obtain rfl:b16=true:=hb1;exact xM (lq rfl) zAX rfl) ?_
 refine jR (x:= .d (ds a0.Tag)) rfl rfl rfl (lq rfl) (lq rfl) rfl (fun hb=>by obtain ⟨hb,hb1⟩:=zI hb;obtain rfl:=gF hb;obtain rfl:b16=true:=hb1;exact kD (lq rfl) O9 rfl rfl) ?_
 refine jR (x:= .ip (eMapping.cells a1) (0+2)) rfl rfl rfl (lq rfl) (lq rfl) rfl (fun hb=>by obtain ⟨hb,hb1⟩:=zI hb;obtain rfl:=gF hb;obtain rfl:b16=true:=hb1;exact xM (lq rfl) zAX rfl) ?_
 refine jR (x:= .d (ds a1.Tag)) rfl rfl rfl (lq rfl) (lq rfl) rfl (fun hb=>by obtain ⟨hb,hb1⟩:=zI hb;obtain rfl:=gF hb;obtain rfl:b16=true:=hb1;exact kD (lq rfl) O9 rfl rfl) ?_
 refine jR (x:= .d (db (Op.bytesLess a0.Tag a1.Tag))) rfl rfl rfl (lq rfl) (lq rfl) rfl (fun hb=>by obtain ⟨hb,hb1⟩:=zI hb;obtain rfl:=gF hb;obtain rfl:b16=true:=hb1;exact z3X (a:=a0.Tag) (b:=a1.Tag) (lq rfl) rfl rfl) ?_
 refine q86 (.d (db (b16&&(Op.bytesLess a0.Tag a1.Tag)))) ?_
 refine q18 ?_
 refine Q1 ?_
 cases h
 refine zB ?_
 exact zH rfl
theorem zQF {a0 r} (h:zEA a0=some r):zF Tryz.prog 65 [(zW eMapping a0)] [(di r)]:=by
 refine co Tryz.func65 ?_;intro _ _ _ _
 unfold zEA at h
 refine Q47 ?_
 have ⟨t6,ht6,h⟩:=bE h
 refine q8 (zMB ht6) ?_
 refine Q62 ?_
 refine yB h (fun h=>?_) (fun h=>?_)
 refine Q35 ?_
 cases h
 refine zB ?_
 exact zH rfl
 refine Q93 ?_
 have ⟨y1,hy1,h⟩:=bE h
 refine zK y1 (.exit 0) (fun y1=>⟨[],[]⟩) .ret (fun y1=>⟨[(2,.d (di y1))],[]⟩) ?_ ?_ ?_
 refine zD (fun x=>⟨[(0,.d (zW eMapping a0)),(4,.d (di x))],[]⟩) hy1 (wc) ?_
 rintro v4 sy1 p1
 replace p1:zAL a0 v4=some sy1:=p1
 unfold zAL at p1
 refine Q60 ?_
 refine yB p1 (fun p1=>?_) (fun p1=>?_)
 refine Q65 ?_
 refine z7 MX rfl ?_
 refine Q27 ?_
 refine zVD ?_
 have ⟨t19,ht19,p1⟩:=bE p1
 refine q23 S23 ht19 ?_
 refine z8K zIJ ht19 ?_
 refine Q27 ?_
 have ⟨t23,ht23,p1⟩:=bE p1
 refine q23 S23 ht23 ?_
 refine z8K zIJ ht23 ?_
 have ⟨t25,ht25,p1⟩:=bE p1
 refine q22 (zO4 ht25) ?_
 refine z8N ?_
 refine xQ ?_
 refine yB p1 (fun p1=>?_) (fun p1=>?_)
 refine Q17 ?_
 cases p1
 intro q;cases q
 exact ⟨rfl,wc⟩
 refine Q28 ?_
 cases p1
 exact wc
 refine zG ?_
 cases p1
 intro q;cases q
 exact ⟨rfl,wc⟩
 rintro y1 rfl
 replace h:=eL h
 refine Q3 ?_
 cases h
 refine zB ?_
 exact zH rfl
 rintro y1 rfl
 replace h:=eR h
 cases h
 exact zH rfl
theorem zGM {a0 a1 r} (h:zBQ a0 a1=some r):zF Tryz.prog 147 [(zW eI a0),(di a1)] [(zW eI r)]:=by
 refine co Tryz.func147 ?_;intro _ _ _ _
 unfold zBQ at h
 refine yGL ?_
 refine zV (zCT (t:=5) 1005 3 eI.size (lq rfl) (lq rfl) rfl rfl) ?_
 refine Q74 ?_
 have ⟨y1,hy1,h⟩:=bE h
 refine tl (.exit 0) ⟨[(1,.d (di a1)),(5,.row 1005),(6,.d (db y1.1))],[(1005,.row 3 eI.size false (eI.all y1.2))]⟩ ?_ ?_
 refine zD (fun x=>⟨[(0,.d (zW eI a0)),(1,.d (di a1)),(5,.row 1005),(6,.d (db x.1)),(7,.d (di x.2.1))],[(1005,.row 3 eI.size false (eI.all x.2.2))]⟩) hy1 (wc) ?_
 rintro ⟨v6,v7,r1005⟩ sy1 p1
 replace p1:jA a0 a1 v6 v7 r1005=some sy1:=p1
 unfold jA at p1
 refine Q12 ?_
 refine Q83 ?_
 refine yB p1 (fun p1=>?_) (fun p1=>?_)
 refine Q8 ?_
 refine Q4 ?_
 refine q32 ?_
 have ⟨b16,hb16,p1⟩:=bE p1
 refine yH ((zC (lq rfl) rfl).bool (oi hb16)) ?_
 refine q13 (.d (zW eI a0)) ?_
 refine q13 (.d (di v7)) ?_
 have ⟨t19,ht19,p1⟩:=bE p1
 refine sqt (.ip (eI.all a0) (v7.toNat*eI.size)) rfl (fun hb=>by subst hb;exact kM (en:=eI) (lq rfl) yU rfl rfl ht19) ?_
 refine sqt (.d (di t19)) rfl (fun hb=>by subst hb;exact zZ (en:=eI) (l:=a0) (i:=v7) (v:=t19) (off:=0) (lq rfl) O3 rfl ht19 rfl) ?_
 refine q13 (.d (di a1)) ?_
 refine sqt (.d (db (decide (a1≤t19)))) rfl (fun hb=>by subst hb;exact zH6 (lq rfl) rfl rfl) ?_
 refine Q36 ?_
 have ⟨y2,hy2,p1⟩:=bE p1
 refine tl .normal ⟨[(0,.d (zW eI a0)),(1,.d (di a1)),(5,.row 1005),(6,.d (db y2.1)),(7,.d (di v7))],[(1005,.row 3 eI.size false (eI.all y2.2))]⟩ ?_ ?_
 refine yB hy2 (fun hy2=>?_) (fun hy2=>?_)
 refine Q3 ?_
 refine Q15 ?_
 have ⟨t26,ht26,hy2⟩:=bE hy2
 refine q11 yU ht26 ?_
 refine q35 O3 ht26 ?_
 refine q0 ?_
 refine Q54 ?_
 refine yB hy2 (fun hy2=>?_) (fun hy2=>?_)
 refine z5D ?_
 refine q24 yU ?_
 have ⟨r1005_3,hr1005_3,hy2⟩:=bE hy2
 refine kP rfl (jU (en:=eI) (l:=r1005) (m:=[a1]) (lq rfl) yU rfl rfl rfl hr1005_3 (by decide) (by decide) rfl rfl) ?_
 refine Q13 ?_
 cases hy2
 exact zN (wc)
 refine zP ?_
 cases hy2
 exact zN (wc)
 refine zP ?_
 cases hy2
 exact zN (wc)
 refine Q63 ?_
 have ⟨t37,ht37,p1⟩:=bE p1
 refine q11 yU ht37 ?_
 refine q35 O3 ht37 ?_
 refine q24 yU ?_
 have ⟨r1005_4,hr1005_4,p1⟩:=bE p1
 refine kP rfl (jU (en:=eI) (l:=y2.2) (m:=[t37]) (lq rfl) yU rfl rfl rfl hr1005_4 (by decide) (by decide) rfl rfl) ?_
 refine Q13 ?_
 refine Q11 ?_
 cases p1
 exact wc
 refine zG ?_
 cases p1
 intro q;cases q
 exact zN (wc)
 refine Q4 ?_
 refine Q42 ?_
 have ⟨y5,hy5,h⟩:=bE h
 refine tl .normal ⟨[(5,.row 1005)],[(1005,.row 3 eI.size false (eI.all y5))]⟩ ?_ ?_
 refine yB hy5 (fun hy5=>?_) (fun hy5=>?_)
 refine z5D ?_
 refine q24 yU ?_
 have ⟨r1005_6,hr1005_6,hy5⟩:=bE hy5
 refine kP rfl (jU (en:=eI) (l:=y1.2) (m:=[a1]) (lq rfl) yU rfl rfl rfl hr1005_6 (by decide) (by decide) rfl rfl) ?_
 refine Q13 ?_
 cases hy5
 exact zN (wc)
 refine zP ?_
 cases hy5
 exact zN (wc)
 refine Q61 ?_
 cases h
 refine zB ?_
 exact zH rfl
theorem zLC {a0 a1 r} (h:zDG a0 a1=some r):zF Tryz.prog 139 [(zW eI a0),(eSet.dv a1)] [(zW eI r)]:=by
 refine co Tryz.func139 ?_;intro _ _ _ _
 unfold zDG at h
 refine Q91 ?_
 refine Q96 ?_
 have ⟨y1,hy1,h⟩:=bE h
 refine tl (.exit 0) ⟨[(0,.d (zW eI y1))],[]⟩ ?_ ?_
 refine zD (fun x=>⟨[(0,.d (zW eI x.1)),(3,.d (.pt (eSet.cells a1))),(5,.d (di x.2))],[]⟩) hy1 (wc) ?_
 rintro ⟨v0,v5⟩ sy1 p1
 replace p1:wH a1 v0 v5=some sy1:=p1
 unfold wH at p1
 refine Q4 ?_
 refine Q97 ?_
 refine Q6 ?_
 refine yB p1 (fun p1=>?_) (fun p1=>?_)
 refine Q5 ?_
 have ⟨y2,hy2,p1⟩:=bE p1
 refine tl .normal ⟨[(0,.d (zW eI y2)),(3,.d (.pt (eSet.cells a1))),(5,.d (di v5))],[]⟩ ?_ ?_
 refine kT<|kL ?_
 refine z7 MX rfl ?_
 refine q19 zGT ?_
 refine q33 O24 ?_
 refine q7 ?_
 have ⟨t18,ht18,hy2⟩:=bE hy2
 refine q23 S24 ht18 ?_
 refine q52 zGK ?_
 refine vB (zZ (en:=eRange) (l:=a1.Ranges) (i:=v5) (v:=t18) (off:=0) (lq rfl) O3 rfl ht18 rfl) ?_
 refine q19 zGT ?_
 refine q33 O24 ?_
 refine q7 ?_
 have ⟨t24,ht24,hy2⟩:=bE hy2
 refine q23 S24 ht24 ?_
 refine q52 zC3 ?_
 refine vB (zZ (en:=eRange) (l:=a1.Ranges) (i:=v5) (v:=t24) (off:=1) (lq rfl) O3 rfl ht24 rfl) ?_
 refine yEY ?_
 refine Q4 ?_
 have ⟨t28,ht28,hy2⟩:=bE hy2
 refine q8 (uY ht28) ?_
 refine zL ?_
 have ⟨y3,hy3,hy2⟩:=bE hy2
 refine tl .normal ⟨[(0,.d (zW eI y3)),(3,.d (.pt (eSet.cells a1))),(5,.d (di v5)),(7,.d (di t24.Hi))],[]⟩ ?_ ?_
 refine yB hy3 (fun hy3=>?_) (fun hy3=>?_)
 refine Q66 ?_
 have ⟨t31,ht31,hy3⟩:=bE hy3
 refine q8 (zGM ht31) ?_
 refine Q1 ?_
 cases hy3
 exact zN (wc)
 refine zP ?_
 cases hy3
 exact zN (wc)
 refine Q2 ?_
 refine q44 ?_
 have ⟨b34,hb34,hy2⟩:=bE hy2
 refine yH ((zC (lq rfl) rfl).bool (oi hb34)) ?_
 refine q13 (.d (di t24.Hi)) ?_
 refine q73 (.d (db (decide (t24.Hi < 1114111)))) ?_
 refine Q36 ?_
 refine yB hy2 (fun hy2=>?_) (fun hy2=>?_)
 refine Q66 ?_
 refine q2 ?_
 have ⟨t41,ht41,hy2⟩:=bE hy2
 refine q8 (zGM ht41) ?_
 refine Q1 ?_
 cases hy2
 exact zN (wc)
 refine zP ?_
 cases hy2
 exact zN (wc)
 refine Q11 ?_
 cases p1
 exact wc
 refine zG ?_
 cases p1
 intro q;cases q
 exact zN (wc)
 refine Q2 ?_
 have ⟨t43,ht43,h⟩:=bE h
 refine q8 (zGM ht43) ?_
 refine Q1 ?_
 cases h
 refine zB ?_
 exact zH rfl
theorem zM0 {a0 a1 r} (h:zDH a0 a1=some r):zF Tryz.prog 141 [(eSet.dv a0),(di a1)] [(db r)]:=by
 refine co Tryz.func141 ?_;intro _ _ _ _
 unfold zDH at h
 refine Q91 ?_
 refine Q96 ?_
 have ⟨y1,hy1,h⟩:=bE h
 refine zK y1 (.exit 0) (fun y1=>⟨[],[]⟩) .ret (fun y1=>⟨[(4,.d (db y1))],[]⟩) ?_ ?_ ?_
 refine zD (fun x=>⟨[(1,.d (di a1)),(2,.d (.pt (eSet.cells a0))),(5,.d (di x))],[]⟩) hy1 (wc) ?_
 rintro v5 sy1 p1
 replace p1:zBV a0 a1 v5=some sy1:=p1
 unfold zBV at p1
 refine Q4 ?_
 refine Q97 ?_
 refine Q6 ?_
 refine yB p1 (fun p1=>?_) (fun p1=>?_)
 refine Q8 ?_
 refine Q2 ?_
 have ⟨t14,ht14,p1⟩:=bE p1
 refine q8 (uY ht14) ?_
 have ⟨b15,hb15,p1⟩:=bE p1
 refine yH ((zC (lq rfl) rfl).bool (oi hb15)) ?_
 refine q54 (.ip (eSet.cells a0) (0+0)) zGT ?_
 refine q62 (.d (zW eRange a0.Ranges)) O24 ?_
 refine q13 (.d (di v5)) ?_
 have ⟨t19,ht19,p1⟩:=bE p1
 refine sqt (.ip (eRange.all a0.Ranges) (v5.toNat*eRange.size)) rfl (fun hb=>by subst hb;exact kM (en:=eRange) (lq rfl) S24 rfl rfl ht19) ?_
 refine z1U (.ip (eRange.all a0.Ranges) (v5.toNat*eRange.size+0)) zGK ?_
 refine sqt (.d (di t19.Lo)) rfl (fun hb=>by subst hb;exact zZ (en:=eRange) (l:=a0.Ranges) (i:=v5) (v:=t19) (off:=0) (lq rfl) O3 rfl ht19 rfl) ?_
 refine q13 (.d (di a1)) ?_
 refine q55 (.d (db (decide (t19.Lo≤a1)))) ?_
 refine q14 ?_
 have ⟨b25,hb25,p1⟩:=bE p1
 refine yH ((zC (lq rfl) rfl).bool (oi hb25)) ?_
 refine q13 (.d (di a1)) ?_
 refine q54 (.ip (eSet.cells a0) (0+0)) zGT ?_
 refine q62 (.d (zW eRange a0.Ranges)) O24 ?_
 refine q13 (.d (di v5)) ?_
 have ⟨t30,ht30,p1⟩:=bE p1
 refine sqt (.ip (eRange.all a0.Ranges) (v5.toNat*eRange.size)) rfl (fun hb=>by subst hb;exact kM (en:=eRange) (lq rfl) S24 rfl rfl ht30) ?_
 refine z1U (.ip (eRange.all a0.Ranges) (v5.toNat*eRange.size+1)) zC3 ?_
 refine sqt (.d (di t30.Hi)) rfl (fun hb=>by subst hb;exact zZ (en:=eRange) (l:=a0.Ranges) (i:=v5) (v:=t30) (off:=1) (lq rfl) O3 rfl ht30 rfl) ?_
 refine q55 (.d (db (decide (a1≤t30.Hi)))) ?_
 refine Q36 ?_
 refine yB p1 (fun p1=>?_) (fun p1=>?_)
 refine Q17 ?_
 cases p1
 intro q;cases q
 exact ⟨rfl,wc⟩
 refine Q28 ?_
 cases p1
 exact wc
 refine zG ?_
 cases p1
 intro q;cases q
 exact ⟨rfl,wc⟩
 rintro y1 rfl
 replace h:=eL h
 refine Q3 ?_
 cases h
 refine zB ?_
 exact zH rfl
 rintro y1 rfl
 replace h:=eR h
 cases h
 exact zH rfl
theorem zQG {a0 a1 a2 r} (h:zGC a0 a1 a2=some r):zF Tryz.prog 140 [(di a0),(db a1),(db a2)] [(db r)]:=by
 refine co Tryz.func140 ?_;intro _ _ _ _
 unfold zGC at h
 refine Q47 ?_
 refine zL<|zXY ?_
 refine Q88 ?_
 refine yB h (fun h=>?_) (fun h=>?_)
 refine Q2 ?_
 have ⟨b11,hb11,h⟩:=bE h
 refine yH ((zC (lq rfl) rfl).bool (oi hb11)) ?_
 refine q38 (.d (db a2)) ?_
 refine q18 ?_
 refine Q1 ?_
 cases h
 refine zB ?_
 exact zH rfl
 refine Q0 ?_
 refine Q88 ?_
 refine yB h (fun h=>?_) (fun h=>?_)
 refine Q2 ?_
 have ⟨b17,hb17,h⟩:=bE h
 refine yH ((zC (lq rfl) rfl).bool (oi hb17)) ?_
 refine q13 (.d (db a2)) ?_
 refine Q41 ?_
 cases h
 refine zB ?_
 exact zH rfl
 refine zP<|Q2 ?_
 have ⟨b21,hb21,h⟩:=bE h
 refine yH ((zC (lq rfl) rfl).bool (oi hb21)) ?_
 refine q13 (.d (db a2)) ?_
 refine z1I (.d (db (!a2))) ?_
 refine Q41 ?_
 cases h
 refine zB ?_
 exact zH rfl
theorem zNE {a0 a1 a2 r} (h:zDS a0 a1 a2=some r):zF Tryz.prog 127 [(eSet.dv a0),(eSet.dv a1),(di a2)] [(eSet.dv r)]:=by
 refine co Tryz.func127 ?_;intro _ _ _ _
 unfold zDS at h
 refine Q91 ?_
 refine q63 ?_
 refine z1P ?_
 refine zL<|kL ?_
 refine z7 MX rfl ?_
 refine q69 G26 ?_
 have ⟨t14,ht14,h⟩:=bE h
 refine q22 (z7P (zLC ht14) (nlN (nlE nl0))) ?_
 refine q69 G26 ?_
 have ⟨t16,ht16,h⟩:=bE h
 refine q22 (zLC ht16) ?_
 refine Q51 ?_
 refine Q0 ?_
 refine z1P ?_
 refine zL ?_
 refine zV (zKL (bid:=8) (off:=0) 4160 143 eRange.size (lq rfl) (by decide) rfl rfl rfl) ?_
 refine Q74 ?_
 have ⟨y1,hy1,h⟩:=bE h
 refine tl (.exit 0) ⟨[(6,.ptr 6 0),(8,.ptr 8 0)],[(6,.box 26 [.d (.v (.slice none 0 0))]),(8,.box 26 [.row 4160]),(4160,.row 143 eRange.size false (eRange.all y1))]⟩ ?_ ?_
 refine zD (fun x=>⟨[(2,.d (di a2)),(3,.d (.pt (eSet.cells a0))),(4,.d (.pt (eSet.cells a1))),(6,.ptr 6 0),(7,.d (zW eI t16)),(8,.ptr 8 0),(9,.d (db x.1)),(10,.d (di x.2.1))],[(6,.box 26 [.d (.v (.slice none 0 0))]),(8,.box 26 [.row 4160]),(4160,.row 143 eRange.size false (eRange.all x.2.2))]⟩) hy1 (wc) ?_
 rintro ⟨v9,v10,r4160⟩ sy1 p1
 replace p1:kY t16 a0 a1 a2 v9 v10 r4160=some sy1:=p1
 unfold kY at p1
 refine Q12 ?_
 refine Q83 ?_
 refine yB p1 (fun p1=>?_) (fun p1=>?_)
 refine Q8 ?_
 refine Q47 ?_
 refine q2 ?_
 refine q0 ?_
 refine Q83 ?_
 have ⟨y2,hy2,p1⟩:=bE p1
 refine tl .normal ⟨[(2,.d (di a2)),(3,.d (.pt (eSet.cells a0))),(4,.d (.pt (eSet.cells a1))),(6,.ptr 6 0),(7,.d (zW eI t16)),(8,.ptr 8 0),(9,.d (db v9)),(10,.d (di v10)),(11,.d (di y2))],[(6,.box 26 [.d (.v (.slice none 0 0))]),(8,.box 26 [.row 4160]),(4160,.row 143 eRange.size false (eRange.all r4160))]⟩ ?_ ?_
 refine yB hy2 (fun hy2=>?_) (fun hy2=>?_)
 refine Q66 ?_
 refine q2 ?_
 have ⟨t31,ht31,hy2⟩:=bE hy2
 refine q11 yU ht31 ?_
 refine q35 O3 ht31 ?_
 refine Q73 ?_
 cases hy2
 exact zN (wc)
 refine zP ?_
 cases hy2
 exact zN (wc)
 refine kL ?_
 refine z7 MX rfl ?_
 refine q7 ?_
 refine q69 G26 ?_
 refine Q27 ?_
 have ⟨t38,ht38,p1⟩:=bE p1
 refine q23 yU ht38 ?_
 refine q67 O3 ht38 ?_
 have ⟨t40,ht40,p1⟩:=bE p1
 refine q22 (zM0 ht40) ?_
 refine q69 G26 ?_
 refine Q27 ?_
 have ⟨t44,ht44,p1⟩:=bE p1
 refine q23 yU ht44 ?_
 refine q67 O3 ht44 ?_
 have ⟨t46,ht46,p1⟩:=bE p1
 refine q22 (zM0 ht46) ?_
 have ⟨t47,ht47,p1⟩:=bE p1
 refine q22 (zQG ht47) ?_
 refine Q51 ?_
 refine Q4 ?_
 have ⟨b49,hb49,p1⟩:=bE p1
 refine yH ((zC (lq rfl) rfl).bool (oi hb49)) ?_
 refine q13 (.d (db v9)) ?_
 refine Q36 ?_
 have ⟨y3,hy3,p1⟩:=bE p1
 refine tl .normal ⟨[(2,.d (di a2)),(3,.d (.pt (eSet.cells a0))),(4,.d (.pt (eSet.cells a1))),(6,.ptr 6 0),(7,.d (zW eI t16)),(8,.ptr 8 0),(9,.d (db v9)),(10,.d (di v10)),(11,.d (di y2)),(12,.d (db t47))],[(6,.box 26 [.d (.v (.slice none 0 0))]),(8,.box 26 [.row 4160]),(4160,.row 143 eRange.size false (eRange.all y3))]⟩ ?_ ?_
 refine yB hy3 (fun hy3=>?_) (fun hy3=>?_)
 refine zBD<|q51 zGT ?_
 refine q28 O24 ?_
 refine q51 zGT ?_
 refine q28 O24 ?_
 refine z79 S24 ?_
 refine q31 ?_
 refine q0 ?_
 have ⟨t59,ht59,hy3⟩:=bE hy3
 refine q80 S24 ht59 ?_
 refine q51 zC3 ?_
 have ⟨r4160_4,hr4160_4,hy3⟩:=bE hy3
 refine kP rfl (zKT (en:=eRange) (l:=r4160) (i:=(wi ((r4160.length:Int) - 1))) (v:=t59) (off:=1) O3 rfl rfl rfl ht59 rfl (by decide) hr4160_4 rfl rfl) ?_
 refine zL ?_
 cases hy3
 exact zN (wc)
 refine zP ?_
 cases hy3
 exact zN (wc)
 refine Q4 ?_
 have ⟨b62,hb62,p1⟩:=bE p1
 refine yH ((zC (lq rfl) rfl).bool (oi hb62)) ?_
 refine q13 (.d (db v9)) ?_
 refine z1I (.d (db (!v9))) ?_
 refine Q36 ?_
 have ⟨y5,hy5,p1⟩:=bE p1
 refine tl .normal ⟨[(2,.d (di a2)),(3,.d (.pt (eSet.cells a0))),(4,.d (.pt (eSet.cells a1))),(6,.ptr 6 0),(7,.d (zW eI t16)),(8,.ptr 8 0),(10,.d (di v10)),(12,.d (db t47))],[(6,.box 26 [.d (.v (.slice none 0 0))]),(8,.box 26 [.row 4160]),(4160,.row 143 eRange.size false (eRange.all y5))]⟩ ?_ ?_
 refine yB hy5 (fun hy5=>?_) (fun hy5=>?_)
 refine zFG 9 MX rfl ?_
 refine zVC zGT ?_
 refine z8G O24 ?_
 refine Q27 ?_
 have ⟨t70,ht70,hy5⟩:=bE hy5
 refine q23 yU ht70 ?_
 refine q67 O3 ht70 ?_
 refine q7 ?_
 refine vB (zCW (lq rfl) zU5 rfl rfl) ?_
 refine z8J S24 ?_
 refine xQ ?_
 have ⟨r4160_6,hr4160_6,hy5⟩:=bE hy5
 refine kP rfl (jU (en:=eRange) (l:=y3) (m:=[({Lo:=t70,Hi:=y2}:Range)]) (lq rfl) S24 rfl rfl rfl hr4160_6 (by decide) (by decide) rfl rfl) ?_
 refine q51 zGT ?_
 refine q93 O24 ?_
 refine zL ?_
 cases hy5
 exact zN (wc)
 refine zP ?_
 cases hy5
 exact zN (wc)
 refine Q81 ?_
 refine Q11 ?_
 cases p1
 exact wc
 refine zG ?_
 cases p1
 intro q;cases q
 exact zN (wc)
 refine kL ?_
 refine zV (zR4 (bid:=8) (off:=0) rfl rfl rfl) ?_
 refine zBD ?_
 refine yH ((zAT (lq rfl) G26 rfl rfl rfl rfl).data rfl) ?_
 refine q16 G26 ?_
 refine zL ?_
 cases h
 refine zB ?_
 exact vH rfl rfl G26 rfl
theorem zSQ {a0 r} (h:zFL a0=some r):zF Tryz.prog 103 [(zW eRange a0)] [(eSet.dv r)]:=by
 refine co Tryz.func103 ?_;intro _ _ _ _
 unfold zFL at h
 refine Q0 ?_
 refine z1P ?_
 refine zL<|Q2 ?_
 refine q48 B26 ?_
 refine yH ((zCW (lq rfl) B26 rfl rfl).nils (bs:=eSet.cells ({Ranges:=[]}:Set)) (nlN nl0)) ?_
 have ⟨t6,ht6,h⟩:=bE h
 refine q8 (zNE ht6) ?_
 refine q16 G26 ?_
 refine zL ?_
 cases h
 refine zB ?_
 exact vH rfl rfl G26 rfl
theorem zSR {a0 a1 r} (h:zFM a0 a1=some r):zF Tryz.prog 102 [(eSet.dv a0),(eSet.dv a1)] [(db r)]:=by
 refine co Tryz.func102 ?_;intro _ _ _ _
 unfold zFM at h
 refine Q91 ?_
 refine q63 ?_
 refine Q53 ?_
 refine Q97 ?_
 refine Q97 ?_
 refine Q33 ?_
 refine yB h (fun h=>?_) (fun h=>?_)
 refine Q3 ?_
 cases h
 refine zB ?_
 exact zH rfl
 refine Q93 ?_
 have ⟨y1,hy1,h⟩:=bE h
 refine zK y1 (.exit 0) (fun y1=>⟨[],[]⟩) .ret (fun y1=>⟨[(4,.d (db y1))],[]⟩) ?_ ?_ ?_
 refine zD (fun x=>⟨[(2,.d (.pt (eSet.cells a0))),(3,.d (.pt (eSet.cells a1))),(5,.d (di x))],[]⟩) hy1 (wc) ?_
 rintro v5 sy1 p1
 replace p1:zBA a0 a1 v5=some sy1:=p1
 unfold zBA at p1
 refine Q4 ?_
 refine Q97 ?_
 refine Q6 ?_
 refine yB p1 (fun p1=>?_) (fun p1=>?_)
 refine Q65 ?_
 refine z7 MX rfl ?_
 refine q19 zGT ?_
 refine q33 O24 ?_
 refine q7 ?_
 have ⟨t23,ht23,p1⟩:=bE p1
 refine q23 S24 ht23 ?_
 refine vB (xH (en:=eRange) (l:=a0.Ranges) (i:=v5) (v:=t23) (off:=0) (lq rfl) zA5 rfl ht23 rfl rfl (by decide)) ?_
 refine q19 zGT ?_
 refine q33 O24 ?_
 refine q7 ?_
 have ⟨t28,ht28,p1⟩:=bE p1
 refine q23 S24 ht28 ?_
 refine vB (xH (en:=eRange) (l:=a1.Ranges) (i:=v5) (v:=t28) (off:=0) (lq rfl) zA5 rfl ht28 rfl rfl (by decide)) ?_
 refine vB (zSA (en:=eRange) (a:=t23) (b:=t28) (lq rfl) yEG rfl rfl) ?_
 refine xQ ?_
 refine yB p1 (fun p1=>?_) (fun p1=>?_)
 refine Q17 ?_
 cases p1
 intro q;cases q
 exact ⟨rfl,wc⟩
 refine Q28 ?_
 cases p1
 exact wc
 refine zG ?_
 cases p1
 intro q;cases q
 exact ⟨rfl,wc⟩
 rintro y1 rfl
 replace h:=eL h
 refine Q3 ?_
 cases h
 refine zB ?_
 exact zH rfl
 rintro y1 rfl
 replace h:=eR h
 cases h
 exact zH rfl
theorem zQH {a0 r} (h:zEB a0=some r):zF Tryz.prog 66 [(eSet.dv a0)] [(db r)]:=by
 refine co Tryz.func66 ?_;intro _ _ _ _
 unfold zEB at h
 refine Q91 ?_
 refine Q16 ?_
 refine z7 MX rfl ?_
 refine q69 G26 ?_
 refine q19 zGT ?_
 refine q33 O24 ?_
 have ⟨t6,ht6,h⟩:=bE h
 refine q22 (zSQ ht6) ?_
 have ⟨t7,ht7,h⟩:=bE h
 refine q22 (zSR ht7) ?_
 refine Q51 ?_
 cases h
 refine zB ?_
 exact zH rfl
theorem zHJ {a0 a1 a2 r} (h:zCI a0 a1 a2=some r):zF Tryz.prog 67 [(zW eMapping a0),(di a1),(db a2)] [(di r)]:=by
 refine co Tryz.func67 ?_;intro _ _ _ _
 unfold zCI at h
 refine Q74 ?_
 have ⟨y1,hy1,h⟩:=bE h
 refine zK y1 (.exit 0) (fun y1=>⟨[],[]⟩) .ret (fun y1=>⟨[(6,.d (di y1))],[]⟩) ?_ ?_ ?_
 refine zD (fun x=>⟨[(0,.d (zW eMapping a0)),(1,.d (di a1)),(2,.d (db a2)),(7,.d (di x))],[]⟩) hy1 (wc) ?_
 rintro v7 sy1 p1
 replace p1:zBB a0 a1 a2 v7=some sy1:=p1
 unfold zBB at p1
 refine Q60 ?_
 refine yB p1 (fun p1=>?_) (fun p1=>?_)
 refine Q69 ?_
 have ⟨t16,ht16,p1⟩:=bE p1
 refine q11 S23 ht16 ?_
 refine q46 zDJ ?_
 refine yH (zZ (en:=eMapping) (l:=a0) (i:=v7) (v:=t16) (off:=0) (lq rfl) O3 rfl ht16 rfl) ?_
 refine q0 ?_
 refine q39 ?_
 have ⟨b21,hb21,p1⟩:=bE p1
 refine yH ((zC (lq rfl) rfl).bool (oi hb21)) ?_
 refine q13 (.d (db a2)) ?_
 have ⟨b23,hb23,p1⟩:=bE p1
 refine sqt (.d (db b23)) rfl (fun hb=>by subst hb;exact (zC (lq rfl) rfl).bool (oi hb23)) ?_
 refine jR (x:= .d (zW eMapping a0)) rfl rfl rfl (lq rfl) (lq rfl) rfl (fun hb=>by obtain ⟨hb,hb1⟩:=zI hb;obtain rfl:b21=true:=hb;obtain rfl:=gF hb1;exact zC (lq rfl) rfl) ?_
 refine jR (x:= .d (di v7)) rfl rfl rfl (lq rfl) (lq rfl) rfl (fun hb=>by obtain ⟨hb,hb1⟩:=zI hb;obtain rfl:b21=true:=hb;obtain rfl:=gF hb1;exact zC (lq rfl) rfl) ?_
 have ⟨t26,ht26,p1⟩:=bE p1
 refine jR (x:= .ip (eMapping.all a0) (v7.toNat*eMapping.size)) rfl rfl rfl (lq rfl) (lq rfl) rfl (fun hb=>by obtain ⟨hb,hb1⟩:=zI hb;obtain rfl:b21=true:=hb;obtain rfl:=gF hb1;exact kM (en:=eMapping) (lq rfl) S23 rfl rfl ht26) ?_
 refine jR (x:= .ip (eMapping.all a0) (v7.toNat*eMapping.size+2)) rfl rfl rfl (lq rfl) (lq rfl) rfl (fun hb=>by obtain ⟨hb,hb1⟩:=zI hb;obtain rfl:b21=true:=hb;obtain rfl:=gF hb1;exact j9 (lq rfl) zAX rfl) ?_
 refine jR (x:= .d (ds t26.Tag)) rfl rfl rfl (lq rfl) (lq rfl) rfl (fun hb=>by obtain ⟨hb,hb1⟩:=zI hb;obtain rfl:b21=true:=hb;obtain rfl:=gF hb1;exact zZ (en:=eMapping) (l:=a0) (i:=v7) (v:=t26) (off:=2) (lq rfl) O9 rfl ht26 rfl) ?_
 refine jR (x:= .d (db (t26.Tag== []))) rfl rfl rfl (lq rfl) (lq rfl) rfl (fun hb=>by obtain ⟨hb,hb1⟩:=zI hb;obtain rfl:b21=true:=hb;obtain rfl:=gF hb1;exact zL0 (a:=t26.Tag) (b:=[]) (lq rfl) rfl rfl) ?_
 refine z8F (.d (db (b23 ||(t26.Tag== [])))) ?_
 refine Q36 ?_
 refine yB p1 (fun p1=>?_) (fun p1=>?_)
 refine Q35 ?_
 refine zB ?_
 cases p1
 intro q;cases q
 exact ⟨rfl,wc⟩
 refine Q28 ?_
 cases p1
 exact wc
 refine zG ?_
 cases p1
 intro q;cases q
 exact ⟨rfl,wc⟩
 rintro y1 rfl
 replace h:=eL h
 refine Q3 ?_
 cases h
 refine zB ?_
 exact zH rfl
 rintro y1 rfl
 replace h:=eR h
 cases h
 exact zH rfl
theorem zLD {a0 r} (h:zDI a0=some r):zF Tryz.prog 68 [(di a0)] [(di r)]:=by
 refine co Tryz.func68 ?_;intro _ _ _ _
 unfold zDI at h
 refine Q47 ?_
 refine q44 ?_
 have ⟨b5,hb5,h⟩:=bE h
 refine yH ((zC (lq rfl) rfl).bool (oi hb5)) ?_
 refine q13 (.d (di a0)) ?_
 refine q55 (.d (db (decide (a0≤4370)))) ?_
 refine Q36 ?_
 refine yB h (fun h=>?_) (fun h=>?_)
 refine Q3 ?_
 cases h
 refine zB ?_
 exact zH rfl
 refine Q95 ?_
 refine q44 ?_
 have ⟨b11,hb11,h⟩:=bE h
 refine yH ((zC (lq rfl) rfl).bool (oi hb11)) ?_
 refine q13 (.d (di a0)) ?_
 refine q55 (.d (db (decide (a0≤4469)))) ?_
 refine Q36 ?_
 refine yB h (fun h=>?_) (fun h=>?_)
 refine Q3 ?_
 cases h
 refine zB ?_
 exact zH rfl
 refine Q95 ?_
 refine q44 ?_
 have ⟨b17,hb17,h⟩:=bE h
 refine yH ((zC (lq rfl) rfl).bool (oi hb17)) ?_
 refine q13 (.d (di a0)) ?_
 refine q55 (.d (db (decide (a0≤4546)))) ?_
 refine Q36 ?_
 refine yB h (fun h=>?_) (fun h=>?_)
 refine Q3 ?_
 cases h
 refine zB ?_
 exact zH rfl
 refine Q95 ?_
 refine q44 ?_
 have ⟨b23,hb23,h⟩:=bE h
 refine yH ((zC (lq rfl) rfl).bool (oi hb23)) ?_
 refine q13 (.d (di a0)) ?_
 refine q55 (.d (db (decide (a0≤55203)))) ?_
 refine Q36 ?_
 refine yB h (fun h=>?_) (fun h=>?_)
 refine Q4 ?_
 refine q31 ?_
 have ⟨t29,ht29,h⟩:=bE h
 refine q91 ht29 ?_
 refine Q87 ?_
 refine yB h (fun h=>?_) (fun h=>?_)
 refine Q3 ?_
 cases h
 refine zB ?_
 exact zH rfl
 refine Q58 ?_
 cases h
 refine zB ?_
 exact zH rfl
 refine Q58 ?_
 cases h
 refine zB ?_
 exact zH rfl
theorem zJQ {a0 a1 r} (h:zCO a0 a1=some r):zF Tryz.prog 29 [(zW eSpan a0),(di a1)] [(di r)]:=by
 refine co Tryz.func29 ?_;intro _ _ _ _
 unfold zCO at h
 refine Q47 ?_
 have ⟨t7,ht7,h⟩:=bE h
 refine q8 (zJP ht7) ?_
 refine Q33 ?_
 refine yB h (fun h=>?_) (fun h=>?_)
 refine Q3 ?_
 cases h
 refine zB ?_
 exact zH rfl
 refine Q93 ?_
 have ⟨y1,hy1,h⟩:=bE h
 refine zK y1 (.exit 0) (fun y1=>⟨[],[]⟩) .ret (fun y1=>⟨[(4,.d (di y1))],[]⟩) ?_ ?_ ?_
 refine zD (fun x=>⟨[(0,.d (zW eSpan a0)),(1,.d (di a1)),(5,.d (di x))],[]⟩) hy1 (wc) ?_
 rintro v5 sy1 p1
 replace p1:xJ a0 a1 v5=some sy1:=p1
 unfold xJ at p1
 refine Q12 ?_
 refine q4 S22 ?_
 refine Q6 ?_
 refine yB p1 (fun p1=>?_) (fun p1=>?_)
 refine Q69 ?_
 have ⟨t17,ht17,p1⟩:=bE p1
 refine q11 S22 ht17 ?_
 refine q46 zGU ?_
 refine yH (zZ (en:=eSpan) (l:=a0) (i:=v5) (v:=t17) (off:=0) (lq rfl) O3 rfl ht17 rfl) ?_
 refine q0 ?_
 refine q70 ?_
 have ⟨b22,hb22,p1⟩:=bE p1
 refine yH ((zC (lq rfl) rfl).bool (oi hb22)) ?_
 refine q13 (.d (di a1)) ?_
 refine q13 (.d (zW eSpan a0)) ?_
 refine q13 (.d (di v5)) ?_
 have ⟨t26,ht26,p1⟩:=bE p1
 refine sqt (.ip (eSpan.all a0) (v5.toNat*eSpan.size)) rfl (fun hb=>by subst hb;exact kM (en:=eSpan) (lq rfl) S22 rfl rfl ht26) ?_
 refine z1U (.ip (eSpan.all a0) (v5.toNat*eSpan.size+1)) zGV ?_
 refine sqt (.d (di t26.Hi)) rfl (fun hb=>by subst hb;exact zZ (en:=eSpan) (l:=a0) (i:=v5) (v:=t26) (off:=1) (lq rfl) O3 rfl ht26 rfl) ?_
 refine q55 (.d (db (decide (a1≤t26.Hi)))) ?_
 refine Q36 ?_
 refine yB p1 (fun p1=>?_) (fun p1=>?_)
 refine Q15 ?_
 have ⟨t33,ht33,p1⟩:=bE p1
 refine q11 S22 ht33 ?_
 refine q46 zHP ?_
 refine yH (zZ (en:=eSpan) (l:=a0) (i:=v5) (v:=t33) (off:=2) (lq rfl) O3 rfl ht33 rfl) ?_
 refine Q1 ?_
 refine zB ?_
 cases p1
 intro q;cases q
 exact ⟨rfl,wc⟩
 refine Q28 ?_
 cases p1
 exact wc
 refine zG ?_
 cases p1
 intro q;cases q
 exact ⟨rfl,wc⟩
 rintro y1 rfl
 replace h:=eL h
 refine Q3 ?_
 cases h
 refine zB ?_
 exact zH rfl
 rintro y1 rfl
 replace h:=eR h
 cases h
 exact zH rfl
theorem zSS {a0 r} (h:zFN a0=some r):zF Tryz.prog 69 [(zW eMapping a0)] [(zW eB r)]:=by
 refine co Tryz.func69 ?_;intro _ _ _ _
 unfold zFN at h
 refine Q59 ?_
 refine q4 S23 ?_
 have ⟨r11,hr11,h⟩:=bE h
 refine kP rfl (z30 (en:=eB) (lq rfl) z76 rfl rfl hr11 (by decide) rfl) ?_
 refine Q13 ?_
 refine Q32 ?_
 have ⟨y1,hy1,h⟩:=bE h
 refine tl (.exit 0) ⟨[(3,.row 11)],[(11,.row 4 eB.size false (eB.all y1))]⟩ ?_ ?_
 refine zD (fun x=>⟨[(0,.d (zW eMapping a0)),(3,.row 11),(4,.d (di x.1))],[(11,.row 4 eB.size false (eB.all x.2))]⟩) hy1 (wc) ?_
 rintro ⟨v4,r11⟩ sy1 p1
 replace p1:uW a0 v4 r11=some sy1:=p1
 unfold uW at p1
 refine Q60 ?_
 refine yB p1 (fun p1=>?_) (fun p1=>?_)
 refine Q8 ?_
 refine Q14 ?_
 have ⟨y2,hy2,p1⟩:=bE p1
 refine tl (.exit 2) ⟨[(0,.d (zW eMapping a0)),(3,.row 11),(4,.d (di v4))],[(11,.row 4 eB.size false (eB.all y2))]⟩ ?_ ?_
 refine zD (fun x=>⟨[(0,.d (zW eMapping a0)),(3,.row 11),(4,.d (di v4)),(5,.d (di x.1))],[(11,.row 4 eB.size false (eB.all x.2))]⟩) hy2 (wc) ?_
 rintro ⟨v5,r11⟩ sy2 p2
 replace p2:uV a0 v5 r11=some sy2:=p2
 unfold uV at p2
 refine Q60 ?_
 refine yB p2 (fun p2=>?_) (fun p2=>?_)
 refine Q8 ?_
 refine Q74 ?_
 have ⟨y3,hy3,p2⟩:=bE p2
 refine tl (.exit 4) ⟨[(0,.d (zW eMapping a0)),(3,.row 11),(4,.d (di v4)),(5,.d (di v5)),(6,.d (db y3))],[(11,.row 4 eB.size false (eB.all r11))]⟩ ?_ ?_
 refine zD (fun x=>⟨[(0,.d (zW eMapping a0)),(3,.row 11),(4,.d (di v4)),(5,.d (di v5)),(6,.d (db x.1)),(7,.d (di x.2))],[(11,.row 4 eB.size false (eB.all r11))]⟩) hy3 (wc) ?_
 rintro ⟨v6,v7⟩ sy3 p3
 replace p3:wI a0 v5 r11 v6 v7=some sy3:=p3
 unfold wI at p3
 refine Q12 ?_
 refine q0 ?_
 have ⟨t27,ht27,p3⟩:=bE p3
 refine q11 S23 ht27 ?_
 refine q46 zBZ ?_
 refine q84 O33 ht27 ?_
 refine Q83 ?_
 refine yB p3 (fun p3=>?_) (fun p3=>?_)
 refine Q69 ?_
 refine q0 ?_
 have ⟨t37,ht37,p3⟩:=bE p3
 refine q11 S23 ht37 ?_
 refine q46 zBZ ?_
 refine q84 O33 ht37 ?_
 refine q0 ?_
 have ⟨t41,ht41,p3⟩:=bE p3
 refine q11 yU ht41 ?_
 refine q35 O3 ht41 ?_
 have ⟨t43,ht43,p3⟩:=bE p3
 refine q8 (zHJ ht43) ?_
 refine Q1 ?_
 refine Q7 ?_
 have ⟨b45,hb45,p3⟩:=bE p3
 refine yH ((zC (lq rfl) rfl).bool (oi hb45)) ?_
 refine q13 (.d (di t43)) ?_
 refine q73 (.d (db (decide (t43 < 0)))) ?_
 have ⟨b48,hb48,p3⟩:=bE p3
 refine sqt (.d (db b48)) rfl (fun hb=>by subst hb;exact (zC (lq rfl) rfl).bool (oi hb48)) ?_
 refine jR (x:= .row 11) rfl rfl rfl (lq rfl) (lq rfl) rfl (fun hb=>by obtain ⟨hb,hb1⟩:=zI hb;obtain rfl:b45=true:=hb;obtain rfl:=gF hb1;exact zG6 (lq rfl) rfl) ?_
 refine jR (x:= .d (di t43)) rfl rfl rfl (lq rfl) (lq rfl) rfl (fun hb=>by obtain ⟨hb,hb1⟩:=zI hb;obtain rfl:b45=true:=hb;obtain rfl:=gF hb1;exact zC (lq rfl) rfl) ?_
 have ⟨t51,ht51,p3⟩:=bE p3
 refine jR (x:= .ptr 11 (t43.toNat*eB.size)) rfl rfl rfl (lq rfl) (lq rfl) rfl (fun hb=>by obtain ⟨hb,hb1⟩:=zI hb;obtain rfl:b45=true:=hb;obtain rfl:=gF hb1;exact zCV (en:=eB) (l:=r11) (lq rfl) z76 rfl rfl rfl ht51) ?_
 refine jR (x:= .d (db t51)) rfl rfl rfl (lq rfl) (lq rfl) rfl (fun hb=>by obtain ⟨hb,hb1⟩:=zI hb;obtain rfl:b45=true:=hb;obtain rfl:=gF hb1;exact zKO (en:=eB) (l:=r11) (i:=t43) (v:=t51) (off:=0) (lq rfl) O4 rfl rfl ht51 rfl) ?_
 refine z8F (.d (db (b48 ||t51))) ?_
 refine Q41 ?_
 refine Q11 ?_
 cases p3
 exact wc
 refine zG ?_
 cases p3
 intro q;cases q
 exact zN (wc)
 refine Q63 ?_
 have ⟨t58,ht58,p2⟩:=bE p2
 refine q80 z76 ht58 ?_
 have ⟨r11_4,hr11_4,p2⟩:=bE p2
 refine kP rfl (zKT (en:=eB) (l:=r11) (i:=v5) (v:=t58) (off:=0) O4 rfl rfl rfl ht58 rfl (by decide) hr11_4 rfl rfl) ?_
 refine zL<|Q11 ?_
 cases p2
 exact wc
 refine zG ?_
 cases p2
 intro q;cases q
 exact zN (wc)
 refine Q11 ?_
 cases p1
 exact wc
 refine zG ?_
 cases p1
 intro q;cases q
 exact zN (wc)
 refine Q61 ?_
 cases h
 refine zB ?_
 exact zH rfl
theorem zLE {a0 r} (h:zA4 a0=some r):zF Tryz.prog 104 [(di a0)] [(zW eI r)]:=by
 refine co Tryz.func104 ?_;intro _ _ _ _
 unfold zA4 at h
 refine Q47 ?_
 have ⟨t6,ht6,h⟩:=bE h
 refine q8 (zLD ht6) ?_
 refine Q6 ?_
 refine yB h (fun h=>?_) (fun h=>?_)
 refine Q2 ?_
 refine q85 yU ?_
 refine Q13 ?_
 cases h
 refine zB ?_
 exact zH rfl
 refine zP<|Q2 ?_
 refine q31 ?_
 refine Q19 ?_
 have ⟨t13,ht13,h⟩:=bE h
 refine z1K ht13 ?_
 have ⟨t14,ht14,h⟩:=bE h
 refine z1K ht14 ?_
 refine q2 ?_
 refine q0 ?_
 have ⟨t17,ht17,h⟩:=bE h
 refine z1K ht17 ?_
 have ⟨t18,ht18,h⟩:=bE h
 refine q91 ht18 ?_
 refine q2 ?_
 refine q85 yU ?_
 refine Q13 ?_
 refine Q4 ?_
 have ⟨t22,ht22,h⟩:=bE h
 refine q91 ht22 ?_
 refine Q54 ?_
 have ⟨y1,hy1,h⟩:=bE h
 refine tl .normal ⟨[(4,.row 20)],[(20,.row 3 eI.size false (eI.all y1))]⟩ ?_ ?_
 refine yB hy1 (fun hy1=>?_) (fun hy1=>?_)
 refine z5D ?_
 have ⟨t26,ht26,hy1⟩:=bE hy1
 refine q91 ht26 ?_
 refine q2 ?_
 refine q31 ?_
 refine q24 yU ?_
 have ⟨r20_2,hr20_2,hy1⟩:=bE hy1
 refine kP rfl (jU (en:=eI) (l:=[wi (4352+t14),wi (4449+t18)]) (m:=[wi ((wi (4520+t26)) - 1)]) (lq rfl) yU rfl rfl rfl hr20_2 (by decide) (by decide) rfl rfl) ?_
 refine Q13 ?_
 cases hy1
 exact zN (wc)
 refine zP ?_
 cases hy1
 exact zN (wc)
 refine Q61 ?_
 cases h
 refine zB ?_
 exact zH rfl
theorem zHU {a0 a1 r} (h:zBC a0 a1=some r):zF Tryz.prog 70 [(zW eMapping a0),(db a1)] [(zW eI r)]:=by
 refine co Tryz.func70 ?_;intro _ _ _ _
 unfold zBC at h
 refine Q59 ?_
 refine q4 S23 ?_
 have ⟨r13,hr13,h⟩:=bE h
 refine kP rfl (z30 (en:=eI) (lq rfl) yU rfl rfl hr13 (by decide) rfl) ?_
 refine Q13 ?_
 refine Q32 ?_
 have ⟨y1,hy1,h⟩:=bE h
 refine tl (.exit 0) ⟨[(5,.row 13)],[(13,.row 3 eI.size false (eI.all y1))]⟩ ?_ ?_
 refine zD (fun x=>⟨[(0,.d (zW eMapping a0)),(1,.d (db a1)),(5,.row 13),(6,.d (di x.1))],[(13,.row 3 eI.size false (eI.all x.2))]⟩) hy1 (wc) ?_
 rintro ⟨v6,r13⟩ sy1 p1
 replace p1:wF a0 a1 v6 r13=some sy1:=p1
 unfold wF at p1
 refine Q60 ?_
 refine yB p1 (fun p1=>?_) (fun p1=>?_)
 refine Q8 ?_
 refine Q14 ?_
 have ⟨y2,hy2,p1⟩:=bE p1
 refine tl (.exit 2) ⟨[(0,.d (zW eMapping a0)),(1,.d (db a1)),(5,.row 13),(6,.d (di v6))],[(13,.row 3 eI.size false (eI.all y2))]⟩ ?_ ?_
 refine zD (fun x=>⟨[(0,.d (zW eMapping a0)),(1,.d (db a1)),(5,.row 13),(6,.d (di v6)),(7,.d (di x.1))],[(13,.row 3 eI.size false (eI.all x.2))]⟩) hy2 (wc) ?_
 rintro ⟨v7,r13⟩ sy2 p2
 replace p2:wE a0 a1 v7 r13=some sy2:=p2
 unfold wE at p2
 refine Q60 ?_
 refine yB p2 (fun p2=>?_) (fun p2=>?_)
 refine Q5 ?_
 have ⟨y3,hy3,p2⟩:=bE p2
 refine tl .normal ⟨[(0,.d (zW eMapping a0)),(1,.d (db a1)),(5,.row 13),(6,.d (di v6)),(7,.d (di v7))],[(13,.row 3 eI.size false (eI.all y3))]⟩ ?_ ?_
 refine kT<|Q74 ?_
 have ⟨y4,hy4,hy3⟩:=bE hy3
 refine tl (.exit 4) ⟨[(0,.d (zW eMapping a0)),(1,.d (db a1)),(5,.row 13),(6,.d (di v6)),(7,.d (di v7)),(8,.d (di y4))],[(13,.row 3 eI.size false (eI.all r13))]⟩ ?_ ?_
 refine zD (fun x=>⟨[(0,.d (zW eMapping a0)),(1,.d (db a1)),(5,.row 13),(6,.d (di v6)),(7,.d (di v7)),(8,.d (di x.1)),(9,.d (di x.2))],[(13,.row 3 eI.size false (eI.all r13))]⟩) hy4 (wc) ?_
 rintro ⟨v8,v9⟩ sy4 p4
 replace p4:jS a0 v7 a1 r13 v8 v9=some sy4:=p4
 unfold jS at p4
 refine Q12 ?_
 refine q0 ?_
 have ⟨t29,ht29,p4⟩:=bE p4
 refine q11 S23 ht29 ?_
 refine q46 zBZ ?_
 refine q84 O33 ht29 ?_
 refine Q83 ?_
 refine yB p4 (fun p4=>?_) (fun p4=>?_)
 refine Q5 ?_
 have ⟨y5,hy5,p4⟩:=bE p4
 refine tl .normal ⟨[(0,.d (zW eMapping a0)),(1,.d (db a1)),(5,.row 13),(6,.d (di v6)),(7,.d (di v7)),(8,.d (di y5)),(9,.d (di v9))],[(13,.row 3 eI.size false (eI.all r13))]⟩ ?_ ?_
 refine Q75 ?_
 refine q0 ?_
 have ⟨t39,ht39,hy5⟩:=bE hy5
 refine q11 S23 ht39 ?_
 refine q46 zBZ ?_
 refine q84 O33 ht39 ?_
 refine q0 ?_
 have ⟨t43,ht43,hy5⟩:=bE hy5
 refine q11 yU ht43 ?_
 refine q35 O3 ht43 ?_
 refine q0 ?_
 have ⟨t46,ht46,hy5⟩:=bE hy5
 refine q8 (zHJ ht46) ?_
 refine Q19 ?_
 refine Q99 ?_
 refine yB hy5 (fun hy5=>?_) (fun hy5=>?_)
 refine Q7 ?_
 refine Q18 ?_
 have ⟨t52,ht52,hy5⟩:=bE hy5
 refine q80 yU ht52 ?_
 refine yH (zKO (en:=eI) (l:=r13) (i:=t46) (v:=t52) (off:=0) (lq rfl) O3 rfl rfl ht52 rfl) ?_
 refine Q9 ?_
 cases hy5
 exact zN (wc)
 refine Q66 ?_
 refine q0 ?_
 have ⟨t58,ht58,hy5⟩:=bE hy5
 refine q11 S23 ht58 ?_
 refine q46 zBZ ?_
 refine q84 O33 ht58 ?_
 refine q0 ?_
 have ⟨t62,ht62,hy5⟩:=bE hy5
 refine q11 yU ht62 ?_
 refine q35 O3 ht62 ?_
 have ⟨t64,ht64,hy5⟩:=bE hy5
 refine q8 (zLE ht64) ?_
 refine q4 yU ?_
 refine Q9 ?_
 cases hy5
 exact zN (wc)
 refine Q11 ?_
 cases p4
 exact wc
 refine zG ?_
 cases p4
 intro q;cases q
 exact zN (wc)
 refine Q86 ?_
 refine yB4 ?_
 refine z4Z ?_
 have ⟨t72,ht72,hy3⟩:=bE hy3
 refine q80 yU ht72 ?_
 have ⟨r13_6,hr13_6,hy3⟩:=bE hy3
 refine kP rfl (zKT (en:=eI) (l:=r13) (i:=v7) (v:=t72) (off:=0) O3 rfl rfl rfl ht72 rfl (by decide) hr13_6 rfl rfl) ?_
 refine zL<|Q15 ?_
 have ⟨t75,ht75,hy3⟩:=bE hy3
 refine q11 S23 ht75 ?_
 refine q46 zAX ?_
 refine yH (zZ (en:=eMapping) (l:=a0) (i:=v7) (v:=t75) (off:=2) (lq rfl) O9 rfl ht75 rfl) ?_
 refine z1M ?_
 have ⟨b79,hb79,hy3⟩:=bE hy3
 refine yH ((zC (lq rfl) rfl).bool (oi hb79)) ?_
 refine q13 (.d (db a1)) ?_
 refine z1I (.d (db (!a1))) ?_
 refine Q36 ?_
 refine yB hy3 (fun hy3=>?_) (fun hy3=>?_)
 refine z5D ?_
 have ⟨t85,ht85,hy3⟩:=bE hy3
 refine q80 yU ht85 ?_
 have ⟨r13_7,hr13_7,hy3⟩:=bE hy3
 refine kP rfl (zKT (en:=eI) (l:=r13_6) (i:=v7) (v:=t85) (off:=0) O3 rfl rfl rfl ht85 rfl (by decide) hr13_7 rfl rfl) ?_
 refine zL ?_
 cases hy3
 exact zN (wc)
 refine zP ?_
 cases hy3
 exact zN (wc)
 refine Q11 ?_
 cases p2
 exact wc
 refine zG ?_
 cases p2
 intro q;cases q
 exact zN (wc)
 refine Q11 ?_
 cases p1
 exact wc
 refine zG ?_
 cases p1
 intro q;cases q
 exact zN (wc)
 refine Q61 ?_
 cases h
 refine zB ?_
 exact zH rfl
theorem zQI {a0 r} (h:zEC a0=some r):zF Tryz.prog 30 [(eNorm.dv a0)] [(di r)]:=by
 refine co Tryz.func30 ?_;intro _ _ _ _
 unfold zEC at h
 refine Q40 ?_
 refine Q53 ?_
 refine q5 zMX ?_
 refine q6 O22 ?_
 have ⟨t16,ht16,h⟩:=bE h
 refine q8 (zJP ht16) ?_
 refine Q62 ?_
 refine yB h (fun h=>?_) (fun h=>?_)
 refine Q35 ?_
 cases h
 refine zB ?_
 exact zH rfl
 refine Q71 ?_
 refine Q89 ?_
 have ⟨t22,ht22,h⟩:=bE h
 refine q8 (zQF ht22) ?_
 refine Q62 ?_
 refine yB h (fun h=>?_) (fun h=>?_)
 refine Q35 ?_
 cases h
 refine zB ?_
 exact zH rfl
 refine Q71 ?_
 refine q5 z4O ?_
 refine q96 G26 ?_
 have ⟨t28,ht28,h⟩:=bE h
 refine q8 (zQH ht28) ?_
 refine Q42 ?_
 refine yB h (fun h=>?_) (fun h=>?_)
 refine Q3 ?_
 cases h
 refine zB ?_
 exact zH rfl
 refine Q50 ?_
 refine Q89 ?_
 refine Q96 ?_
 have ⟨y1,hy1,h⟩:=bE h
 refine zK y1 (.exit 0) (fun y1=>⟨[(1,.d (.pt (eNorm.cells a0))),(5,.d (zW eMapping a0.Decomp))],[]⟩) .ret (fun y1=>⟨[(2,.d (di y1))],[]⟩) ?_ ?_ ?_
 refine zD (fun x=>⟨[(1,.d (.pt (eNorm.cells a0))),(5,.d (zW eMapping a0.Decomp)),(6,.d (di x))],[]⟩) hy1 (wc) ?_
 rintro v6 sy1 p1
 replace p1:zAM a0 v6=some sy1:=p1
 unfold zAM at p1
 refine Q60 ?_
 refine yB p1 (fun p1=>?_) (fun p1=>?_)
 refine Q69 ?_
 refine q0 ?_
 have ⟨t41,ht41,p1⟩:=bE p1
 refine q11 S23 ht41 ?_
 refine q46 zDJ ?_
 refine yH (zZ (en:=eMapping) (l:=a0.Decomp) (i:=v6) (v:=t41) (off:=0) (lq rfl) O3 rfl ht41 rfl) ?_
 have ⟨t44,ht44,p1⟩:=bE p1
 refine q8 (zHJ ht44) ?_
 refine q0 ?_
 refine Q6 ?_
 refine yB p1 (fun p1=>?_) (fun p1=>?_)
 refine Q17 ?_
 cases p1
 intro q;cases q
 exact ⟨rfl,wc⟩
 refine Q28 ?_
 cases p1
 exact wc
 refine zG ?_
 cases p1
 intro q;cases q
 exact ⟨rfl,wc⟩
 rintro y1 rfl
 replace h:=eL h
 refine Q32 ?_
 have ⟨y2,hy2,h⟩:=bE h
 refine zK y2 (.exit 2) (fun y2=>⟨[(1,.d (.pt (eNorm.cells a0))),(5,.d (zW eMapping a0.Decomp))],[]⟩) .ret (fun y2=>⟨[(2,.d (di y2))],[]⟩) ?_ ?_ ?_
 refine zD (fun x=>⟨[(1,.d (.pt (eNorm.cells a0))),(5,.d (zW eMapping a0.Decomp)),(7,.d (di x))],[]⟩) hy2 (wc) ?_
 rintro v7 sy2 p2
 replace p2:zAN a0 v7=some sy2:=p2
 unfold zAN at p2
 refine Q60 ?_
 refine yB p2 (fun p2=>?_) (fun p2=>?_)
 refine Q69 ?_
 have ⟨t55,ht55,p2⟩:=bE p2
 refine q11 S23 ht55 ?_
 refine q46 zAX ?_
 refine yH (zZ (en:=eMapping) (l:=a0.Decomp) (i:=v7) (v:=t55) (off:=2) (lq rfl) O9 rfl ht55 rfl) ?_
 refine yH (zL0 (a:=t55.Tag) (b:=[]) (lq rfl) rfl rfl) ?_
 have ⟨b59,hb59,p2⟩:=bE p2
 refine yH ((zC (lq rfl) rfl).bool (oi hb59)) ?_
 refine q13 (.d (zW eMapping a0.Decomp)) ?_
 refine q13 (.d (di v7)) ?_
 have ⟨t62,ht62,p2⟩:=bE p2
 refine sqt (.ip (eMapping.all a0.Decomp) (v7.toNat*eMapping.size)) rfl (fun hb=>by subst hb;exact kM (en:=eMapping) (lq rfl) S23 rfl rfl ht62) ?_
 refine z1U (.ip (eMapping.all a0.Decomp) (v7.toNat*eMapping.size+1)) zBZ ?_
 refine sqt (.d (zW eI t62.To)) rfl (fun hb=>by subst hb;exact zZ (en:=eMapping) (l:=a0.Decomp) (i:=v7) (v:=t62) (off:=1) (lq rfl) O33 rfl ht62 rfl) ?_
 refine z1L (.d (di (t62.To.length:Int))) yU ?_
 refine z43 (.d (db (!decide ((t62.To.length:Int)=1)))) ?_
 refine q14 ?_
 have ⟨b68,hb68,p2⟩:=bE p2
 refine yH ((zC (lq rfl) rfl).bool (oi hb68)) ?_
 refine q13 (.d (zW eMapping a0.Decomp)) ?_
 refine q13 (.d (di v7)) ?_
 have ⟨t71,ht71,p2⟩:=bE p2
 refine sqt (.ip (eMapping.all a0.Decomp) (v7.toNat*eMapping.size)) rfl (fun hb=>by subst hb;exact kM (en:=eMapping) (lq rfl) S23 rfl rfl ht71) ?_
 refine z1U (.ip (eMapping.all a0.Decomp) (v7.toNat*eMapping.size+1)) zBZ ?_
 refine sqt (.d (zW eI t71.To)) rfl (fun hb=>by subst hb;exact zZ (en:=eMapping) (l:=a0.Decomp) (i:=v7) (v:=t71) (off:=1) (lq rfl) O33 rfl ht71 rfl) ?_
 refine z1L (.d (di (t71.To.length:Int))) yU ?_
 refine z43 (.d (db (!decide ((t71.To.length:Int)=2)))) ?_
 refine Q36 ?_
 refine yB p2 (fun p2=>?_) (fun p2=>?_)
 refine Q17 ?_
 cases p2
 intro q;cases q
 exact ⟨rfl,wc⟩
 refine Q28 ?_
 cases p2
 exact wc
 refine zG ?_
 cases p2
 intro q;cases q
 exact ⟨rfl,wc⟩
 rintro y2 rfl
 replace h:=eL h
 refine Q32 ?_
 have ⟨y3,hy3,h⟩:=bE h
 refine zK y3 (.exit 4) (fun y3=>⟨[(5,.d (zW eMapping a0.Decomp))],[]⟩) .ret (fun y3=>⟨[(2,.d (di y3))],[]⟩) ?_ ?_ ?_
 refine zD (fun x=>⟨[(1,.d (.pt (eNorm.cells a0))),(5,.d (zW eMapping a0.Decomp)),(8,.d (di x))],[]⟩) hy3 (wc) ?_
 rintro v8 sy3 p3
 replace p3:zAO a0 v8=some sy3:=p3
 unfold zAO at p3
 refine Q60 ?_
 refine yB p3 (fun p3=>?_) (fun p3=>?_)
 refine Q65 ?_
 refine z7 MX rfl ?_
 refine Q27 ?_
 have ⟨t85,ht85,p3⟩:=bE p3
 refine q23 S23 ht85 ?_
 refine q52 zDJ ?_
 refine z45 O3 ht85 ?_
 have ⟨t88,ht88,p3⟩:=bE p3
 refine q22 (zLD ht88) ?_
 refine vB (zMQ (lq rfl) rfl rfl) ?_
 have ⟨b90,hb90,p3⟩:=bE p3
 refine vB ((zC (lq rfl) rfl).bool (oi hb90)) ?_
 refine q50 (.d (zW eMapping a0.Decomp)) ?_
 refine q50 (.d (di v8)) ?_
 have ⟨t93,ht93,p3⟩:=bE p3
 refine daf (.ip (eMapping.all a0.Decomp) (v8.toNat*eMapping.size)) rfl (fun hb=>by subst hb;exact kM (en:=eMapping) (lq rfl) S23 rfl rfl ht93) ?_
 refine q82 (.ip (eMapping.all a0.Decomp) (v8.toNat*eMapping.size+2)) zAX ?_
 refine daf (.d (ds t93.Tag)) rfl (fun hb=>by subst hb;exact zZ (en:=eMapping) (l:=a0.Decomp) (i:=v8) (v:=t93) (off:=2) (lq rfl) O9 rfl ht93 rfl) ?_
 refine daf (.d (db (!(t93.Tag== [])))) rfl (fun hb=>by subst hb;exact zW5 (a:=t93.Tag) (b:=[]) (lq rfl) rfl rfl) ?_
 have ⟨b97,hb97,p3⟩:=bE p3
 refine daf (.d (db b97)) rfl (fun hb=>by subst hb;exact (zC (lq rfl) rfl).bool (oi hb97)) ?_
 refine zB0 (x:= .ip (eNorm.cells a0) (0+0)) rfl rfl rfl (lq rfl) (lq rfl) rfl (fun hb=>by obtain ⟨hb,hb1⟩:=zI hb;obtain rfl:=gF hb;obtain rfl:b97=true:=hb1;exact xM (lq rfl) zMX rfl) ?_
 refine zB0 (x:= .d (zW eSpan a0.Classes)) rfl rfl rfl (lq rfl) (lq rfl) rfl (fun hb=>by obtain ⟨hb,hb1⟩:=zI hb;obtain rfl:=gF hb;obtain rfl:b97=true:=hb1;exact kD (lq rfl) O22 rfl rfl) ?_
 refine zB0 (x:= .d (zW eMapping a0.Decomp)) rfl rfl rfl (lq rfl) (lq rfl) rfl (fun hb=>by obtain ⟨hb,hb1⟩:=zI hb;obtain rfl:=gF hb;obtain rfl:b97=true:=hb1;exact zC (lq rfl) rfl) ?_
 refine zB0 (x:= .d (di v8)) rfl rfl rfl (lq rfl) (lq rfl) rfl (fun hb=>by obtain ⟨hb,hb1⟩:=zI hb;obtain rfl:=gF hb;obtain rfl:b97=true:=hb1;exact zC (lq rfl) rfl) ?_
 have ⟨t102,ht102,p3⟩:=bE p3
 refine zB0 (x:= .ip (eMapping.all a0.Decomp) (v8.toNat*eMapping.size)) rfl rfl rfl (lq rfl) (lq rfl) rfl (fun hb=>by obtain ⟨hb,hb1⟩:=zI hb;obtain rfl:=gF hb;obtain rfl:b97=true:=hb1;exact kM (en:=eMapping) (lq rfl) S23 rfl rfl ht102) ?_
 refine zB0 (x:= .ip (eMapping.all a0.Decomp) (v8.toNat*eMapping.size+0)) rfl rfl rfl (lq rfl) (lq rfl) rfl (fun hb=>by obtain ⟨hb,hb1⟩:=zI hb;obtain rfl:=gF hb;obtain rfl:b97=true:=hb1;exact j9 (lq rfl) zDJ rfl) ?_
 refine zB0 (x:= .d (di t102.From)) rfl rfl rfl (lq rfl) (lq rfl) rfl (fun hb=>by obtain ⟨hb,hb1⟩:=zI hb;obtain rfl:=gF hb;obtain rfl:b97=true:=hb1;exact zZ (en:=eMapping) (l:=a0.Decomp) (i:=v8) (v:=t102) (off:=0) (lq rfl) O3 rfl ht102 rfl) ?_
 have ⟨t105,ht105,p3⟩:=bE p3
 refine zB0 (x:= .d (di t105)) rfl rfl rfl (lq rfl) (lq rfl) rfl (fun hb=>by obtain ⟨hb,hb1⟩:=zI hb;obtain rfl:=gF hb;obtain rfl:b97=true:=hb1;exact xV (lq rfl) rfl (zJQ ht105)) ?_
 refine zB0 (x:= .d (db (!decide (t105=0)))) rfl rfl rfl (lq rfl) (lq rfl) rfl (fun hb=>by obtain ⟨hb,hb1⟩:=zI hb;obtain rfl:=gF hb;obtain rfl:b97=true:=hb1;exact zMQ (lq rfl) rfl rfl) ?_
 refine daf (.d (db (b97&&(!decide (t105=0))))) rfl (fun hb=>by subst hb;exact zDB (lq rfl) rfl rfl) ?_
 refine q95 ?_
 refine xQ ?_
 refine yB p3 (fun p3=>?_) (fun p3=>?_)
 refine Q17 ?_
 cases p3
 intro q;cases q
 exact ⟨rfl,wc⟩
 refine Q28 ?_
 cases p3
 exact wc
 refine zG ?_
 cases p3
 intro q;cases q
 exact ⟨rfl,wc⟩
 rintro y3 rfl
 replace h:=eL h
 refine Q2 ?_
 have ⟨t110,ht110,h⟩:=bE h
 refine q8 (zSS ht110) ?_
 refine Q96 ?_
 have ⟨y4,hy4,h⟩:=bE h
 refine zK y4 (.exit 6) (fun y4=>⟨[(5,.d (zW eMapping a0.Decomp))],[]⟩) .ret (fun y4=>⟨[(2,.d (di y4))],[]⟩) ?_ ?_ ?_
 refine zD (fun x=>⟨[(5,.d (zW eMapping a0.Decomp)),(9,.d (zW eB t110)),(10,.d (di x))],[]⟩) hy4 (wc) ?_
 rintro v10 sy4 p4
 replace p4:zAP a0 t110 v10=some sy4:=p4
 unfold zAP at p4
 refine Q60 ?_
 refine yB p4 (fun p4=>?_) (fun p4=>?_)
 refine Q69 ?_
 have ⟨t119,ht119,p4⟩:=bE p4
 refine q11 z76 ht119 ?_
 refine yH (zZ (en:=eB) (l:=t110) (i:=v10) (v:=t119) (off:=0) (lq rfl) O4 rfl ht119 rfl) ?_
 refine Q42 ?_
 refine yB p4 (fun p4=>?_) (fun p4=>?_)
 refine Q17 ?_
 cases p4
 intro q;cases q
 exact ⟨rfl,wc⟩
 refine Q28 ?_
 cases p4
 exact wc
 refine zG ?_
 cases p4
 intro q;cases q
 exact ⟨rfl,wc⟩
 rintro y4 rfl
 replace h:=eL h
 refine Q2 ?_
 have ⟨t123,ht123,h⟩:=bE h
 refine q8 (zHU ht123) ?_
 refine q0 ?_
 have ⟨t125,ht125,h⟩:=bE h
 refine q8 (zHU ht125) ?_
 refine q1 ?_
 refine Q96 ?_
 have ⟨y5,hy5,h⟩:=bE h
 refine zK y5 (.exit 8) (fun y5=>⟨[],[]⟩) .ret (fun y5=>⟨[(2,.d (di y5))],[]⟩) ?_ ?_ ?_
 refine zD (fun x=>⟨[(5,.d (zW eMapping a0.Decomp)),(11,.d (zW eI t123)),(12,.d (zW eI t125)),(13,.d (di x))],[]⟩) hy5 (wc) ?_
 rintro v13 sy5 p5
 replace p5:zAQ a0 t123 t125 v13=some sy5:=p5
 unfold zAQ at p5
 refine Q60 ?_
 refine yB p5 (fun p5=>?_) (fun p5=>?_)
 refine Q69 ?_
 have ⟨t134,ht134,p5⟩:=bE p5
 refine q11 yU ht134 ?_
 refine q35 O3 ht134 ?_
 refine q37 ?_
 have ⟨b137,hb137,p5⟩:=bE p5
 refine yH ((zC (lq rfl) rfl).bool (oi hb137)) ?_
 refine q38 (.d (zW eI t125)) ?_
 refine q38 (.d (di v13)) ?_
 have ⟨t140,ht140,p5⟩:=bE p5
 refine sqf (.ip (eI.all t125) (v13.toNat*eI.size)) rfl (fun hb=>by subst hb;exact kM (en:=eI) (lq rfl) yU rfl rfl ht140) ?_
 refine sqf (.d (di t140)) rfl (fun hb=>by subst hb;exact zZ (en:=eI) (l:=t125) (i:=v13) (v:=t140) (off:=0) (lq rfl) O3 rfl ht140 rfl) ?_
 refine q43 (.d (db (decide (64 < t140)))) ?_
 refine Q37 ?_
 refine yB p5 (fun p5=>?_) (fun p5=>?_)
 refine Q17 ?_
 cases p5
 intro q;cases q
 exact ⟨rfl,wc⟩
 refine Q28 ?_
 cases p5
 exact wc
 refine zG ?_
 cases p5
 intro q;cases q
 exact ⟨rfl,wc⟩
 rintro y5 rfl
 replace h:=eL h
 refine Q3 ?_
 cases h
 refine zB ?_
 exact zH rfl
 rintro y5 rfl
 replace h:=eR h
 cases h
 exact zH rfl
 rintro y4 rfl
 replace h:=eR h
 cases h
 exact zH rfl
 rintro y3 rfl
 replace h:=eR h
 cases h
 exact zH rfl
 rintro y2 rfl
 replace h:=eR h
 cases h
 exact zH rfl
 rintro y1 rfl
 replace h:=eR h
 cases h
 exact zH rfl
theorem zST {a0 r} (h:zFO a0=some r):zF Tryz.prog 11 [(eNorm.dv a0)] [(eNorm.dv r)]:=by
 refine co Tryz.func11 ?_;intro _ _ _ _
 unfold zFO at h
 refine Q40 ?_
 refine yB5 ?_
 refine z15 ?_
 refine q21 G28 ?_
 have ⟨t4,ht4,h⟩:=bE h
 refine q8 (zQI ht4) ?_
 refine Q33 ?_
 refine yB h (fun h=>?_) (fun h=>?_)
 refine Q0 ?_
 refine yH ((zCW (lq rfl) B28 rfl rfl).nils (bs:=eNorm.cells ({Classes:=[],Decomp:=[],Excluded:=(({Ranges:=[]}):Set)}:Norm)) (nlN (nlN (nlN nl0)))) ?_
 refine q16 G28 ?_
 refine zL ?_
 cases h
 refine zB ?_
 exact vH rfl rfl G28 rfl
 refine Q50 ?_
 refine q21 G28 ?_
 refine q16 G28 ?_
 refine zL ?_
 cases h
 refine zB ?_
 exact vH rfl rfl G28 rfl
theorem zNF {a0 a1 r} (h:zCB a0 a1=some r):zF Tryz.prog 10 [(zW eSpan a0),(di a1)] [(db r)]:=by
 refine co Tryz.func10 ?_;intro _ _ _ _
 unfold zCB at h
 refine Q3 ?_
 refine Q15 ?_
 have ⟨t7,ht7,h⟩:=bE h
 refine q8 (zJQ ht7) ?_
 refine Q88 ?_
 cases h
 refine zB ?_
 exact zH rfl
theorem zLF {a0 a1 a2 r} (h:xP a0 a1 a2=some r):zF Tryz.prog 108 [(di a0),(di a1),(.pt [(zW eSpan a2)])] [(di r)]:=by
 refine co Tryz.func108 ?_;intro _ _ _ _
 unfold xP at h
 refine Q3 ?_
 refine kL ?_
 refine z7 MX rfl ?_
 refine z47 O22 ?_
 refine q7 ?_
 have ⟨t8,ht8,h⟩:=bE h
 refine q22 (zDK ht8) ?_
 refine z47 O22 ?_
 refine q7 ?_
 have ⟨t11,ht11,h⟩:=bE h
 refine q22 (zDK ht11) ?_
 have ⟨t12,ht12,h⟩:=bE h
 refine q22 (xL ht12) ?_
 refine Q51 ?_
 cases h
 refine zB ?_
 exact zH rfl
set_option maxHeartbeats 8000000 in
theorem uA {fv3:DV} {a0:(List Int)} {a1:Int} {a2:Int} {a3:Int→Int→Option (Int)} (hf3:∀x0 x1 y,a3 x0 x1=some y→FnC Tryz.prog fv3 [(di x0),(di x1)] [(di y)]) {r:(List Int)} (h:kK a0 a1 a2 a3=some r):GC Tryz.prog 142 [.row 3000,.d (di a1),.d (di a2),.d fv3] [(3000,.win 3 eI.size 0 (eI.all a0))] [3000] [] [(3000,.win 3 eI.size 0 (eI.all r))]:=by
 refine zCJ Tryz.func142 (by kernel_rfl) rfl (lq rfl) (lq rfl) fun w0 I0 hG0 p0=>?_
 unfold kK at h
 refine Q2 ?_
 refine Q9 ?_
 refine kT ?_
 have ⟨y1,hy1,h⟩:=bE h
 refine tl (.exit 0) ⟨[(0,.row 3000)],[(3000,.win 3 eI.size 0 (eI.all y1))]⟩ ?_ ?_
 refine zD (fun x=>⟨[(0,.row 3000),(1,.d (di a1)),(2,.d (di a2)),(3,.d fv3),(8,.d (di x.1))],[(3000,.win 3 eI.size 0 (eI.all x.2))]⟩) hy1 (wc) ?_
 rintro ⟨v8,r3000⟩ sy1 p1
 replace p1:zR a2 a1 a3 v8 r3000=some sy1:=p1
 unfold zR at p1
 refine Q72 ?_
 refine yB p1 (fun p1=>?_) (fun p1=>?_)
 refine Q8 ?_
 refine Q35 ?_
 refine kT ?_
 have ⟨y2,hy2,p1⟩:=bE p1
 refine tl (.exit 2) ⟨[(0,.row 3000),(1,.d (di a1)),(2,.d (di a2)),(3,.d fv3),(8,.d (di v8))],[(3000,.win 3 eI.size 0 (eI.all y2))]⟩ ?_ ?_
 refine zD (fun x=>⟨[(0,.row 3000),(1,.d (di a1)),(2,.d (di a2)),(3,.d fv3),(8,.d (di v8)),(9,.d (di x.1))],[(3000,.win 3 eI.size 0 (eI.all x.2))]⟩) hy2 (wc) ?_
 rintro ⟨v9,r3000⟩ sy2 p2
 replace p2:zU a1 a3 v9 r3000=some sy2:=p2
 unfold zU at p2
 refine kL<|kL ?_
 refine z7 MX rfl ?_
 refine Q27 ?_
 refine zXS ?_
 have ⟨b21,hb21,p2⟩:=bE p2
 refine vB ((zC (lq rfl) rfl).bool (oi hb21)) ?_
 refine q59 (.d fv3) ?_
 refine z44 (.row 3000) ?_
 refine q59 (.d (di v9)) ?_
 have ⟨t25,ht25,p2⟩:=bE p2
 refine dat (.wp 3000 (v9.toNat*eI.size)) rfl (fun hb=>by subst hb;exact zDY (en:=eI) (l:=r3000) (lq rfl) yU rfl rfl rfl ht25) ?_
 refine dat (.d (di t25)) rfl (fun hb=>by subst hb;exact zHG (en:=eI) (l:=r3000) (i:=v9) (v:=t25) (lq rfl) O3 rfl rfl ht25 rfl) ?_
 refine z44 (.row 3000) ?_
 refine q59 (.d (di v9)) ?_
 refine z1N (.d (di (wi (v9 - 1)))) ?_
 have ⟨t30,ht30,p2⟩:=bE p2
 refine dat (.wp 3000 ((wi (v9 - 1)).toNat*eI.size)) rfl (fun hb=>by subst hb;exact zDY (en:=eI) (l:=r3000) (lq rfl) yU rfl rfl rfl ht30) ?_
 refine dat (.d (di t30)) rfl (fun hb=>by subst hb;exact zHG (en:=eI) (l:=r3000) (i:=(wi (v9 - 1))) (v:=t30) (lq rfl) O3 rfl rfl ht30 rfl) ?_
 have ⟨t32,ht32,p2⟩:=bE p2
 refine dat (.d (di t32)) rfl (fun hb=>by subst hb;exact zDP (lq rfl) rfl rfl (hf3 _ _ _ ht32)) ?_
 refine dat (.d (db (decide (t32 < 0)))) rfl (fun hb=>by subst hb;exact zKJ (lq rfl) rfl rfl) ?_
 refine Q98 ?_
 refine yB p2 (fun p2=>?_) (fun p2=>?_)
 refine Q8 ?_
 have ⟨t45,ht45,p2⟩:=bE p2
 have ⟨t49,ht49,p2⟩:=bE p2
 have ⟨t51,ht51,p2⟩:=bE p2
 have ⟨r3000_6x15,hr3000_6x15,p2⟩:=bE p2
 have ⟨t52,ht52,p2⟩:=bE p2
 have ⟨r3000_6x17,hr3000_6x17,p2⟩:=bE p2
 refine tl .normal ⟨[(0,.row 3000),(1,.d (di a1)),(2,.d (di a2)),(3,.d fv3),(8,.d (di v8)),(9,.d (di v9))],[(3000,.win 3 eI.size 0 (eI.all r3000_6x17))]⟩ ?_ ?_
 refine zCX MX ?_
 refine z17 ?_
 refine xm 3 ?_
 refine zHH (i:=4) rfl (lq rfl) rfl rfl rfl rfl rfl rfl ?_
 refine xm 5 ?_
 refine xm 6 ?_
 refine zHH (i:=7) rfl (lq rfl) rfl rfl rfl rfl rfl rfl ?_
 refine xm 10 ?_
 refine xm 11 ?_
 refine xn [8,12] ?_
 refine zVF yU ht45 ?_ ?_
 refine xn [9,12] ?_
 refine q76 O3 ht45 ?_ ?_
 refine xn [12] ?_
 refine q17 yU ht49 ?_
 refine xn [13] ?_
 refine q30 O3 ht49 ?_
 refine xn [14] ?_
 refine q17 yU ht51 ?_
 refine xn [15] ?_
 refine q20 O3 ht51 hr3000_6x15 ?_
 refine xn [16] ?_
 refine q17 yU ht52 ?_
 refine xn [17] ?_
 refine q20 O3 ht52 hr3000_6x17 ?_
 exact ae
 refine q17 yU ht49 ?_
 refine xn [9,13] ?_
 refine q76 O3 ht45 ?_ ?_
 refine xn [13] ?_
 refine q30 O3 ht49 ?_
 refine xn [14] ?_
 refine q17 yU ht51 ?_
 refine xn [15] ?_
 refine q20 O3 ht51 hr3000_6x15 ?_
 refine xn [16] ?_
 refine q17 yU ht52 ?_
 refine xn [17] ?_
 refine q20 O3 ht52 hr3000_6x17 ?_
 exact ae
 refine q30 O3 ht49 ?_
 refine xn [9] ?_
 refine q30 O3 ht45 ?_
 refine xn [14] ?_
 refine q17 yU ht51 ?_
 refine xn [15] ?_
 refine q20 O3 ht51 hr3000_6x15 ?_
 refine xn [16] ?_
 refine q17 yU ht52 ?_
 refine xn [17] ?_
 refine q20 O3 ht52 hr3000_6x17 ?_
 exact ae
 refine q17 yU ht49 ?_
 refine xn [8,13] ?_
 refine zVF yU ht45 ?_ ?_
 refine xn [9,13] ?_
 refine q76 O3 ht45 ?_ ?_
 refine xn [13] ?_
 refine q30 O3 ht49 ?_
 refine xn [14] ?_
 refine q17 yU ht51 ?_
 refine xn [15] ?_
 refine q20 O3 ht51 hr3000_6x15 ?_
 refine xn [16] ?_
 refine q17 yU ht52 ?_
 refine xn [17] ?_
 refine q20 O3 ht52 hr3000_6x17 ?_
 exact ae
 refine q30 O3 ht49 ?_
 refine xn [9] ?_
 refine q30 O3 ht45 ?_
 refine xn [14] ?_
 refine q17 yU ht51 ?_
 refine xn [15] ?_
 refine q20 O3 ht51 hr3000_6x15 ?_
 refine xn [16] ?_
 refine q17 yU ht52 ?_
 refine xn [17] ?_
 refine q20 O3 ht52 hr3000_6x17 ?_
 exact ae
 refine q30 O3 ht49 ?_
 refine xn [8] ?_
 refine q17 yU ht45 ?_
 refine xn [9] ?_
 refine q30 O3 ht45 ?_
 refine xn [14] ?_
 refine q17 yU ht51 ?_
 refine xn [15] ?_
 refine q20 O3 ht51 hr3000_6x15 ?_
 refine xn [16] ?_
 refine q17 yU ht52 ?_
 refine xn [17] ?_
 refine q20 O3 ht52 hr3000_6x17 ?_
 exact ae
 refine Q7 ?_
 refine Q73 ?_
 cases p2
 exact wc
 refine zG ?_
 cases p2
 intro q;cases q
 exact zN (wc)
 refine Q11 ?_
 cases p1
 exact wc
 refine zG ?_
 cases p1
 intro q;cases q
 exact zN (wc)
 cases h
 exact ⟨rfl,⟨rfl,trivial⟩⟩
set_option maxHeartbeats 8000000 in
theorem wP {fv4:DV} {a0:(List Int)} {a1:Int} {a2:Int} {a3:Int} {a4:Int→Int→Option (Int)} (hf4:∀x0 x1 y,a4 x0 x1=some y→FnC Tryz.prog fv4 [(di x0),(di x1)] [(di y)]) {r:(List Int)} (h:yV a0 a1 a2 a3 a4=some r):GC Tryz.prog 159 [.row 3000,.d (di a1),.d (di a2),.d (di a3),.d fv4] [(3000,.win 3 eI.size 0 (eI.all a0))] [3000] [] [(3000,.win 3 eI.size 0 (eI.all r))]:=by
 refine zCJ Tryz.func159 (by kernel_rfl) rfl (lq rfl) (lq rfl) fun w0 I0 hG0 p0=>?_
 unfold yV at h
 refine Q14 ?_
 have ⟨y1,hy1,h⟩:=bE h
 refine tl (.exit 0) ⟨[(0,.row 3000)],[(3000,.win 3 eI.size 0 (eI.all y1))]⟩ ?_ ?_
 refine zD (fun x=>⟨[(0,.row 3000),(1,.d (di a1)),(2,.d (di a2)),(3,.d (di a3)),(10,.d (di x.1))],[(3000,.win 3 eI.size 0 (eI.all x.2))]⟩) hy1 (wc) ?_
 rintro ⟨v10,r3000⟩ sy1 p1
 replace p1:yJ a3 a2 a1 v10 r3000=some sy1:=p1
 unfold yJ at p1
 refine Q72 ?_
 refine yB p1 (fun p1=>?_) (fun p1=>?_)
 refine Q8 ?_
 have ⟨t28,ht28,p1⟩:=bE p1
 have ⟨t34,ht34,p1⟩:=bE p1
 have ⟨t36,ht36,p1⟩:=bE p1
 have ⟨r3000_3x21,hr3000_3x21,p1⟩:=bE p1
 have ⟨t37,ht37,p1⟩:=bE p1
 have ⟨r3000_3x23,hr3000_3x23,p1⟩:=bE p1
 refine tl .normal ⟨[(0,.row 3000),(1,.d (di a1)),(2,.d (di a2)),(3,.d (di a3)),(10,.d (di v10))],[(3000,.win 3 eI.size 0 (eI.all r3000_3x23))]⟩ ?_ ?_
 refine zCX MX ?_
 refine z17 ?_
 refine zI0 (i:=3) rfl (lq rfl) rfl rfl rfl rfl rfl rfl ?_
 refine xm 4 ?_
 refine xm 5 ?_
 refine xm 6 ?_
 refine zI0 (i:=7) rfl (lq rfl) rfl rfl rfl rfl rfl rfl ?_
 refine xm 8 ?_
 refine xm 9 ?_
 refine xm 10 ?_
 refine zI0 (i:=11) rfl (lq rfl) rfl rfl rfl rfl rfl rfl ?_
 refine xm 14 ?_
 refine xm 15 ?_
 refine xm 16 ?_
 refine zI0 (i:=17) rfl (lq rfl) rfl rfl rfl rfl rfl rfl ?_
 refine xn [12,18] ?_
 refine zVF yU ht28 ?_ ?_
 refine xn [13,18] ?_
 refine q76 O3 ht28 ?_ ?_
 refine xn [18] ?_
 refine q17 yU ht34 ?_
 refine xn [19] ?_
 refine q30 O3 ht34 ?_
 refine xn [20] ?_
 refine q17 yU ht36 ?_
 refine xn [21] ?_
 refine q20 O3 ht36 hr3000_3x21 ?_
 refine xn [22] ?_
 refine q17 yU ht37 ?_
 refine xn [23] ?_
 refine q20 O3 ht37 hr3000_3x23 ?_
 exact ae
 refine q17 yU ht34 ?_
 refine xn [13,19] ?_
 refine q76 O3 ht28 ?_ ?_
 refine xn [19] ?_
 refine q30 O3 ht34 ?_
 refine xn [20] ?_
 refine q17 yU ht36 ?_
 refine xn [21] ?_
 refine q20 O3 ht36 hr3000_3x21 ?_
 refine xn [22] ?_
 refine q17 yU ht37 ?_
 refine xn [23] ?_
 refine q20 O3 ht37 hr3000_3x23 ?_
 exact ae
 refine q30 O3 ht34 ?_
 refine xn [13] ?_
 refine q30 O3 ht28 ?_
 refine xn [20] ?_
 refine q17 yU ht36 ?_
 refine xn [21] ?_
 refine q20 O3 ht36 hr3000_3x21 ?_
 refine xn [22] ?_
 refine q17 yU ht37 ?_
 refine xn [23] ?_
 refine q20 O3 ht37 hr3000_3x23 ?_
 exact ae
 refine q17 yU ht34 ?_
 refine xn [12,19] ?_
 refine zVF yU ht28 ?_ ?_
 refine xn [13,19] ?_
 refine q76 O3 ht28 ?_ ?_
 refine xn [19] ?_
 refine q30 O3 ht34 ?_
 refine xn [20] ?_
 refine q17 yU ht36 ?_
 refine xn [21] ?_
 refine q20 O3 ht36 hr3000_3x21 ?_
 refine xn [22] ?_
 refine q17 yU ht37 ?_
 refine xn [23] ?_
 refine q20 O3 ht37 hr3000_3x23 ?_
 exact ae
 refine q30 O3 ht34 ?_
 refine xn [13] ?_
 refine q30 O3 ht28 ?_
 refine xn [20] ?_
 refine q17 yU ht36 ?_
 refine xn [21] ?_
 refine q20 O3 ht36 hr3000_3x21 ?_
 refine xn [22] ?_
 refine q17 yU ht37 ?_
 refine xn [23] ?_
 refine q20 O3 ht37 hr3000_3x23 ?_
 exact ae
 refine q30 O3 ht34 ?_
 refine xn [12] ?_
 refine q17 yU ht28 ?_
 refine xn [13] ?_
 refine q30 O3 ht28 ?_
 refine xn [20] ?_
 refine q17 yU ht36 ?_
 refine xn [21] ?_
 refine q20 O3 ht36 hr3000_3x21 ?_
 refine xn [22] ?_
 refine q17 yU ht37 ?_
 refine xn [23] ?_
 refine q20 O3 ht37 hr3000_3x23 ?_
 exact ae
 refine Q11 ?_
 cases p1
 exact wc
 refine zG ?_
 cases p1
 intro q;cases q
 exact zN (wc)
 cases h
 exact ⟨rfl,⟨rfl,trivial⟩⟩
theorem zFU {fv4:DV} {a0:(List Int)} {a1:Int} {a2:Int} {a3:Int} {a4:Int→Int→Option (Int)} (hf4:∀x0 x1 y,a4 x0 x1=some y→FnC Tryz.prog fv4 [(di x0),(di x1)] [(di y)]) {r:(List Int)} (h:jL a0 a1 a2 a3 a4=some r):GC Tryz.prog 148 [.row 3000,.d (di a1),.d (di a2),.d (di a3),.d fv4] [(3000,.win 3 eI.size 0 (eI.all a0))] [3000] [] [(3000,.win 3 eI.size 0 (eI.all r))]:=by
 refine zCJ Tryz.func148 (by kernel_rfl) rfl (lq rfl) (lq rfl) fun w0 I0 hG0 p0=>?_
 unfold jL at h
 refine Q15 ?_
 refine Q73 ?_
 refine Q15 ?_
 refine q31 ?_
 refine Q76 ?_
 have ⟨y1,hy1,h⟩:=bE h
 refine tl (.exit 0) ⟨[(0,.row 3000),(2,.d (di a2)),(4,.d fv4),(10,.d (di y1.1))],[(3000,.win 3 eI.size 0 (eI.all y1.2))]⟩ ?_ ?_
 refine zD (fun x=>⟨[(0,.row 3000),(2,.d (di a2)),(4,.d fv4),(10,.d (di x.1)),(11,.d (di x.2.1))],[(3000,.win 3 eI.size 0 (eI.all x.2.2))]⟩) hy1 (wc) ?_
 rintro ⟨v10,v11,r3000⟩ sy1 p1
 replace p1:yD a2 a4 v10 v11 r3000=some sy1:=p1
 unfold yD at p1
 refine Q12 ?_
 refine Q33 ?_
 refine yB p1 (fun p1=>?_) (fun p1=>?_)
 refine zP ?_
 have ⟨y2,hy2,p1⟩:=bE p1
 refine tl .normal ⟨[(0,.row 3000),(2,.d (di a2)),(4,.d fv4),(10,.d (di y2.1)),(11,.d (di y2.2.1))],[(3000,.win 3 eI.size 0 (eI.all y2.2.2))]⟩ ?_ ?_
 refine Q75 ?_
 refine Q54 ?_
 refine yB hy2 (fun hy2=>?_) (fun hy2=>?_)
 refine Q86 ?_
 refine q31 ?_
 refine Q82 ?_
 refine q0 ?_
 have ⟨t31,ht31,hy2⟩:=bE hy2
 refine kP rfl (zBT [(3000,3000)] (wP hf4 ht31) (lq rfl) (by decide) ⟨rfl,rfl,rfl,rfl,rfl,trivial⟩ rfl rfl ⟨rfl,trivial⟩ rfl rfl rfl rfl) ?_
 refine zL<|Q66 ?_
 refine Q73 ?_
 cases hy2
 exact zN (wc)
 refine Q86 ?_
 refine q31 ?_
 refine Q82 ?_
 refine q2 ?_
 refine q0 ?_
 refine q31 ?_
 refine Q82 ?_
 have ⟨t46,ht46,hy2⟩:=bE hy2
 refine kP rfl (zBT [(3000,3000)] (wP hf4 ht46) (lq rfl) (by decide) ⟨rfl,rfl,rfl,rfl,rfl,trivial⟩ rfl rfl ⟨rfl,trivial⟩ rfl rfl rfl rfl) ?_
 refine zL<|Q66 ?_
 refine Q73 ?_
 cases hy2
 exact zN (wc)
 cases p1
 exact wc
 refine zG ?_
 cases p1
 intro q;cases q
 exact zN (wc)
 refine Q63 ?_
 refine q31 ?_
 refine Q82 ?_
 refine q0 ?_
 have ⟨t57,ht57,h⟩:=bE h
 refine kP rfl (zBT [(3000,3000)] (wP hf4 ht57) (lq rfl) (by decide) ⟨rfl,rfl,rfl,rfl,rfl,trivial⟩ rfl rfl ⟨rfl,trivial⟩ rfl rfl rfl rfl) ?_
 refine zL ?_
 cases h
 exact ⟨rfl,⟨rfl,trivial⟩⟩
set_option maxHeartbeats 8000000 in
theorem zA6:∀(n:Nat) {fv4:DV} {a0:(List Int)} {a1:Int} {a2:Int} {a3:Int} {a4:Int→Int→Option (Int)} (hf4:∀x0 x1 y,a4 x0 x1=some y→FnC Tryz.prog fv4 [(di x0),(di x1)] [(di y)]) {r:(List Int)} (h:yT n a0 a1 a2 a3 a4=some r),GC Tryz.prog 143 [.row 3000,.d (di a1),.d (di a2),.d (di a3),.d fv4] [(3000,.win 3 eI.size 0 (eI.all a0))] [3000] [] [(3000,.win 3 eI.size 0 (eI.all r))]:=by
 intro n
 induction n with
 | zero=>intro fv4 a0 a1 a2 a3 a4 hf4 r h;cases h
 | succ n ih=>
 intro fv4 a0 a1 a2 a3 a4 hf4 r h
 replace h:yC (yT n) a0 a1 a2 a3 a4=some r:=h
 generalize yT n=rec at h ih
 refine zCJ Tryz.func143 (by kernel_rfl) rfl (lq rfl) (lq rfl) fun w0 I0 hG0 p0=>?_
 unfold yC at h
 refine Q12 ?_
 refine q31 ?_
 refine Q87 ?_
 refine yB h (fun h=>?_) (fun h=>?_)
 refine Q2 ?_
 refine Q19 ?_
 refine Q76 ?_
 have ⟨y1,hy1,h⟩:=bE h
 refine tl (.exit 0) ⟨[(0,.row 3000),(1,.d (di a1)),(10,.d (di y1))],[(3000,.win 3 eI.size 0 (eI.all a0))]⟩ ?_ ?_
 refine zD (fun x=>⟨[(0,.row 3000),(1,.d (di a1)),(4,.d fv4),(10,.d (di x.1)),(11,.d (di x.2))],[(3000,.win 3 eI.size 0 (eI.all a0))]⟩) hy1 (wc) ?_
 rintro ⟨v10,v11⟩ sy1 p1
 replace p1:yL a0 a1 a4 v10 v11=some sy1:=p1
 unfold yL at p1
 refine Q72 ?_
 refine yB p1 (fun p1=>?_) (fun p1=>?_)
 refine zP ?_
 have ⟨y2,hy2,p1⟩:=bE p1
 refine tl .normal ⟨[(0,.row 3000),(1,.d (di a1)),(4,.d fv4),(10,.d (di y2.1)),(11,.d (di y2.2))],[(3000,.win 3 eI.size 0 (eI.all a0))]⟩ ?_ ?_
 refine Q75 ?_
 refine zX4 ?_
 refine Q16 ?_
 refine z7 MX rfl ?_
 refine q7 ?_
 refine zVJ ?_
 have ⟨t43,ht43,hy2⟩:=bE hy2
 refine z1V yU ht43 ?_
 refine z1W O3 ht43 ?_
 refine zVJ ?_
 have ⟨t47,ht47,hy2⟩:=bE hy2
 refine z1V yU ht47 ?_
 refine z1W O3 ht47 ?_
 have ⟨t49,ht49,hy2⟩:=bE hy2
 refine vB (zDP (lq rfl) rfl rfl (hf4 _ _ _ ht49)) ?_
 refine z1T ?_
 refine xQ ?_
 refine yB hy2 (fun hy2=>?_) (fun hy2=>?_)
 refine Q11 ?_
 cases hy2
 exact zN (wc)
 refine Q81 ?_
 cases hy2
 exact zN (wc)
 cases p1
 exact wc
 refine zG ?_
 cases p1
 intro q;cases q
 exact zN (wc)
 refine Q4 ?_
 refine Q1 ?_
 refine kT ?_
 have ⟨y3,hy3,h⟩:=bE h
 refine tl (.exit 2) ⟨[(0,.row 3000)],[(3000,.win 3 eI.size 0 (eI.all y3))]⟩ ?_ ?_
 refine zD (fun x=>⟨[(0,.row 3000),(10,.d (di y1)),(13,.d (di x.1))],[(3000,.win 3 eI.size 0 (eI.all x.2))]⟩) hy3 (wc) ?_
 rintro ⟨v13,r3000⟩ sy3 p3
 replace p3:yN y1 v13 r3000=some sy3:=p3
 unfold yN at p3
 refine Q12 ?_
 refine q31 ?_
 refine Q6 ?_
 refine yB p3 (fun p3=>?_) (fun p3=>?_)
 refine Q8 ?_
 have ⟨t69,ht69,p3⟩:=bE p3
 have ⟨t73,ht73,p3⟩:=bE p3
 have ⟨t75,ht75,p3⟩:=bE p3
 have ⟨r3000_11x15,hr3000_11x15,p3⟩:=bE p3
 have ⟨t76,ht76,p3⟩:=bE p3
 have ⟨r3000_11x17,hr3000_11x17,p3⟩:=bE p3
 refine tl .normal ⟨[(0,.row 3000),(10,.d (di y1)),(13,.d (di v13))],[(3000,.win 3 eI.size 0 (eI.all r3000_11x17))]⟩ ?_ ?_
 refine zCX MX ?_
 refine z17 ?_
 refine xm 3 ?_
 refine zI0 (i:=4) rfl (lq rfl) rfl rfl rfl rfl rfl rfl ?_
 refine xm 5 ?_
 refine xm 6 ?_
 refine zI0 (i:=7) rfl (lq rfl) rfl rfl rfl rfl rfl rfl ?_
 refine xm 10 ?_
 refine xm 11 ?_
 refine xn [8,12] ?_
 refine zVF yU ht69 ?_ ?_
 refine xn [9,12] ?_
 refine q76 O3 ht69 ?_ ?_
 refine xn [12] ?_
 refine q17 yU ht73 ?_
 refine xn [13] ?_
 refine q30 O3 ht73 ?_
 refine xn [14] ?_
 refine q17 yU ht75 ?_
 refine xn [15] ?_
 refine q20 O3 ht75 hr3000_11x15 ?_
 refine xn [16] ?_
 refine q17 yU ht76 ?_
 refine xn [17] ?_
 refine q20 O3 ht76 hr3000_11x17 ?_
 exact ae
 refine q17 yU ht73 ?_
 refine xn [9,13] ?_
 refine q76 O3 ht69 ?_ ?_
 refine xn [13] ?_
 refine q30 O3 ht73 ?_
 refine xn [14] ?_
 refine q17 yU ht75 ?_
 refine xn [15] ?_
 refine q20 O3 ht75 hr3000_11x15 ?_
 refine xn [16] ?_
 refine q17 yU ht76 ?_
 refine xn [17] ?_
 refine q20 O3 ht76 hr3000_11x17 ?_
 exact ae
 refine q30 O3 ht73 ?_
 refine xn [9] ?_
 refine q30 O3 ht69 ?_
 refine xn [14] ?_
 refine q17 yU ht75 ?_
 refine xn [15] ?_
 refine q20 O3 ht75 hr3000_11x15 ?_
 refine xn [16] ?_
 refine q17 yU ht76 ?_
 refine xn [17] ?_
 refine q20 O3 ht76 hr3000_11x17 ?_
 exact ae
 refine q17 yU ht73 ?_
 refine xn [8,13] ?_
 refine zVF yU ht69 ?_ ?_
 refine xn [9,13] ?_
 refine q76 O3 ht69 ?_ ?_
 refine xn [13] ?_
 refine q30 O3 ht73 ?_
 refine xn [14] ?_
 refine q17 yU ht75 ?_
 refine xn [15] ?_
 refine q20 O3 ht75 hr3000_11x15 ?_
 refine xn [16] ?_
 refine q17 yU ht76 ?_
 refine xn [17] ?_
 refine q20 O3 ht76 hr3000_11x17 ?_
 exact ae
 refine q30 O3 ht73 ?_
 refine xn [9] ?_
 refine q30 O3 ht69 ?_
 refine xn [14] ?_
 refine q17 yU ht75 ?_
 refine xn [15] ?_
 refine q20 O3 ht75 hr3000_11x15 ?_
 refine xn [16] ?_
 refine q17 yU ht76 ?_
 refine xn [17] ?_
 refine q20 O3 ht76 hr3000_11x17 ?_
 exact ae
 refine q30 O3 ht73 ?_
 refine xn [8] ?_
 refine q17 yU ht69 ?_
 refine xn [9] ?_
 refine q30 O3 ht69 ?_
 refine xn [14] ?_
 refine q17 yU ht75 ?_
 refine xn [15] ?_
 refine q20 O3 ht75 hr3000_11x15 ?_
 refine xn [16] ?_
 refine q17 yU ht76 ?_
 refine xn [17] ?_
 refine q20 O3 ht76 hr3000_11x17 ?_
 exact ae
 refine Q11 ?_
 cases p3
 exact wc
 refine zG ?_
 cases p3
 intro q;cases q
 exact zN (wc)
 cases h
 refine zB ?_
 exact ⟨rfl,⟨rfl,trivial⟩⟩
 refine zP<|Q12 ?_
 refine q31 ?_
 refine Q87 ?_
 refine yB h (fun h=>?_) (fun h=>?_)
 refine Q2 ?_
 refine Q19 ?_
 refine Q76 ?_
 have ⟨y4,hy4,h⟩:=bE h
 refine tl (.exit 4) ⟨[(0,.row 3000),(2,.d (di a2)),(14,.d (di y4))],[(3000,.win 3 eI.size 0 (eI.all a0))]⟩ ?_ ?_
 refine zD (fun x=>⟨[(0,.row 3000),(2,.d (di a2)),(4,.d fv4),(14,.d (di x.1)),(15,.d (di x.2))],[(3000,.win 3 eI.size 0 (eI.all a0))]⟩) hy4 (wc) ?_
 rintro ⟨v14,v15⟩ sy4 p4
 replace p4:yO a0 a2 a4 v14 v15=some sy4:=p4
 unfold yO at p4
 refine Q72 ?_
 refine yB p4 (fun p4=>?_) (fun p4=>?_)
 refine zP ?_
 have ⟨y5,hy5,p4⟩:=bE p4
 refine tl .normal ⟨[(0,.row 3000),(2,.d (di a2)),(4,.d fv4),(14,.d (di y5.1)),(15,.d (di y5.2))],[(3000,.win 3 eI.size 0 (eI.all a0))]⟩ ?_ ?_
 refine Q75 ?_
 refine zX4 ?_
 refine Q16 ?_
 refine z7 MX rfl ?_
 refine q7 ?_
 refine zVJ ?_
 have ⟨t95,ht95,hy5⟩:=bE hy5
 refine z1V yU ht95 ?_
 refine z1W O3 ht95 ?_
 refine zVJ ?_
 have ⟨t99,ht99,hy5⟩:=bE hy5
 refine z1V yU ht99 ?_
 refine z1W O3 ht99 ?_
 have ⟨t101,ht101,hy5⟩:=bE hy5
 refine vB (zDP (lq rfl) rfl rfl (hf4 _ _ _ ht101)) ?_
 refine z1T ?_
 refine z8N ?_
 refine xQ ?_
 refine yB hy5 (fun hy5=>?_) (fun hy5=>?_)
 refine Q11 ?_
 cases hy5
 exact zN (wc)
 refine Q81 ?_
 cases hy5
 exact zN (wc)
 cases p4
 exact wc
 refine zG ?_
 cases p4
 intro q;cases q
 exact zN (wc)
 refine Q4 ?_
 refine Q1 ?_
 refine kT ?_
 have ⟨y6,hy6,h⟩:=bE h
 refine tl (.exit 6) ⟨[(0,.row 3000)],[(3000,.win 3 eI.size 0 (eI.all y6))]⟩ ?_ ?_
 refine zD (fun x=>⟨[(0,.row 3000),(14,.d (di y4)),(17,.d (di x.1))],[(3000,.win 3 eI.size 0 (eI.all x.2))]⟩) hy6 (wc) ?_
 rintro ⟨v17,r3000⟩ sy6 p6
 replace p6:yP y4 v17 r3000=some sy6:=p6
 unfold yP at p6
 refine Q12 ?_
 refine Q54 ?_
 refine yB p6 (fun p6=>?_) (fun p6=>?_)
 refine Q8 ?_
 have ⟨t121,ht121,p6⟩:=bE p6
 have ⟨t125,ht125,p6⟩:=bE p6
 have ⟨t127,ht127,p6⟩:=bE p6
 have ⟨r3000_23x15,hr3000_23x15,p6⟩:=bE p6
 have ⟨t128,ht128,p6⟩:=bE p6
 have ⟨r3000_23x17,hr3000_23x17,p6⟩:=bE p6
 refine tl .normal ⟨[(0,.row 3000),(14,.d (di y4)),(17,.d (di v17))],[(3000,.win 3 eI.size 0 (eI.all r3000_23x17))]⟩ ?_ ?_
 refine zCX MX ?_
 refine z17 ?_
 refine xm 3 ?_
 refine zHH (i:=4) rfl (lq rfl) rfl rfl rfl rfl rfl rfl ?_
 refine xm 5 ?_
 refine xm 6 ?_
 refine zHH (i:=7) rfl (lq rfl) rfl rfl rfl rfl rfl rfl ?_
 refine xm 10 ?_
 refine xm 11 ?_
 refine xn [8,12] ?_
 refine zVF yU ht121 ?_ ?_
 refine xn [9,12] ?_
 refine q76 O3 ht121 ?_ ?_
 refine xn [12] ?_
 refine q17 yU ht125 ?_
 refine xn [13] ?_
 refine q30 O3 ht125 ?_
 refine xn [14] ?_
 refine q17 yU ht127 ?_
 refine xn [15] ?_
 refine q20 O3 ht127 hr3000_23x15 ?_
 refine xn [16] ?_
 refine q17 yU ht128 ?_
 refine xn [17] ?_
 refine q20 O3 ht128 hr3000_23x17 ?_
 exact ae
 refine q17 yU ht125 ?_
 refine xn [9,13] ?_
 refine q76 O3 ht121 ?_ ?_
 refine xn [13] ?_
 refine q30 O3 ht125 ?_
 refine xn [14] ?_
 refine q17 yU ht127 ?_
 refine xn [15] ?_
 refine q20 O3 ht127 hr3000_23x15 ?_
 refine xn [16] ?_
 refine q17 yU ht128 ?_
 refine xn [17] ?_
 refine q20 O3 ht128 hr3000_23x17 ?_
 exact ae
 refine q30 O3 ht125 ?_
 refine xn [9] ?_
 refine q30 O3 ht121 ?_
 refine xn [14] ?_
 refine q17 yU ht127 ?_
 refine xn [15] ?_
 refine q20 O3 ht127 hr3000_23x15 ?_
 refine xn [16] ?_
 refine q17 yU ht128 ?_
 refine xn [17] ?_
 refine q20 O3 ht128 hr3000_23x17 ?_
 exact ae
 refine q17 yU ht125 ?_
 refine xn [8,13] ?_
 refine zVF yU ht121 ?_ ?_
 refine xn [9,13] ?_
 refine q76 O3 ht121 ?_ ?_
 refine xn [13] ?_
 refine q30 O3 ht125 ?_
 refine xn [14] ?_
 refine q17 yU ht127 ?_
 refine xn [15] ?_
 refine q20 O3 ht127 hr3000_23x15 ?_
 refine xn [16] ?_
 refine q17 yU ht128 ?_
 refine xn [17] ?_
 refine q20 O3 ht128 hr3000_23x17 ?_
 exact ae
 refine q30 O3 ht125 ?_
 refine xn [9] ?_
 refine q30 O3 ht121 ?_
 refine xn [14] ?_
 refine q17 yU ht127 ?_
 refine xn [15] ?_
 refine q20 O3 ht127 hr3000_23x15 ?_
 refine xn [16] ?_
 refine q17 yU ht128 ?_
 refine xn [17] ?_
 refine q20 O3 ht128 hr3000_23x17 ?_
 exact ae
 refine q30 O3 ht125 ?_
 refine xn [8] ?_
 refine q17 yU ht121 ?_
 refine xn [9] ?_
 refine q30 O3 ht121 ?_
 refine xn [14] ?_
 refine q17 yU ht127 ?_
 refine xn [15] ?_
 refine q20 O3 ht127 hr3000_23x15 ?_
 refine xn [16] ?_
 refine q17 yU ht128 ?_
 refine xn [17] ?_
 refine q20 O3 ht128 hr3000_23x17 ?_
 exact ae
 refine Q7 ?_
 refine Q73 ?_
 cases p6
 exact wc
 refine zG ?_
 cases p6
 intro q;cases q
 exact zN (wc)
 cases h
 refine zB ?_
 exact ⟨rfl,⟨rfl,trivial⟩⟩
 refine zP<|Q15 ?_
 refine zX4 ?_
 refine Q1 ?_
 refine Q15 ?_
 refine Q9 ?_
 refine Q0 ?_
 refine Q46 ?_
 refine Q12 ?_
 refine Q54 ?_
 have ⟨y7,hy7,h⟩:=bE h
 refine tl .normal ⟨[(0,.row 3000),(1,.d (di a1)),(2,.d (di a2)),(3,.d (di a3)),(4,.d fv4),(18,.d (di (wi ((wu (wi (a1+a3))) / 2 ^ 1)))),(19,.d (di (wi ((wi ((wu (wi (a1+a3))) / 2 ^ 1))+a2)))),(20,.d (di y7.1)),(21,.d (di y7.2))],[(3000,.win 3 eI.size 0 (eI.all a0))]⟩ ?_ ?_
 refine yB hy7 (fun hy7=>?_) (fun hy7=>?_)
 refine Q15 ?_
 refine Q73 ?_
 refine Q81 ?_
 cases hy7
 exact zN (wc)
 refine Q35 ?_
 refine Q81 ?_
 cases hy7
 exact zN (wc)
 refine Q2 ?_
 refine q31 ?_
 refine Q76 ?_
 have ⟨y8,hy8,h⟩:=bE h
 refine tl (.exit 8) ⟨[(0,.row 3000),(1,.d (di a1)),(2,.d (di a2)),(3,.d (di a3)),(4,.d fv4),(18,.d (di (wi ((wu (wi (a1+a3))) / 2 ^ 1)))),(19,.d (di (wi ((wi ((wu (wi (a1+a3))) / 2 ^ 1))+a2)))),(20,.d (di y8))],[(3000,.win 3 eI.size 0 (eI.all a0))]⟩ ?_ ?_
 refine zD (fun x=>⟨[(0,.row 3000),(1,.d (di a1)),(2,.d (di a2)),(3,.d (di a3)),(4,.d fv4),(18,.d (di (wi ((wu (wi (a1+a3))) / 2 ^ 1)))),(19,.d (di (wi ((wi ((wu (wi (a1+a3))) / 2 ^ 1))+a2)))),(20,.d (di x.1)),(21,.d (di x.2)),(22,.d (di (wi ((wi ((wi ((wu (wi (a1+a3))) / 2 ^ 1))+a2)) - 1))))],[(3000,.win 3 eI.size 0 (eI.all a0))]⟩) hy8 (wc) ?_
 rintro ⟨v20,v21⟩ sy8 p8
 replace p8:yQ a0 a1 a3 a2 a4 v20 v21=some sy8:=p8
 unfold yQ at p8
 refine Q72 ?_
 refine yB p8 (fun p8=>?_) (fun p8=>?_)
 refine zP ?_
 have ⟨y9,hy9,p8⟩:=bE p8
 refine tl .normal ⟨[(0,.row 3000),(1,.d (di a1)),(2,.d (di a2)),(3,.d (di a3)),(4,.d fv4),(18,.d (di (wi ((wu (wi (a1+a3))) / 2 ^ 1)))),(19,.d (di (wi ((wi ((wu (wi (a1+a3))) / 2 ^ 1))+a2)))),(20,.d (di y9.1)),(21,.d (di y9.2)),(22,.d (di (wi ((wi ((wi ((wu (wi (a1+a3))) / 2 ^ 1))+a2)) - 1))))],[(3000,.win 3 eI.size 0 (eI.all a0))]⟩ ?_ ?_
 refine Q75 ?_
 refine zX4 ?_
 refine Q16 ?_
 refine z7 MX rfl ?_
 refine q7 ?_
 refine q88 ?_
 refine Q27 ?_
 refine zVD ?_
 have ⟨t163,ht163,hy9⟩:=bE hy9
 refine z1V yU ht163 ?_
 refine z1W O3 ht163 ?_
 refine zVJ ?_
 have ⟨t167,ht167,hy9⟩:=bE hy9
 refine z1V yU ht167 ?_
 refine z1W O3 ht167 ?_
 have ⟨t169,ht169,hy9⟩:=bE hy9
 refine vB (zDP (lq rfl) rfl rfl (hf4 _ _ _ ht169)) ?_
 refine z1T ?_
 refine z8N ?_
 refine xQ ?_
 refine yB hy9 (fun hy9=>?_) (fun hy9=>?_)
 refine Q11 ?_
 cases hy9
 exact zN (wc)
 refine Q81 ?_
 cases hy9
 exact zN (wc)
 cases p8
 exact wc
 refine zG ?_
 cases p8
 intro q;cases q
 exact zN (wc)
 refine Q15 ?_
 refine Q73 ?_
 refine Q12 ?_
 refine q3 ?_
 have ⟨b181,hb181,h⟩:=bE h
 refine yH ((zC (lq rfl) rfl).bool (oi hb181)) ?_
 refine q13 (.d (di a2)) ?_
 refine q13 (.d (di (wi ((wi ((wi ((wu (wi (a1+a3))) / 2 ^ 1))+a2)) - y8)))) ?_
 refine q73 (.d (db (decide (a2 < (wi ((wi ((wi ((wu (wi (a1+a3))) / 2 ^ 1))+a2)) - y8)))))) ?_
 refine Q36 ?_
 have ⟨y10,hy10,h⟩:=bE h
 refine tl .normal ⟨[(0,.row 3000),(1,.d (di a1)),(3,.d (di a3)),(4,.d fv4),(18,.d (di (wi ((wu (wi (a1+a3))) / 2 ^ 1)))),(20,.d (di y8)),(24,.d (di (wi ((wi ((wi ((wu (wi (a1+a3))) / 2 ^ 1))+a2)) - y8))))],[(3000,.win 3 eI.size 0 (eI.all y10))]⟩ ?_ ?_
 refine yB hy10 (fun hy10=>?_) (fun hy10=>?_)
 refine Q63 ?_
 refine Q82 ?_
 have ⟨t191,ht191,hy10⟩:=bE hy10
 refine kP rfl (zBT [(3000,3000)] (zFU hf4 ht191) (lq rfl) (by decide) ⟨rfl,rfl,rfl,rfl,rfl,trivial⟩ rfl rfl ⟨rfl,trivial⟩ rfl rfl rfl rfl) ?_
 refine zL ?_
 cases hy10
 exact zN (wc)
 refine zP ?_
 cases hy10
 exact zN (wc)
 refine Q12 ?_
 refine q3 ?_
 have ⟨b195,hb195,h⟩:=bE h
 refine yH ((zC (lq rfl) rfl).bool (oi hb195)) ?_
 refine q13 (.d (di y8)) ?_
 refine q13 (.d (di (wi ((wu (wi (a1+a3))) / 2 ^ 1)))) ?_
 refine q73 (.d (db (decide (y8 < (wi ((wu (wi (a1+a3))) / 2 ^ 1)))))) ?_
 refine Q36 ?_
 have ⟨y11,hy11,h⟩:=bE h
 refine tl .normal ⟨[(0,.row 3000),(3,.d (di a3)),(4,.d fv4),(18,.d (di (wi ((wu (wi (a1+a3))) / 2 ^ 1)))),(24,.d (di (wi ((wi ((wi ((wu (wi (a1+a3))) / 2 ^ 1))+a2)) - y8))))],[(3000,.win 3 eI.size 0 (eI.all y11))]⟩ ?_ ?_
 refine yB hy11 (fun hy11=>?_) (fun hy11=>?_)
 refine Q63 ?_
 refine Q82 ?_
 have ⟨t205,ht205,hy11⟩:=bE hy11
 refine kP rfl (zBT [(3000,3000)] (ih hf4 ht205) (lq rfl) (by decide) ⟨rfl,rfl,rfl,rfl,rfl,trivial⟩ rfl rfl ⟨rfl,trivial⟩ rfl rfl rfl rfl) ?_
 refine zL ?_
 cases hy11
 exact zN (wc)
 refine zP ?_
 cases hy11
 exact zN (wc)
 refine Q15 ?_
 refine q3 ?_
 have ⟨b209,hb209,h⟩:=bE h
 refine yH ((zC (lq rfl) rfl).bool (oi hb209)) ?_
 refine q13 (.d (di (wi ((wi ((wi ((wu (wi (a1+a3))) / 2 ^ 1))+a2)) - y8)))) ?_
 refine q13 (.d (di a3)) ?_
 refine q73 (.d (db (decide ((wi ((wi ((wi ((wu (wi (a1+a3))) / 2 ^ 1))+a2)) - y8)) < a3)))) ?_
 refine Q36 ?_
 refine yB h (fun h=>?_) (fun h=>?_)
 refine Q63 ?_
 refine Q82 ?_
 have ⟨t219,ht219,h⟩:=bE h
 refine kP rfl (zBT [(3000,3000)] (ih hf4 ht219) (lq rfl) (by decide) ⟨rfl,rfl,rfl,rfl,rfl,trivial⟩ rfl rfl ⟨rfl,trivial⟩ rfl rfl rfl rfl) ?_
 refine zL ?_
 cases h
 exact ⟨rfl,⟨rfl,trivial⟩⟩
 refine zP ?_
 cases h
 exact ⟨rfl,⟨rfl,trivial⟩⟩
theorem zFV {fv2:DV} {a0:(List Int)} {a1:Int} {a2:Int→Int→Option (Int)} (hf2:∀x0 x1 y,a2 x0 x1=some y→FnC Tryz.prog fv2 [(di x0),(di x1)] [(di y)]) {r:(List Int)} (h:wJ a0 a1 a2=some r):GC Tryz.prog 129 [.row 3000,.d (di a1),.d fv2] [(3000,.win 3 eI.size 0 (eI.all a0))] [3000] [] [(3000,.win 3 eI.size 0 (eI.all r))]:=by
 refine zCJ Tryz.func129 (by kernel_rfl) rfl (lq rfl) (lq rfl) fun w0 I0 hG0 p0=>?_
 unfold wJ at h
 refine Q59 ?_
 refine q1 ?_
 refine Q76 ?_
 have ⟨y1,hy1,h⟩:=bE h
 refine tl (.exit 0) ⟨[(0,.row 3000),(1,.d (di a1)),(2,.d fv2),(6,.d (di 20)),(7,.d (di y1.1))],[(3000,.win 3 eI.size 0 (eI.all y1.2))]⟩ ?_ ?_
 refine zD (fun x=>⟨[(0,.row 3000),(1,.d (di a1)),(2,.d fv2),(6,.d (di 20)),(7,.d (di x.1)),(8,.d (di x.2.1))],[(3000,.win 3 eI.size 0 (eI.all x.2.2))]⟩) hy1 (wc) ?_
 rintro ⟨v7,v8,r3000⟩ sy1 p1
 replace p1:z5 a1 a2 v7 v8 r3000=some sy1:=p1
 unfold z5 at p1
 refine Q12 ?_
 refine q70 ?_
 refine zL ?_
 refine yB p1 (fun p1=>?_) (fun p1=>?_)
 refine zP<|kT<|zX3 ?_
 have ⟨t18,ht18,p1⟩:=bE p1
 refine kP rfl (zBT [(3000,3000)] (uA hf2 ht18) (lq rfl) (by decide) ⟨rfl,rfl,rfl,rfl,trivial⟩ rfl rfl ⟨rfl,trivial⟩ rfl rfl rfl rfl) ?_
 refine zL<|Q35 ?_
 refine Q66 ?_
 refine Q9 ?_
 cases p1
 exact wc
 refine zG ?_
 cases p1
 intro q;cases q
 exact zN (wc)
 refine zX3 ?_
 have ⟨t27,ht27,h⟩:=bE h
 refine kP rfl (zBT [(3000,3000)] (uA hf2 ht27) (lq rfl) (by decide) ⟨rfl,rfl,rfl,rfl,trivial⟩ rfl rfl ⟨rfl,trivial⟩ rfl rfl rfl rfl) ?_
 refine zL<|kT ?_
 have ⟨y2,hy2,h⟩:=bE h
 refine tl (.exit 2) ⟨[(0,.row 3000)],[(3000,.win 3 eI.size 0 (eI.all y2))]⟩ ?_ ?_
 refine zD (fun x=>⟨[(0,.row 3000),(1,.d (di a1)),(2,.d fv2),(6,.d (di x.1))],[(3000,.win 3 eI.size 0 (eI.all x.2))]⟩) hy2 (wc) ?_
 rintro ⟨v6,r3000⟩ sy2 p2
 replace p2:yE a1 a2 v6 r3000=some sy2:=p2
 unfold yE at p2
 refine Q72 ?_
 refine yB p2 (fun p2=>?_) (fun p2=>?_)
 refine zP<|Q80 ?_
 refine yH (z3W (lq rfl) rfl rfl) ?_
 refine q1 ?_
 refine Q76 ?_
 have ⟨y3,hy3,p2⟩:=bE p2
 refine tl (.exit 4) ⟨[(0,.row 3000),(1,.d (di a1)),(2,.d fv2),(6,.d (di v6)),(7,.d (di y3.1))],[(3000,.win 3 eI.size 0 (eI.all y3.2))]⟩ ?_ ?_
 refine zD (fun x=>⟨[(0,.row 3000),(1,.d (di a1)),(2,.d fv2),(6,.d (di v6)),(7,.d (di x.1)),(8,.d (di x.2.1))],[(3000,.win 3 eI.size 0 (eI.all x.2.2))]⟩) hy3 (wc) ?_
 rintro ⟨v7,v8,r3000⟩ sy3 p3
 replace p3:z6 a1 v6 a2 v7 v8 r3000=some sy3:=p3
 unfold z6 at p3
 refine Q12 ?_
 refine q70 ?_
 refine zL ?_
 refine yB p3 (fun p3=>?_) (fun p3=>?_)
 refine zP<|kT<|zX3 ?_
 refine q2 ?_
 refine Q82 ?_
 have ⟨t43,ht43,p3⟩:=bE p3
 refine kP rfl (zBT [(3000,3000)] (zA6 _ hf2 ht43) (lq rfl) (by decide) ⟨rfl,rfl,rfl,rfl,rfl,trivial⟩ rfl rfl ⟨rfl,trivial⟩ rfl rfl rfl rfl) ?_
 refine zL<|Q35 ?_
 refine Q66 ?_
 refine yH (z3W (lq rfl) rfl rfl) ?_
 refine Q9 ?_
 cases p3
 exact wc
 refine zG ?_
 cases p3
 intro q;cases q
 exact zN (wc)
 refine Q12 ?_
 refine Q9 ?_
 refine Q15 ?_
 refine Q6 ?_
 have ⟨y4,hy4,p2⟩:=bE p2
 refine tl .normal ⟨[(0,.row 3000),(1,.d (di a1)),(2,.d fv2),(6,.d (di v6))],[(3000,.win 3 eI.size 0 (eI.all y4))]⟩ ?_ ?_
 refine yB hy4 (fun hy4=>?_) (fun hy4=>?_)
 refine Q63 ?_
 refine Q82 ?_
 have ⟨t60,ht60,hy4⟩:=bE hy4
 refine kP rfl (zBT [(3000,3000)] (zA6 _ hf2 ht60) (lq rfl) (by decide) ⟨rfl,rfl,rfl,rfl,rfl,trivial⟩ rfl rfl ⟨rfl,trivial⟩ rfl rfl rfl rfl) ?_
 refine zL ?_
 cases hy4
 exact zN (wc)
 refine zP ?_
 cases hy4
 exact zN (wc)
 refine Q7 ?_
 refine yH (z3W (lq rfl) rfl rfl) ?_
 refine Q1 ?_
 cases p2
 exact wc
 refine zG ?_
 cases p2
 intro q;cases q
 exact zN (wc)
 cases h
 exact ⟨rfl,⟨rfl,trivial⟩⟩
theorem zC9 {fv1:DV} {a0:(List Int)} {a1:Int→Int→Option (Int)} (hf1:∀x0 x1 y,a1 x0 x1=some y→FnC Tryz.prog fv1 [(di x0),(di x1)] [(di y)]) {r:(List Int)} (h:yZ a0 a1=some r):GC Tryz.prog 107 [.row 3000,.d fv1] [(3000,.win 3 eI.size 0 (eI.all a0))] [3000] [] [(3000,.win 3 eI.size 0 (eI.all r))]:=by
 refine zCJ Tryz.func107 (by kernel_rfl) rfl (lq rfl) (lq rfl) fun w0 I0 hG0 p0=>?_
 unfold yZ at h
 refine Q64 ?_
 refine q10 ?_
 refine z8M yU ?_
 refine q0 ?_
 have ⟨t8,ht8,h⟩:=bE h
 refine kP rfl (zBT [(3000,3000)] (zFV hf1 ht8) (lq rfl) (by decide) ⟨rfl,rfl,rfl,trivial⟩ rfl rfl ⟨rfl,trivial⟩ rfl rfl rfl rfl) ?_
 refine zL ?_
 cases h
 exact ⟨rfl,⟨rfl,trivial⟩⟩
theorem zNG {a0:List Span} {a1 r:List Int} (h:uX a0 a1=some r):GC Tryz.prog 72 [.d (zW eSpan a0),.d (zW eI a1)] [] [] [.row 100] [(100,.row 3 eI.size false (eI.all r))]:=by
 unfold uX at h
 have ⟨t8,ht8,h'⟩:=bE h;clear h
 have ⟨t10,ht10,h⟩:=bE h';clear h'
 have ⟨t13,ht13,h'⟩:=bE h;clear h
 refine zCJ Tryz.func72 (by kernel_rfl) rfl (lq rfl) (lq rfl) fun w0 I0 hG0 p0=>?_
 refine Q0 ?_
 refine kP rfl (zYQ (lq rfl) rfl rfl rfl) ?_
 refine Q39 ?_
 refine q28 O22 ?_
 refine q8 (zGF ht8) ?_
 refine q60 O22 ?_
 refine zL ?_
 refine zV (zY (t:=2) (lq rfl) rfl rfl rfl) ?_
 refine Q2 ?_
 refine kP rfl (xR [(5,100)] (zC4 ht10) (lq rfl) (by decide) ⟨rfl,trivial⟩ rfl rfl trivial rfl rfl rfl (fun _=>rfl) rfl) ?_
 refine z1P ?_
 refine q93 O33 ?_
 refine z15 ?_
 refine q92 O22 ?_
 refine q0 ?_
 refine q8 zHS ?_
 refine zL<|kT ?_
 refine zQZ [(5,.ptr 5 0),(2,.d (.pt [zW eSpan t8])),(4,.d (.v (.slice none 0 0)))] [5] (fun k=>[(5,.box 33 [.row 100]),(100,.row 3 eI.size false (eI.all (outK (fun p=>yZ p (fun x0 x1=>xP x0 x1 t8)) Range.Lo Range.Hi t10 (jO (fun c=>kG t8 c==some 0) a1 0 (-1)) k)))]) rfl (zGG ht13) rfl (fun _ _ _ _ h=>h) ?hk ?hT rfl (fun _=>rfl) ?hbx (fun _ _=>rfl) ?hl ?hpn ?rd ?hK
 case hk=>exact ⟨rfl,rfl,rfl,trivial⟩
 case hT=>exact ⟨rfl,rfl,trivial⟩
 case hbx=>intro k id hi;simp at hi;subst hi;exact fun (h:Blk.box _ _=Blk.none)=>by cases h
 case hl=>intro x hx;obtain ⟨y,_,rfl⟩:=List.mem_map.1 hx;rfl
 case hpn=>intro p hp;simp at hp;subst hp;exact (lq rfl)
 case rd=>
  intro w1 Iall X C0 ρ0 defs l1 D lp1 lp2 hok k x hx
  rw [List.getElem?_map] at hx
  obtain ⟨v,hv,rfl⟩:=Option.map_eq_some_iff.1 hx
  have hst:=z1D h' hv
  obtain ⟨q0,q1,q2⟩:=z4H hst
  refine zBD<|zXT ?_
  refine zX0 ?_
  refine kT<|zBD<|q28 O33 ?_
  refine q51 zGK ?_
  refine q28 O3 ?_
  refine q51 zC3 ?_
  refine q28 O3 ?_
  refine yH (zU2 (en:=eI) (lq rfl) yU rfl rfl rfl rfl q0 q1 q2) ?_
  refine yH (zJV (lq rfl) rfl) ?_
  refine kP rfl (yBR (en:=eI) (lq rfl) rfl rfl rfl hst yF2 (fun m m' hm=>zC9 (fun _ _ _ q=> .inl ⟨_,_,rfl,zLF q⟩) hm) rfl) ?_
  refine zL ?_
  exact ⟨rfl,rfl,trivial⟩
 case hK=>
  rw [List.length_map,z4G h']
  refine Q0 ?_
  refine q28 O33 ?_
  refine Q13 ?_
  refine zB ?_
  exact ⟨⟨_,_,rfl,rfl,rfl⟩,rfl,trivial⟩
theorem zMC {a0} {a1} {a2} {r:(List Int)} (h:zAR a0 a1 a2=some r):GC Tryz.prog 33 [.d (eNorm.dv a0),.d (zW eI a1),.d (db a2)] [] [] [.row 2531] [(2531,.row 3 eI.size false (eI.all r))]:=by
 refine zCJ Tryz.func33 (by kernel_rfl) rfl (lq rfl) (lq rfl) fun w0 I0 hG0 p0=>?_
 unfold zAR at h
 refine Q0 ?_
 refine q89 ?_
 refine Q39 ?_
 refine yH ((zAT (lq rfl) G28 rfl rfl rfl rfl).data rfl) ?_
 have ⟨t12,ht12,h⟩:=bE h
 refine q8 (zFT ht12) ?_
 refine q16 G28 ?_
 refine Q52 ?_
 refine yH ((zAT (lq rfl) G28 rfl rfl rfl rfl).data rfl) ?_
 refine q0 ?_
 have ⟨t15,ht15,h⟩:=bE h
 refine kP rfl (zYY [(5,2515),(6,3015),(7,3515)] (zEF ht15) (lq rfl) (by decide) ⟨rfl,rfl,trivial⟩ rfl rfl trivial rfl rfl rfl (fun _=>rfl) rfl) ?_
 refine yEP ?_
 refine zL<|Q3 ?_
 refine zV (zCT (t:=8) 1008 3 eI.size (lq rfl) (lq rfl) rfl rfl) ?_
 refine Q4 ?_
 refine Q94 ?_
 have ⟨y1,hy1,h⟩:=bE h
 refine tl (.exit 0) ⟨[(3,.ptr 3 0),(8,.row 1008)],[(3,.box 28 [.d (zW eSpan t12.Classes),.d (zW eMapping t12.Decomp),.d (zW eRange t12.Excluded.Ranges)]),(1008,.row 3 eI.size false (eI.all y1))]⟩ ?_ ?_
 refine zD (fun x=>⟨[(3,.ptr 3 0),(7,.clo 61 [.ptr 2515 0,.d (.pt (eNorm.cells ({Classes:=t12.Classes,Decomp:=t12.Decomp,Excluded:=({Ranges:=t12.Excluded.Ranges}:Set)}:Norm))),.d (.pt [(db a2)]),.ptr 3015 0]),(8,.row 1008),(16,.d (zW eI a1)),(17,.d (di (a1.length:Int))),(18,.d (di x.1))],[(3,.box 28 [.d (zW eSpan t12.Classes),.d (zW eMapping t12.Decomp),.d (zW eRange t12.Excluded.Ranges)]),(1008,.row 3 eI.size false (eI.all x.2.1)),(2515,.box 94 [.row 3515]),(3015,.box 69 [.clo 61 [.ptr 2515 0,.d (.pt (eNorm.cells ({Classes:=t12.Classes,Decomp:=t12.Decomp,Excluded:=({Ranges:=t12.Excluded.Ranges}:Set)}:Norm))),.d (.pt [(db a2)]),.ptr 3015 0]]),(3515,.map (wS kI (eL eI) x.2.2))]⟩) hy1 (wc) ?_
 rintro ⟨v18,r1008,r3515⟩ sy1 p1
 replace p1:xK a1 t12 a2 v18 r1008 r3515=some sy1:=p1
 unfold xK at p1
 refine Q22 ?_
 refine yB p1 (fun p1=>?_) (fun p1=>?_)
 refine Q29 ?_
 have ⟨t20,ht20,p1⟩:=bE p1
 refine q11 yU ht20 ?_
 refine q35 O3 ht20 ?_
 refine Q1 ?_
 refine Q64 ?_
 refine yH (zE6 (lq rfl) rfl) ?_
 refine q0 ?_
 have ⟨t25,ht25,p1⟩:=bE p1
 refine kP rfl (zSE [(3001,2515),(3004,3015),(3120,3515)] (zC5 _ ht25) (lq rfl) (by decide) rfl ⟨rfl,rfl,rfl,rfl,rfl,trivial⟩ rfl rfl ⟨rfl,rfl,rfl,trivial⟩ rfl rfl rfl (fun _=>rfl) rfl) ?_
 have ⟨r1008_2,hr1008_2,p1⟩:=bE p1
 refine kP rfl (jU (en:=eI) (l:=r1008) (m:=t25.1) (lq rfl) yU rfl rfl rfl hr1008_2 (by decide) (by decide) rfl rfl) ?_
 refine Q13 ?_
 refine Q24 ?_
 cases p1
 exact wc
 refine zG ?_
 cases p1
 intro q;cases q
 exact zN (wc)
 refine Q0 ?_
 refine q51 zMX ?_
 refine q28 O22 ?_
 refine q10 ?_
 refine zIT (zG9 (t:=30) (lq rfl) rfl rfl) ?_ (by simp)
 have ⟨t31,ht31,h⟩:=bE h
 refine kP rfl (xR [(100,2531)] (zNG ht31) (lq rfl) (by decide) ⟨rfl,rfl,trivial⟩ rfl rfl trivial rfl rfl rfl (fun _=>rfl) rfl) ?_
 refine Q13 ?_
 cases h
 refine zB ?_
 exact ⟨⟨_,_,rfl,rfl,rfl⟩,⟨rfl,trivial⟩⟩
set_option maxHeartbeats 8000000 in
theorem wQ {a0 a1 a2 r} (h:xB a0 a1 a2=some r):zF Tryz.prog 12 [(eNorm.dv a0),(eCollation.dv a1),(zW eI a2)] [(zW eElement r)]:=by
 refine co Tryz.func12 ?_;intro _ _ _ _
 unfold xB at h
 refine yEW ?_
 refine Q16 ?_
 have ⟨t14,ht14,h⟩:=bE h
 have ⟨t16,ht16,h⟩:=bE h
 refine tl .normal ⟨[(2,.d (zW eI a2)),(3,.d (.pt (eNorm.cells a0))),(7,.ptr 2514 0)],[(2514,.box 108 [.d (zW eEntry t16.c.Entries),.d (zW eGroup t16.c.Groups),.d (di t16.c.Base),.d (di t16.c.Second),.d (di t16.c.Third),.row 3014,.d (di t16.longest),.d (zW eSpan t16.classes),.d (di t16.top)]),(3014,.map (wS zDD (eL eElement) t16.entries))]⟩ ?_ ?_
 refine zCX MX ?_
 refine xn [0,2] ?_
 refine q94 G32 ?_ ?_
 refine xn [1,2] ?_
 refine xb rfl (xR [(13,2514),(11,3014)] (vP ht14) (lq rfl) (by decide) ⟨rfl,trivial⟩ rfl rfl trivial rfl rfl rfl (fun _=>rfl) rfl) ?_ ?_
 refine xn [2] ?_
 refine q56 G28 ?_
 refine xn [3] ?_
 refine xd rfl (xR [(3000,2514),(3105,3014)] (jT ht16) (lq rfl) (by decide) ⟨rfl,rfl,trivial⟩ rfl rfl ⟨rfl,rfl,trivial⟩ rfl rfl rfl (fun _=>rfl) rfl) ?_
 refine xn [4] ?_
 refine xc rfl (zBS (lq rfl) rfl) ?_
 exact ae
 refine q56 G28 ?_
 refine xn [1] ?_
 refine xd rfl (xR [(13,2514),(11,3014)] (vP ht14) (lq rfl) (by decide) ⟨rfl,trivial⟩ rfl rfl trivial rfl rfl rfl (fun _=>rfl) rfl) ?_
 refine xn [3] ?_
 refine xd rfl (xR [(3000,2514),(3105,3014)] (jT ht16) (lq rfl) (by decide) ⟨rfl,rfl,trivial⟩ rfl rfl ⟨rfl,rfl,trivial⟩ rfl rfl rfl (fun _=>rfl) rfl) ?_
 refine xn [4] ?_
 refine xc rfl (zBS (lq rfl) rfl) ?_
 exact ae
 refine q56 G28 ?_
 refine xn [0] ?_
 refine q56 G32 ?_
 refine xn [1] ?_
 refine xd rfl (xR [(13,2514),(11,3014)] (vP ht14) (lq rfl) (by decide) ⟨rfl,trivial⟩ rfl rfl trivial rfl rfl rfl (fun _=>rfl) rfl) ?_
 refine xn [3] ?_
 refine xd rfl (xR [(3000,2514),(3105,3014)] (jT ht16) (lq rfl) (by decide) ⟨rfl,rfl,trivial⟩ rfl rfl ⟨rfl,rfl,trivial⟩ rfl rfl rfl (fun _=>rfl) rfl) ?_
 refine xn [4] ?_
 refine xc rfl (zBS (lq rfl) rfl) ?_
 exact ae
 refine zV (zET (bid:=2514) (off:=5) rfl rfl rfl) ?_
 refine zV (zY (t:=7) (lq rfl) rfl rfl rfl) ?_
 refine Q3 ?_
 refine zV (zCT (t:=8) 1008 64 eElement.size (lq rfl) (lq rfl) rfl rfl) ?_
 refine Q31 ?_
 refine q21 G28 ?_
 refine q0 ?_
 have ⟨t19,ht19,h⟩:=bE h
 refine kP rfl (xR [(2531,2519)] (zMC ht19) (lq rfl) (by decide) ⟨rfl,rfl,rfl,trivial⟩ rfl rfl trivial rfl rfl rfl (fun _=>rfl) rfl) ?_
 refine Q13 ?_
 refine zV (zES (id:=2519) rfl) ?_
 refine kT ?_
 have ⟨y1,hy1,h⟩:=bE h
 refine tl (.exit 0) ⟨[(8,.row 1008)],[(1008,.row 64 eElement.size false (eElement.all y1))]⟩ ?_ ?_
 refine zD (fun x=>⟨[(7,.d (.pt (eColltable_table.cells t16))),(8,.row 1008),(9,.row 2519)],[(1008,.row 64 eElement.size false (eElement.all x.1)),(2519,.win 3 eI.size 0 (eI.all x.2))]⟩) hy1 (wc) ?_
 rintro ⟨r1008,r2519⟩ sy1 p1
 replace p1:jM t16 r1008 r2519=some sy1:=p1
 unfold jM at p1
 refine Q31 ?_
 refine q10 ?_
 refine z8M yU ?_
 refine Q54 ?_
 refine yB p1 (fun p1=>?_) (fun p1=>?_)
 refine zP<|Q80 ?_
 refine q10 ?_
 have ⟨t26,ht26,p1⟩:=bE p1
 refine kP rfl (xR [(3001,2519)] (w7 ht26) (lq rfl) (by decide) ⟨rfl,rfl,trivial⟩ rfl rfl ⟨rfl,trivial⟩ rfl rfl rfl (fun _=>rfl) rfl) ?_
 refine yH (zMT (lq rfl) rfl) ?_
 refine z48 ?_
 refine z48 ?_
 refine z48 ?_
 refine q1 ?_
 refine q1 ?_
 refine Q39 ?_
 refine Q18 ?_
 have ⟨r1008_2,hr1008_2,p1⟩:=bE p1
 refine kP rfl (jU (en:=eElement) (l:=r1008) (m:=t26.2.1) (lq rfl) S39 rfl rfl rfl hr1008_2 (by decide) (by decide) rfl rfl) ?_
 refine Q13 ?_
 refine z5D ?_
 have ⟨r2519_3,hr2519_3,p1⟩:=bE p1
 refine kP rfl (z4A (en:=eI) (l:=t26.2.2.2) (lq rfl) yU rfl rfl rfl hr2519_3 (Nat.le_refl _) rfl) ?_
 refine Q13 ?_
 cases p1
 exact wc
 refine zG ?_
 cases p1
 intro q;cases q
 exact zN (wc)
 refine Q61 ?_
 cases h
 refine zB ?_
 exact zH rfl
set_option maxHeartbeats 8000000 in
set_option maxRecDepth 40000 in
theorem law43_ColltableJoins_c {a0 a1 r} (h:uO a0 a1=some r):zF Tryz.prog 3 [(eUnicodetextlaw43_Case.dv a0),(zW eI a1)] [(db r)]:=by
 refine co Tryz.func3 ?_;intro _ _ _ _
 unfold uO at h
 refine Q0 ?_
 refine yH (zKQ (size:=9) (lq rfl) rfl rfl) ?_
 refine Q53 ?_
 refine q21 G35 ?_
 have ⟨t11,ht11,h⟩:=bE h
 refine q8 (zVL ht11) ?_
 refine q32 ?_
 have ⟨b13,hb13,h⟩:=bE h
 refine yH ((zC (lq rfl) rfl).bool (oi hb13)) ?_
 refine q38 (.d (zW eI a1)) ?_
 refine q64 (.d (di (a1.length:Int))) yU ?_
 refine zXR (.d (db (decide ((a1.length:Int)=0)))) ?_
 refine q18 ?_
 have ⟨b18,hb18,h⟩:=bE h
 refine yH ((zC (lq rfl) rfl).bool (oi hb18)) ?_
 refine q38 (.d (zW eI a1)) ?_
 refine q64 (.d (di (a1.length:Int))) yU ?_
 refine q43 (.d (db (decide (12 < (a1.length:Int))))) ?_
 refine Q37 ?_
 refine yB h (fun h=>?_) (fun h=>?_)
 refine Q0 ?_
 have ⟨t23,ht23,h⟩:=bE h
 refine q8 (zDU ht23) ?_
 refine Q1 ?_
 cases h
 refine zB ?_
 exact zH rfl
 refine Q50 ?_
 refine q5 zVA ?_
 refine q96 G32 ?_
 have ⟨t26,ht26,h⟩:=bE h
 refine q8 (zSP ht26) ?_
 refine yB6 ?_
 refine q16 G32 ?_
 refine zL ?_
 refine zV (zY (t:=5) (lq rfl) rfl rfl rfl) ?_
 refine Q32 ?_
 have ⟨y1,hy1,h⟩:=bE h
 refine zK y1 (.exit 0) (fun y1=>⟨[(1,.d (zW eI a1)),(2,.d (.pt (eUnicodetextlaw43_Case.cells a0)))],[]⟩) .ret (fun y1=>⟨[(4,.d (db y1))],[]⟩) ?_ ?_ ?_
 refine zD (fun x=>⟨[(1,.d (zW eI a1)),(2,.d (.pt (eUnicodetextlaw43_Case.cells a0))),(5,.d (.pt (eCollation.cells t26))),(6,.d (di x))],[]⟩) hy1 (wc) ?_
 rintro v6 sy1 p1
 replace p1:jB t26 v6=some sy1:=p1
 unfold jB at p1
 refine Q4 ?_
 refine z5E ?_
 refine Q6 ?_
 refine yB p1 (fun p1=>?_) (fun p1=>?_)
 refine Q29 ?_
 refine Q70 ?_
 refine q0 ?_
 have ⟨t37,ht37,p1⟩:=bE p1
 refine q11 S29 ht37 ?_
 refine q46 zFP ?_
 refine yEQ O33 ht37 ?_
 refine q4 yU ?_
 refine Q54 ?_
 refine yB p1 (fun p1=>?_) (fun p1=>?_)
 refine Q0 ?_
 have ⟨t42,ht42,p1⟩:=bE p1
 refine q8 (zDU ht42) ?_
 refine Q1 ?_
 refine zB ?_
 cases p1
 intro q;cases q
 exact ⟨rfl,wc⟩
 refine Q28 ?_
 cases p1
 exact wc
 refine zG ?_
 cases p1
 intro q;cases q
 exact ⟨rfl,wc⟩
 rintro y1 rfl
 replace h:=eL h
 refine kL ?_
 refine z7 MX rfl ?_
 refine q19 zRJ ?_
 refine q61 G28 ?_
 refine q7 ?_
 have ⟨t46,ht46,h⟩:=bE h
 refine q23 yU ht46 ?_
 refine q67 O3 ht46 ?_
 have ⟨t48,ht48,h⟩:=bE h
 refine q22 (zMA ht48) ?_
 refine Q51 ?_
 refine kL<|kL ?_
 refine z7 MX rfl ?_
 refine q7 ?_
 refine yB3 yU ?_
 refine vB (zGQ (lq rfl) rfl rfl) ?_
 have ⟨b52,hb52,h⟩:=bE h
 refine vB ((zC (lq rfl) rfl).bool (oi hb52)) ?_
 refine daf (.ip (eUnicodetextlaw43_Case.cells a0) (0+0)) rfl (fun hb=>by subst hb;exact xM (lq rfl) zRJ rfl) ?_
 refine daf (.d (eNorm.dv a0.N)) rfl (fun hb=>by subst hb;exact zJ (lq rfl) G28 rfl rfl rfl) ?_
 have ⟨t55,ht55,h⟩:=bE h
 refine daf (.d (eNorm.dv t55)) rfl (fun hb=>by subst hb;exact xV (lq rfl) rfl (zST ht55)) ?_
 refine daf (.d (zW eSpan t55.Classes)) rfl (fun hb=>by subst hb;exact z7K (lq rfl) zMX O22 rfl rfl) ?_
 refine q50 (.d (zW eI t48)) ?_
 have ⟨t58,ht58,h⟩:=bE h
 refine daf (.ip (eI.all t48) ((0:Int).toNat*eI.size)) rfl (fun hb=>by subst hb;exact kM (en:=eI) (lq rfl) yU rfl rfl ht58) ?_
 refine daf (.d (di t58)) rfl (fun hb=>by subst hb;exact zZ (en:=eI) (l:=t48) (i:=(0:Int)) (v:=t58) (off:=0) (lq rfl) O3 rfl ht58 rfl) ?_
 have ⟨t60,ht60,h⟩:=bE h
 refine daf (.d (db t60)) rfl (fun hb=>by subst hb;exact xV (lq rfl) rfl (zNF ht60)) ?_
 refine daf (.d (db (!t60))) rfl (fun hb=>by subst hb;exact zN9 (lq rfl) rfl) ?_
 refine q95 ?_
 refine xQ ?_
 refine yB h (fun h=>?_) (fun h=>?_)
 refine Q0 ?_
 have ⟨t63,ht63,h⟩:=bE h
 refine q8 (zDU ht63) ?_
 refine Q1 ?_
 cases h
 refine zB ?_
 exact zH rfl
 refine Q50 ?_
 refine q85 yU ?_
 refine q5 z4S ?_
 refine q6 O33 ?_
 have ⟨r64_2,hr64_2,h⟩:=bE h
 refine kP rfl (jU (en:=eI) (l:=[]) (m:=a0.Text) (lq rfl) yU rfl rfl rfl hr64_2 (by decide) (by decide) rfl rfl) ?_
 refine q0 ?_
 have ⟨r64_3,hr64_3,h⟩:=bE h
 refine kP rfl (jU (en:=eI) (l:=r64_2) (m:=a1) (lq rfl) yU rfl rfl rfl hr64_3 (by decide) (by decide) rfl rfl) ?_
 refine Q13 ?_
 refine kL ?_
 have ⟨t77,ht77,h⟩:=bE h
 have ⟨r70_13x8,hr70_13x8,h⟩:=bE h
 have ⟨t84,ht84,h⟩:=bE h
 have ⟨r70_13x15,hr70_13x15,h⟩:=bE h
 refine tl .normal ⟨[(2,.d (.pt (eUnicodetextlaw43_Case.cells a0))),(8,.row 64),(9,.row 70)],[(64,.row 3 eI.size false (eI.all r64_3)),(70,.row 64 eElement.size false (eElement.all r70_13x15))]⟩ ?_ ?_
 refine zCX MX ?_
 refine zDZ (i:=1) rfl (lq rfl) zRJ rfl rfl rfl (by kernel_rfl) (by kernel_rfl) ?_
 refine zDZ (i:=3) rfl (lq rfl) zVA rfl rfl rfl (by kernel_rfl) (by kernel_rfl) ?_
 refine zDZ (i:=5) rfl (lq rfl) z4S rfl rfl rfl (by kernel_rfl) (by kernel_rfl) ?_
 refine zDZ (i:=9) rfl (lq rfl) zRJ rfl rfl rfl (by kernel_rfl) (by kernel_rfl) ?_
 refine zDZ (i:=11) rfl (lq rfl) zVA rfl rfl rfl (by kernel_rfl) (by kernel_rfl) ?_
 refine xm 13 ?_
 refine yD7 ?_
 refine zK2 2 72 (zK1 (x:= .tmp 71) (n:=3) rfl rfl) (lq rfl) ?_ rfl rfl
 refine zK2 4 74 (zK1 (x:= .tmp 73) (n:=5) rfl rfl) (lq rfl) ?_ rfl rfl
 refine zK2 6 76 (z72 (x:= .tmp 75) rfl rfl) (lq rfl) ?_ rfl rfl
 refine zK2 10 80 (zK1 (x:= .tmp 79) (n:=3) rfl rfl) (lq rfl) ?_ rfl rfl
 refine zK2 12 82 (zK1 (x:= .tmp 81) (n:=5) rfl rfl) (lq rfl) ?_ rfl rfl
 refine zOU [0,7] (fa (ff rfl rfl (zJ (lq rfl) G32 rfl rfl rfl) rfl)<|fa (ff rfl rfl (zJ (lq rfl) G28 rfl rfl rfl) rfl)<|fa (ff rfl rfl (kD (lq rfl) O33 rfl rfl) rfl)<|fa (ff rfl rfl (zJ (lq rfl) G32 rfl rfl rfl) rfl)<|fa (ff rfl rfl (zJ (lq rfl) G28 rfl rfl rfl) rfl)<|fz) ?_ rfl (by kernel_rfl) (by kernel_rfl) (by kernel_rfl) rfl
 refine z1H rfl rfl (zEJ (lq rfl) S39 rfl rfl rfl rfl (by decide) rfl) ?_ ?_
 refine zOU [7] (fa (ff rfl rfl (zJ (lq rfl) G32 rfl rfl rfl) rfl)<|fa (ff rfl rfl (zJ (lq rfl) G28 rfl rfl rfl) rfl)<|fa (ff rfl rfl (kD (lq rfl) O33 rfl rfl) rfl)<|fa (ff rfl rfl (zJ (lq rfl) G32 rfl rfl rfl) rfl)<|fa (ff rfl rfl (zJ (lq rfl) G28 rfl rfl rfl) rfl)<|fz) ?_ rfl (by kernel_rfl) (by kernel_rfl) (by kernel_rfl) rfl
 refine z1G rfl rfl (xV (lq rfl) rfl (wQ ht77)) ?_ trivial
 refine zOU [8] (fa (ff rfl rfl (zJ (lq rfl) G32 rfl rfl rfl) rfl)<|fa (ff rfl rfl (zJ (lq rfl) G28 rfl rfl rfl) rfl)<|fa (ff rfl rfl (kD (lq rfl) O33 rfl rfl) rfl)<|fa (ff rfl rfl (zJ (lq rfl) G32 rfl rfl rfl) rfl)<|fa (ff rfl rfl (zJ (lq rfl) G28 rfl rfl rfl) rfl)<|fz) ?_ rfl (by kernel_rfl) (by kernel_rfl) (by kernel_rfl) rfl
 refine z1H rfl rfl (jU (en:=eElement) (l:=[]) (m:=t77) (lq rfl) S39 rfl rfl rfl hr70_13x8 (by decide) (by decide) rfl rfl) ?_ trivial
 refine zOU [14] (fa (ff rfl rfl (zJ (lq rfl) G32 rfl rfl rfl) rfl)<|fa (ff rfl rfl (zJ (lq rfl) G28 rfl rfl rfl) rfl)<|fa (ff rfl rfl (kD (lq rfl) O33 rfl rfl) rfl)<|fa (ff rfl rfl (zJ (lq rfl) G32 rfl rfl rfl) rfl)<|fa (ff rfl rfl (zJ (lq rfl) G28 rfl rfl rfl) rfl)<|fz) ?_ rfl (by kernel_rfl) (by kernel_rfl) (by kernel_rfl) rfl
 refine z1G rfl rfl (xV (lq rfl) rfl (wQ ht84)) ?_ trivial
 refine zOU [15] (fa (ff rfl rfl (zJ (lq rfl) G32 rfl rfl rfl) rfl)<|fa (ff rfl rfl (zJ (lq rfl) G28 rfl rfl rfl) rfl)<|fa (ff rfl rfl (kD (lq rfl) O33 rfl rfl) rfl)<|fa (ff rfl rfl (zJ (lq rfl) G32 rfl rfl rfl) rfl)<|fa (ff rfl rfl (zJ (lq rfl) G28 rfl rfl rfl) rfl)<|fz) ?_ rfl (by kernel_rfl) (by kernel_rfl) (by kernel_rfl) rfl
 refine z1H rfl rfl (jU (en:=eElement) (l:=r70_13x8) (m:=t84) (lq rfl) S39 rfl rfl rfl hr70_13x15 (by decide) (by decide) rfl rfl) ?_ trivial
 refine zOU [16] (fa (ff rfl rfl (zJ (lq rfl) G32 rfl rfl rfl) rfl)<|fa (ff rfl rfl (zJ (lq rfl) G28 rfl rfl rfl) rfl)<|fa (ff rfl rfl (kD (lq rfl) O33 rfl rfl) rfl)<|fa (ff rfl rfl (zJ (lq rfl) G32 rfl rfl rfl) rfl)<|fa (ff rfl rfl (zJ (lq rfl) G28 rfl rfl rfl) rfl)<|fz) ?_ rfl (by kernel_rfl) (by kernel_rfl) (by kernel_rfl) rfl
 refine z1G rfl rfl (zEP (lq rfl) rfl) ?_ trivial
 refine z4K (fa (ff rfl rfl (zJ (lq rfl) G32 rfl rfl rfl) rfl)<|fa (ff rfl rfl (zJ (lq rfl) G28 rfl rfl rfl) rfl)<|fa (ff rfl rfl (kD (lq rfl) O33 rfl rfl) rfl)<|fa (ff rfl rfl (zJ (lq rfl) G32 rfl rfl rfl) rfl)<|fa (ff rfl rfl (zJ (lq rfl) G28 rfl rfl rfl) rfl)<|fz) ?_ rfl (by kernel_rfl) (by kernel_rfl) (by kernel_rfl)
 exact zN (wc)
 refine z1G rfl rfl (xV (lq rfl) rfl (wQ ht77)) ?_ trivial
 refine zOU [0] (fa (ff rfl rfl (zJ (lq rfl) G32 rfl rfl rfl) rfl)<|fa (ff rfl rfl (zJ (lq rfl) G28 rfl rfl rfl) rfl)<|fa (ff rfl rfl (kD (lq rfl) O33 rfl rfl) rfl)<|fa (ff rfl rfl (zJ (lq rfl) G32 rfl rfl rfl) rfl)<|fa (ff rfl rfl (zJ (lq rfl) G28 rfl rfl rfl) rfl)<|fz) ?_ rfl (by kernel_rfl) (by kernel_rfl) (by kernel_rfl) rfl
 refine z1H rfl rfl (zEJ (lq rfl) S39 rfl rfl rfl rfl (by decide) rfl) ?_ trivial
 refine zOU [8] (fa (ff rfl rfl (zJ (lq rfl) G32 rfl rfl rfl) rfl)<|fa (ff rfl rfl (zJ (lq rfl) G28 rfl rfl rfl) rfl)<|fa (ff rfl rfl (kD (lq rfl) O33 rfl rfl) rfl)<|fa (ff rfl rfl (zJ (lq rfl) G32 rfl rfl rfl) rfl)<|fa (ff rfl rfl (zJ (lq rfl) G28 rfl rfl rfl) rfl)<|fz) ?_ rfl (by kernel_rfl) (by kernel_rfl) (by kernel_rfl) rfl
 refine z1H rfl rfl (jU (en:=eElement) (l:=[]) (m:=t77) (lq rfl) S39 rfl rfl rfl hr70_13x8 (by decide) (by decide) rfl rfl) ?_ trivial
 refine zOU [14] (fa (ff rfl rfl (zJ (lq rfl) G32 rfl rfl rfl) rfl)<|fa (ff rfl rfl (zJ (lq rfl) G28 rfl rfl rfl) rfl)<|fa (ff rfl rfl (kD (lq rfl) O33 rfl rfl) rfl)<|fa (ff rfl rfl (zJ (lq rfl) G32 rfl rfl rfl) rfl)<|fa (ff rfl rfl (zJ (lq rfl) G28 rfl rfl rfl) rfl)<|fz) ?_ rfl (by kernel_rfl) (by kernel_rfl) (by kernel_rfl) rfl
 refine z1G rfl rfl (xV (lq rfl) rfl (wQ ht84)) ?_ trivial
 refine zOU [15] (fa (ff rfl rfl (zJ (lq rfl) G32 rfl rfl rfl) rfl)<|fa (ff rfl rfl (zJ (lq rfl) G28 rfl rfl rfl) rfl)<|fa (ff rfl rfl (kD (lq rfl) O33 rfl rfl) rfl)<|fa (ff rfl rfl (zJ (lq rfl) G32 rfl rfl rfl) rfl)<|fa (ff rfl rfl (zJ (lq rfl) G28 rfl rfl rfl) rfl)<|fz) ?_ rfl (by kernel_rfl) (by kernel_rfl) (by kernel_rfl) rfl
 refine z1H rfl rfl (jU (en:=eElement) (l:=r70_13x8) (m:=t84) (lq rfl) S39 rfl rfl rfl hr70_13x15 (by decide) (by decide) rfl rfl) ?_ trivial
 refine zOU [16] (fa (ff rfl rfl (zJ (lq rfl) G32 rfl rfl rfl) rfl)<|fa (ff rfl rfl (zJ (lq rfl) G28 rfl rfl rfl) rfl)<|fa (ff rfl rfl (kD (lq rfl) O33 rfl rfl) rfl)<|fa (ff rfl rfl (zJ (lq rfl) G32 rfl rfl rfl) rfl)<|fa (ff rfl rfl (zJ (lq rfl) G28 rfl rfl rfl) rfl)<|fz) ?_ rfl (by kernel_rfl) (by kernel_rfl) (by kernel_rfl) rfl
 refine z1G rfl rfl (zEP (lq rfl) rfl) ?_ trivial
 refine z4K (fa (ff rfl rfl (zJ (lq rfl) G32 rfl rfl rfl) rfl)<|fa (ff rfl rfl (zJ (lq rfl) G28 rfl rfl rfl) rfl)<|fa (ff rfl rfl (kD (lq rfl) O33 rfl rfl) rfl)<|fa (ff rfl rfl (zJ (lq rfl) G32 rfl rfl rfl) rfl)<|fa (ff rfl rfl (zJ (lq rfl) G28 rfl rfl rfl) rfl)<|fz) ?_ rfl (by kernel_rfl) (by kernel_rfl) (by kernel_rfl)
 exact zN (wc)
 refine Q0 ?_
 refine q5 zRJ ?_
 refine q96 G28 ?_
 refine q5 zVA ?_
 refine q96 G32 ?_
 refine q10 ?_
 have ⟨t91,ht91,h⟩:=bE h
 refine z8L (wQ ht91) ?_
 refine q10 ?_
 have ⟨t93,ht93,h⟩:=bE h
 refine z8L (zLA ht93) ?_
 have ⟨b94,hb94,h⟩:=bE h
 refine yH ((zC (lq rfl) rfl).bool (oi hb94)) ?_
 have ⟨t95,ht95,h⟩:=bE h
 refine sqt (.d (db t95)) rfl (fun hb=>by subst hb;exact xV (lq rfl) rfl (zDU ht95)) ?_
 refine Q41 ?_
 cases h
 refine zB ?_
 exact zH rfl
 rintro y1 rfl
 replace h:=eR h
 cases h
 exact zH rfl
end Go.Proofs.YtjcbhabmkcdcnaaGreatDoor.Walk


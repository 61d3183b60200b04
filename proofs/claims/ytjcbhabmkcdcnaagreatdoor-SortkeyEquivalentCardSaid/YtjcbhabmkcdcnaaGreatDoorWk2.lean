/- Each function of the program answers as its plain counterpart does, where that answers. Conditions: none. -/
import Derived.Test.YtjcbhabmkcdcnaaGreatDoorMir
import Derived.Test.YtjcbhabmkcdcnaaGreatDoorLa3
import Derived.Test.YtjcbhabmkcdcnaaGreatDoorProg
import Derived.Test.YtjcbhabmkcdcnaaGreatDoorWk1
set_option linter.unusedSimpArgs false
set_option linter.unusedVariables false
set_option linter.unnecessarySimpa false
namespace Go.Proofs.YtjcbhabmkcdcnaaGreatDoor.Walk
open Go.AV Go.M Go.RowKit Go.Proofs
theorem zC7:∀(n:Nat) {a0:Int} {a1:(List (Int×(List Int)))} {a2:Norm} {a3:Bool} {r:(List Int)×(List (Int×(List Int)))},yU n a0 a1 a2 a3=some r→GC Tryz.prog 61 [.d (di a0),.ptr 3001 0,.d (.pt (eNorm.cells a2)),.d (.pt [(db a3)]),.ptr 3004 0] [(3001,.box 94 [.row 3120]),(3004,.box 69 [.clo 61 [.ptr 3001 0,.d (.pt (eNorm.cells a2)),.d (.pt [(db a3)]),.ptr 3004 0]]),(3120,.map (wE kI (eL eI) a1))] [3001,3004,3120] [.d (zT eI r.1)] [(3001,.box 94 [.row 3120]),(3004,.box 69 [.clo 61 [.ptr 3001 0,.d (.pt (eNorm.cells a2)),.d (.pt [(db a3)]),.ptr 3004 0]]),(3120,.map (wE kI (eL eI) r.2))]:=by
 intro n
 induction n with
 | zero=>intro a0 a1 a2 a3 r h;cases h
 | succ n ih=>
 intro a0 a1 a2 a3 r h
 replace h:xB (yU n) a0 a1 a2 a3=some r:=h
 generalize yU n=rec at h ih
 refine zCE Tryz.func61 (by kernel_rfl) rfl (lq rfl) (lq rfl) fun w0 I0 hG0 p0=>?_
 unfold xB at h
 refine Q3 ?_
 refine Q31 ?_
 refine q28 O94 ?_
 refine q0 ?_
 refine yG (zQ6 (kv:=kI) (ev:=(eL eI)) (mp:=a1) (k:=a0) (zero:=[]) (lq rfl) M94 K3 rfl rfl rfl (fun _ _=> .nil _ _ _)) ?_
 refine Q78 ?_
 refine z14 ?_
 refine zJ ?_
 refine z7 h (fun h=>?_) (fun h=>?_)
 refine Q35 ?_
 cases h
 refine zB ?_
 exact ⟨⟨_,_,rfl,rfl,rfl⟩,⟨rfl,rfl,rfl,trivial⟩⟩
 refine Q50 ?_
 refine q21 G28 ?_
 refine q0 ?_
 refine q92 O4 ?_
 have ⟨t26,ht26,h⟩:=bE h
 refine q8 (zGY ht26) ?_
 refine Q78 ?_
 refine zXT ?_
 refine Q42 ?_
 refine z7 h (fun h=>?_) (fun h=>?_)
 refine Q2 ?_
 refine q24 yI ?_
 refine Q1 ?_
 cases h
 refine zB ?_
 exact ⟨⟨_,_,rfl,rfl,rfl⟩,⟨rfl,rfl,rfl,trivial⟩⟩
 refine Q58 ?_
 refine zP (uN (t:=11) 1011 3 eI.size (lq rfl) (lq rfl) rfl rfl) ?_
 refine Q4 ?_
 refine Q94 ?_
 have ⟨y1,hy1,h⟩:=bE h
 refine tl (.exit 0) ⟨[(0,.d (di a0)),(1,.ptr 3001 0),(4,.ptr 3004 0),(11,.row 1011)],[(1011,.row 3 eI.size false (eI.all y1.1)),(3001,.box 94 [.row 3120]),(3004,.box 69 [.clo 61 [.ptr 3001 0,.d (.pt (eNorm.cells a2)),.d (.pt [(db a3)]),.ptr 3004 0]]),(3120,.map (wE kI (eL eI) y1.2))]⟩ ?_ ?_
 refine zD (fun x=>⟨[(0,.d (di a0)),(1,.ptr 3001 0),(4,.ptr 3004 0),(11,.row 1011),(33,.d (zT eI t26.1)),(34,.d (di (t26.1.length:Int))),(35,.d (di x.1))],[(1011,.row 3 eI.size false (eI.all x.2.1)),(3001,.box 94 [.row 3120]),(3004,.box 69 [.clo 61 [.ptr 3001 0,.d (.pt (eNorm.cells a2)),.d (.pt [(db a3)]),.ptr 3004 0]]),(3120,.map (wE kI (eL eI) x.2.2))]⟩) hy1 (wc) ?_
 rintro ⟨v35,r1011,r3120⟩ sy1 p1
 replace p1:kO t26 rec a2 a3 v35 r1011 r3120=some sy1:=p1
 unfold kO at p1
 refine Q22 ?_
 refine z7 p1 (fun p1=>?_) (fun p1=>?_)
 refine Q29 ?_
 have ⟨t37,ht37,p1⟩:=bE p1
 refine q11 yI ht37 ?_
 refine q35 O3 ht37 ?_
 refine Q1 ?_
 refine Q64 ?_
 refine q28 O69 ?_
 refine q0 ?_
 have ⟨t42,ht42,p1⟩:=bE p1
 refine yR rfl (zU0 [(3001,3001),(3004,3004),(3120,3120)] (ih ht42) (lq rfl) (by decide) rfl ⟨rfl,rfl,rfl,rfl,rfl,trivial⟩ rfl rfl ⟨rfl,rfl,rfl,trivial⟩ rfl rfl rfl rfl) ?_
 have ⟨r1011_2,hr1011_2,p1⟩:=bE p1
 refine yR rfl (kW (en:=eI) (l:=r1011) (m:=t42.1) (lq rfl) yI rfl rfl rfl hr1011_2 (by decide) (by decide) rfl rfl) ?_
 refine Q13 ?_
 refine Q24 ?_
 cases p1
 exact wc
 refine zF ?_
 cases p1
 intro q;cases q
 exact zH (wc)
 refine Q0 ?_
 refine q28 O94 ?_
 refine q0 ?_
 refine q10 ?_
 refine zG7 (zDK (t:=47) (lq rfl) rfl rfl) ?_ (by simp)
 refine z8U M94 K3 ?_
 refine zJ<|Q61 ?_
 refine zP (zDK (t:=6) (lq rfl) rfl rfl) ?_
 cases h
 refine zB ?_
 exact ⟨⟨_,_,rfl,rfl,rfl⟩,⟨rfl,rfl,rfl,trivial⟩⟩
theorem zEH {a0} {a1} {r:Unit} (h:zAZ a0 a1=some r):GCA Tryz.prog 27 [.d (eNorm.dv a0),.d (db a1)] [] [] (.clo 61 [.ptr 5 0,.d (.pt (eNorm.cells a0)),.d (.pt [(db a1)]),.ptr 6 0]) [(5,.box 94 [.row 7]),(6,.box 69 [.clo 61 [.ptr 5 0,.d (.pt (eNorm.cells a0)),.d (.pt [(db a1)]),.ptr 6 0]]),(7,.map (wE kI (eL eI) []))]:=by
 refine z3P Tryz.func27 (by kernel_rfl) rfl (lq rfl) (lq rfl) rfl fun w0 I0 hG0 p0=>?_
 unfold zAZ at h
 refine Q40 ?_
 refine q63 ?_
 refine Q39 ?_
 refine z4X ?_
 refine yR rfl (kB (zs:=[(.map none)]) (lq rfl) (by kernel_rfl) rfl rfl) ?_
 refine q93 O94 ?_
 refine Q52 ?_
 refine yR rfl (kB (zs:=[.nilFunc]) (lq rfl) (by kernel_rfl) rfl rfl) ?_
 refine Q52 ?_
 refine yG (zL2 (cs:=[.ptr 5 0,.d (.pt (eNorm.cells a0)),.d (.pt [(db a1)]),.ptr 6 0]) (lq rfl) ⟨_,_,rfl,rfl,⟨_,_,rfl,rfl,⟨_,_,rfl,rfl,⟨_,_,rfl,rfl,rfl⟩⟩⟩⟩) ?_
 refine yR rfl (zIN O69 rfl rfl (lq rfl) rfl rfl rfl rfl) ?_
 refine Q52 ?_
 refine q28 O69 ?_
 refine z47 ?_
 refine zJ ?_
 cases h
 refine zB ?_
 exact ⟨rfl,⟨rfl,rfl,rfl,trivial⟩⟩
theorem zO1 {r} (h:zEW=some r):zG Tryz.prog 99 [] [(zT eRange r)]:=by
 refine co Tryz.func99 ?_;intro _ _ _ _
 unfold zEW at h
 refine Q3 ?_
 refine Q0 ?_
 refine q48 zU4 ?_
 refine q48 zU4 ?_
 refine q48 zU4 ?_
 refine q48 zU4 ?_
 refine q24 S24 ?_
 refine Q1 ?_
 cases h
 refine zB ?_
 exact zI rfl
theorem zJW {a0 r} (h:zC0 a0=some r):zG Tryz.prog 64 [(zT eSpan a0)] [(di r)]:=by
 refine co Tryz.func64 ?_;intro _ _ _ _
 unfold zC0 at h
 refine Q74 ?_
 have ⟨y1,hy1,h⟩:=bE h
 refine zR y1 (.exit 0) (fun y1=>⟨[(0,.d (zT eSpan a0))],[]⟩) .ret (fun y1=>⟨[(2,.d (di y1))],[]⟩) ?_ ?_ ?_
 refine zD (fun x=>⟨[(0,.d (zT eSpan a0)),(3,.d (di x))],[]⟩) hy1 (wc) ?_
 rintro v3 sy1 p1
 replace p1:zAL a0 v3=some sy1:=p1
 unfold zAL at p1
 refine Q12 ?_
 refine q4 S22 ?_
 refine Q6 ?_
 refine z7 p1 (fun p1=>?_) (fun p1=>?_)
 refine Q65 ?_
 refine yD MX rfl ?_
 refine Q27 ?_
 have ⟨t16,ht16,p1⟩:=bE p1
 refine q23 S22 ht16 ?_
 refine q52 zGU ?_
 refine u6 (z9 (en:=eSpan) (l:=a0) (i:=v3) (v:=t16) (off:=0) (lq rfl) O3 rfl ht16 rfl) ?_
 have ⟨t19,ht19,p1⟩:=bE p1
 refine q22 (zBG ht19) ?_
 refine z82 ?_
 have ⟨b21,hb21,p1⟩:=bE p1
 refine u6 ((zC (lq rfl) rfl).bool (oi hb21)) ?_
 refine q50 (.d (zT eSpan a0)) ?_
 refine q50 (.d (di v3)) ?_
 have ⟨t24,ht24,p1⟩:=bE p1
 refine daf (.ip (eSpan.all a0) (v3.toNat*eSpan.size)) rfl (fun hb=>by subst hb;exact kV (en:=eSpan) (lq rfl) S22 rfl rfl ht24) ?_
 refine q82 (.ip (eSpan.all a0) (v3.toNat*eSpan.size+1)) zGV ?_
 refine daf (.d (di t24.Hi)) rfl (fun hb=>by subst hb;exact z9 (en:=eSpan) (l:=a0) (i:=v3) (v:=t24) (off:=1) (lq rfl) O3 rfl ht24 rfl) ?_
 have ⟨t27,ht27,p1⟩:=bE p1
 refine daf (.d (db t27)) rfl (fun hb=>by subst hb;exact zBH (lq rfl) rfl (zBG ht27)) ?_
 refine daf (.d (db (!t27))) rfl (fun hb=>by subst hb;exact zQN (lq rfl) rfl) ?_
 refine q95 ?_
 have ⟨b30,hb30,p1⟩:=bE p1
 refine u6 ((zC (lq rfl) rfl).bool (oi hb30)) ?_
 refine q50 (.d (zT eSpan a0)) ?_
 refine q50 (.d (di v3)) ?_
 have ⟨t33,ht33,p1⟩:=bE p1
 refine daf (.ip (eSpan.all a0) (v3.toNat*eSpan.size)) rfl (fun hb=>by subst hb;exact kV (en:=eSpan) (lq rfl) S22 rfl rfl ht33) ?_
 refine q82 (.ip (eSpan.all a0) (v3.toNat*eSpan.size+0)) zGU ?_
 refine daf (.d (di t33.Lo)) rfl (fun hb=>by subst hb;exact z9 (en:=eSpan) (l:=a0) (i:=v3) (v:=t33) (off:=0) (lq rfl) O3 rfl ht33 rfl) ?_
 refine q50 (.d (zT eSpan a0)) ?_
 refine q50 (.d (di v3)) ?_
 have ⟨t38,ht38,p1⟩:=bE p1
 refine daf (.ip (eSpan.all a0) (v3.toNat*eSpan.size)) rfl (fun hb=>by subst hb;exact kV (en:=eSpan) (lq rfl) S22 rfl rfl ht38) ?_
 refine q82 (.ip (eSpan.all a0) (v3.toNat*eSpan.size+1)) zGV ?_
 refine daf (.d (di t38.Hi)) rfl (fun hb=>by subst hb;exact z9 (en:=eSpan) (l:=a0) (i:=v3) (v:=t38) (off:=1) (lq rfl) O3 rfl ht38 rfl) ?_
 refine daf (.d (db (decide (t38.Hi < t33.Lo)))) rfl (fun hb=>by subst hb;exact zOJ (lq rfl) rfl rfl) ?_
 refine q95 ?_
 have ⟨b43,hb43,p1⟩:=bE p1
 refine u6 ((zC (lq rfl) rfl).bool (oi hb43)) ?_
 refine q50 (.d (zT eSpan a0)) ?_
 refine q50 (.d (di v3)) ?_
 have ⟨t46,ht46,p1⟩:=bE p1
 refine daf (.ip (eSpan.all a0) (v3.toNat*eSpan.size)) rfl (fun hb=>by subst hb;exact kV (en:=eSpan) (lq rfl) S22 rfl rfl ht46) ?_
 refine q82 (.ip (eSpan.all a0) (v3.toNat*eSpan.size+2)) zHT ?_
 refine daf (.d (di t46.Value)) rfl (fun hb=>by subst hb;exact z9 (en:=eSpan) (l:=a0) (i:=v3) (v:=t46) (off:=2) (lq rfl) O3 rfl ht46 rfl) ?_
 refine daf (.d (db (decide (t46.Value < 1)))) rfl (fun hb=>by subst hb;exact zML (lq rfl) rfl rfl) ?_
 refine q95 ?_
 have ⟨b51,hb51,p1⟩:=bE p1
 refine u6 ((zC (lq rfl) rfl).bool (oi hb51)) ?_
 refine q50 (.d (zT eSpan a0)) ?_
 refine q50 (.d (di v3)) ?_
 have ⟨t54,ht54,p1⟩:=bE p1
 refine daf (.ip (eSpan.all a0) (v3.toNat*eSpan.size)) rfl (fun hb=>by subst hb;exact kV (en:=eSpan) (lq rfl) S22 rfl rfl ht54) ?_
 refine q82 (.ip (eSpan.all a0) (v3.toNat*eSpan.size+2)) zHT ?_
 refine daf (.d (di t54.Value)) rfl (fun hb=>by subst hb;exact z9 (en:=eSpan) (l:=a0) (i:=v3) (v:=t54) (off:=2) (lq rfl) O3 rfl ht54 rfl) ?_
 refine daf (.d (db (decide (254 < t54.Value)))) rfl (fun hb=>by subst hb;exact zOJ (lq rfl) rfl rfl) ?_
 refine q95 ?_
 refine vP ?_
 refine z7 p1 (fun p1=>?_) (fun p1=>?_)
 refine Q17 ?_
 cases p1
 intro q;cases q
 exact ⟨rfl,wc⟩
 refine Q28 ?_
 cases p1
 exact wc
 refine zF ?_
 cases p1
 intro q;cases q
 exact ⟨rfl,wc⟩
 rintro y1 rfl
 replace h:=eL h
 refine Q32 ?_
 have ⟨y2,hy2,h⟩:=bE h
 refine zR y2 (.exit 2) (fun y2=>⟨[(0,.d (zT eSpan a0))],[]⟩) .ret (fun y2=>⟨[(2,.d (di y2))],[]⟩) ?_ ?_ ?_
 refine zD (fun x=>⟨[(0,.d (zT eSpan a0)),(4,.d (di x))],[]⟩) hy2 (wc) ?_
 rintro v4 sy2 p2
 replace p2:zAM a0 v4=some sy2:=p2
 unfold zAM at p2
 refine Q12 ?_
 refine q4 S22 ?_
 refine Q6 ?_
 refine z7 p2 (fun p2=>?_) (fun p2=>?_)
 refine Q65 ?_
 refine yD MX rfl ?_
 refine Q27 ?_
 have ⟨t67,ht67,p2⟩:=bE p2
 refine q23 S22 ht67 ?_
 refine q52 zGU ?_
 refine u6 (z9 (en:=eSpan) (l:=a0) (i:=v4) (v:=t67) (off:=0) (lq rfl) O3 rfl ht67 rfl) ?_
 refine Q27 ?_
 refine zXL ?_
 have ⟨t73,ht73,p2⟩:=bE p2
 refine q23 S22 ht73 ?_
 refine q52 zGV ?_
 refine u6 (z9 (en:=eSpan) (l:=a0) (i:=(wi (v4 - 1))) (v:=t73) (off:=1) (lq rfl) O3 rfl ht73 rfl) ?_
 refine u6 (zGQ (lq rfl) rfl rfl) ?_
 have ⟨b77,hb77,p2⟩:=bE p2
 refine u6 ((zC (lq rfl) rfl).bool (oi hb77)) ?_
 refine q50 (.d (zT eSpan a0)) ?_
 refine q50 (.d (di v4)) ?_
 have ⟨t80,ht80,p2⟩:=bE p2
 refine daf (.ip (eSpan.all a0) (v4.toNat*eSpan.size)) rfl (fun hb=>by subst hb;exact kV (en:=eSpan) (lq rfl) S22 rfl rfl ht80) ?_
 refine q82 (.ip (eSpan.all a0) (v4.toNat*eSpan.size+0)) zGU ?_
 refine daf (.d (di t80.Lo)) rfl (fun hb=>by subst hb;exact z9 (en:=eSpan) (l:=a0) (i:=v4) (v:=t80) (off:=0) (lq rfl) O3 rfl ht80 rfl) ?_
 refine q50 (.d (zT eSpan a0)) ?_
 refine q50 (.d (di v4)) ?_
 refine daf (.d (di (wi (v4 - 1)))) rfl (fun hb=>by subst hb;exact zQ4 (lq rfl) rfl rfl) ?_
 have ⟨t86,ht86,p2⟩:=bE p2
 refine daf (.ip (eSpan.all a0) ((wi (v4 - 1)).toNat*eSpan.size)) rfl (fun hb=>by subst hb;exact kV (en:=eSpan) (lq rfl) S22 rfl rfl ht86) ?_
 refine q82 (.ip (eSpan.all a0) ((wi (v4 - 1)).toNat*eSpan.size+1)) zGV ?_
 refine daf (.d (di t86.Hi)) rfl (fun hb=>by subst hb;exact z9 (en:=eSpan) (l:=a0) (i:=(wi (v4 - 1))) (v:=t86) (off:=1) (lq rfl) O3 rfl ht86 rfl) ?_
 refine daf (.d (di (wi (t86.Hi+1)))) rfl (fun hb=>by subst hb;exact zQ3 (lq rfl) rfl rfl) ?_
 refine daf (.d (db (decide (t80.Lo=(wi (t86.Hi+1)))))) rfl (fun hb=>by subst hb;exact zKN (lq rfl) rfl rfl) ?_
 have ⟨b91,hb91,p2⟩:=bE p2
 refine daf (.d (db b91)) rfl (fun hb=>by subst hb;exact (zC (lq rfl) rfl).bool (oi hb91)) ?_
 refine zCD (x:= .d (zT eSpan a0)) rfl rfl rfl (lq rfl) (lq rfl) rfl (fun hb=>by obtain ⟨hb,hb1⟩:=zQ hb;obtain rfl:=gF hb;obtain rfl:b91=true:=hb1;exact zC (lq rfl) rfl) ?_
 refine zCD (x:= .d (di v4)) rfl rfl rfl (lq rfl) (lq rfl) rfl (fun hb=>by obtain ⟨hb,hb1⟩:=zQ hb;obtain rfl:=gF hb;obtain rfl:b91=true:=hb1;exact zC (lq rfl) rfl) ?_
 have ⟨t94,ht94,p2⟩:=bE p2
 refine zCD (x:= .ip (eSpan.all a0) (v4.toNat*eSpan.size)) rfl rfl rfl (lq rfl) (lq rfl) rfl (fun hb=>by obtain ⟨hb,hb1⟩:=zQ hb;obtain rfl:=gF hb;obtain rfl:b91=true:=hb1;exact kV (en:=eSpan) (lq rfl) S22 rfl rfl ht94) ?_
 refine zCD (x:= .ip (eSpan.all a0) (v4.toNat*eSpan.size+2)) rfl rfl rfl (lq rfl) (lq rfl) rfl (fun hb=>by obtain ⟨hb,hb1⟩:=zQ hb;obtain rfl:=gF hb;obtain rfl:b91=true:=hb1;exact j6 (lq rfl) zHT rfl) ?_
 refine zCD (x:= .d (di t94.Value)) rfl rfl rfl (lq rfl) (lq rfl) rfl (fun hb=>by obtain ⟨hb,hb1⟩:=zQ hb;obtain rfl:=gF hb;obtain rfl:b91=true:=hb1;exact z9 (en:=eSpan) (l:=a0) (i:=v4) (v:=t94) (off:=2) (lq rfl) O3 rfl ht94 rfl) ?_
 refine zCD (x:= .d (zT eSpan a0)) rfl rfl rfl (lq rfl) (lq rfl) rfl (fun hb=>by obtain ⟨hb,hb1⟩:=zQ hb;obtain rfl:=gF hb;obtain rfl:b91=true:=hb1;exact zC (lq rfl) rfl) ?_
 refine zCD (x:= .d (di v4)) rfl rfl rfl (lq rfl) (lq rfl) rfl (fun hb=>by obtain ⟨hb,hb1⟩:=zQ hb;obtain rfl:=gF hb;obtain rfl:b91=true:=hb1;exact zC (lq rfl) rfl) ?_
 refine zCD (x:= .d (di (wi (v4 - 1)))) rfl rfl rfl (lq rfl) (lq rfl) rfl (fun hb=>by obtain ⟨hb,hb1⟩:=zQ hb;obtain rfl:=gF hb;obtain rfl:b91=true:=hb1;exact zQ4 (lq rfl) rfl rfl) ?_
 have ⟨t100,ht100,p2⟩:=bE p2
 refine zCD (x:= .ip (eSpan.all a0) ((wi (v4 - 1)).toNat*eSpan.size)) rfl rfl rfl (lq rfl) (lq rfl) rfl (fun hb=>by obtain ⟨hb,hb1⟩:=zQ hb;obtain rfl:=gF hb;obtain rfl:b91=true:=hb1;exact kV (en:=eSpan) (lq rfl) S22 rfl rfl ht100) ?_
 refine zCD (x:= .ip (eSpan.all a0) ((wi (v4 - 1)).toNat*eSpan.size+2)) rfl rfl rfl (lq rfl) (lq rfl) rfl (fun hb=>by obtain ⟨hb,hb1⟩:=zQ hb;obtain rfl:=gF hb;obtain rfl:b91=true:=hb1;exact j6 (lq rfl) zHT rfl) ?_
 refine zCD (x:= .d (di t100.Value)) rfl rfl rfl (lq rfl) (lq rfl) rfl (fun hb=>by obtain ⟨hb,hb1⟩:=zQ hb;obtain rfl:=gF hb;obtain rfl:b91=true:=hb1;exact z9 (en:=eSpan) (l:=a0) (i:=(wi (v4 - 1))) (v:=t100) (off:=2) (lq rfl) O3 rfl ht100 rfl) ?_
 refine zCD (x:= .d (db (decide (t94.Value=t100.Value)))) rfl rfl rfl (lq rfl) (lq rfl) rfl (fun hb=>by obtain ⟨hb,hb1⟩:=zQ hb;obtain rfl:=gF hb;obtain rfl:b91=true:=hb1;exact zKN (lq rfl) rfl rfl) ?_
 refine daf (.d (db (b91&&(decide (t94.Value=t100.Value))))) rfl (fun hb=>by subst hb;exact zDJ (lq rfl) rfl rfl) ?_
 refine q95 ?_
 refine vP ?_
 refine z7 p2 (fun p2=>?_) (fun p2=>?_)
 refine Q17 ?_
 cases p2
 intro q;cases q
 exact ⟨rfl,wc⟩
 refine Q28 ?_
 cases p2
 exact wc
 refine zF ?_
 cases p2
 intro q;cases q
 exact ⟨rfl,wc⟩
 rintro y2 rfl
 replace h:=eL h
 refine Q0 ?_
 have ⟨t106,ht106,h⟩:=bE h
 refine q8 (zO1 ht106) ?_
 refine Q96 ?_
 have ⟨y3,hy3,h⟩:=bE h
 refine zR y3 (.exit 4) (fun y3=>⟨[],[]⟩) .ret (fun y3=>⟨[(2,.d (di y3))],[]⟩) ?_ ?_ ?_
 refine zD (fun x=>⟨[(0,.d (zT eSpan a0)),(5,.d (zT eRange t106)),(6,.d (di x))],[]⟩) hy3 (wc) ?_
 rintro v6 sy3 p3
 replace p3:zAN a0 t106 v6=some sy3:=p3
 unfold zAN at p3
 refine Q12 ?_
 refine q4 S22 ?_
 refine Q6 ?_
 refine z7 p3 (fun p3=>?_) (fun p3=>?_)
 refine Q8 ?_
 refine Q14 ?_
 have ⟨y4,hy4,p3⟩:=bE p3
 refine zR y4 (.exit 6) (fun y4=>⟨[(0,.d (zT eSpan a0)),(5,.d (zT eRange t106)),(6,.d (di v6))],[]⟩) .ret (fun y4=>⟨[(2,.d (di y4))],[]⟩) ?_ ?_ ?_
 refine zD (fun x=>⟨[(0,.d (zT eSpan a0)),(5,.d (zT eRange t106)),(6,.d (di v6)),(7,.d (di x))],[]⟩) hy4 (wc) ?_
 rintro v7 sy4 p4
 replace p4:wI t106 a0 v6 v7=some sy4:=p4
 unfold wI at p4
 refine Q12 ?_
 refine q4 S24 ?_
 refine Q6 ?_
 refine z7 p4 (fun p4=>?_) (fun p4=>?_)
 refine Q65 ?_
 refine yD MX rfl ?_
 refine Q27 ?_
 have ⟨t121,ht121,p4⟩:=bE p4
 refine q23 S22 ht121 ?_
 refine q52 zGU ?_
 refine u6 (z9 (en:=eSpan) (l:=a0) (i:=v6) (v:=t121) (off:=0) (lq rfl) O3 rfl ht121 rfl) ?_
 refine Q27 ?_
 have ⟨t126,ht126,p4⟩:=bE p4
 refine q23 S24 ht126 ?_
 refine q52 zC6 ?_
 refine u6 (z9 (en:=eRange) (l:=t106) (i:=v7) (v:=t126) (off:=1) (lq rfl) O3 rfl ht126 rfl) ?_
 refine u6 (zGQ (lq rfl) rfl rfl) ?_
 have ⟨b130,hb130,p4⟩:=bE p4
 refine u6 ((zC (lq rfl) rfl).bool (oi hb130)) ?_
 refine q59 (.d (zT eRange t106)) ?_
 refine q59 (.d (di v7)) ?_
 have ⟨t133,ht133,p4⟩:=bE p4
 refine dat (.ip (eRange.all t106) (v7.toNat*eRange.size)) rfl (fun hb=>by subst hb;exact kV (en:=eRange) (lq rfl) S24 rfl rfl ht133) ?_
 refine q99 (.ip (eRange.all t106) (v7.toNat*eRange.size+0)) zGG ?_
 refine dat (.d (di t133.Lo)) rfl (fun hb=>by subst hb;exact z9 (en:=eRange) (l:=t106) (i:=v7) (v:=t133) (off:=0) (lq rfl) O3 rfl ht133 rfl) ?_
 refine q59 (.d (zT eSpan a0)) ?_
 refine q59 (.d (di v6)) ?_
 have ⟨t138,ht138,p4⟩:=bE p4
 refine dat (.ip (eSpan.all a0) (v6.toNat*eSpan.size)) rfl (fun hb=>by subst hb;exact kV (en:=eSpan) (lq rfl) S22 rfl rfl ht138) ?_
 refine q99 (.ip (eSpan.all a0) (v6.toNat*eSpan.size+1)) zGV ?_
 refine dat (.d (di t138.Hi)) rfl (fun hb=>by subst hb;exact z9 (en:=eSpan) (l:=a0) (i:=v6) (v:=t138) (off:=1) (lq rfl) O3 rfl ht138 rfl) ?_
 refine dat (.d (db (decide (t133.Lo≤t138.Hi)))) rfl (fun hb=>by subst hb;exact zGQ (lq rfl) rfl rfl) ?_
 refine Q98 ?_
 refine z7 p4 (fun p4=>?_) (fun p4=>?_)
 refine Q17 ?_
 cases p4
 intro q;cases q
 exact ⟨rfl,wc⟩
 refine Q28 ?_
 cases p4
 exact wc
 refine zF ?_
 cases p4
 intro q;cases q
 exact ⟨rfl,wc⟩
 rintro y4 rfl
 replace p3:=eL p3
 refine Q11 ?_
 cases p3
 exact wc
 rintro y4 rfl
 replace p3:=eR p3
 cases p3
 intro q;cases q
 exact ⟨rfl,wc⟩
 refine zF ?_
 cases p3
 intro q;cases q
 exact ⟨rfl,wc⟩
 rintro y3 rfl
 replace h:=eL h
 refine Q3 ?_
 cases h
 refine zB ?_
 exact zI rfl
 rintro y3 rfl
 replace h:=eR h
 cases h
 exact zI rfl
 rintro y2 rfl
 replace h:=eR h
 cases h
 exact zI rfl
 rintro y1 rfl
 replace h:=eR h
 cases h
 exact zI rfl
theorem zP0 {a0 r} (h:zD8 a0=some r):zG Tryz.prog 125 [(eMapping.dv a0)] [(db r)]:=by
 refine co Tryz.func125 ?_;intro _ _ _ _
 unfold zD8 at h
 refine Q40 ?_
 refine Q96 ?_
 have ⟨y1,hy1,h⟩:=bE h
 refine zR y1 (.exit 0) (fun y1=>⟨[(1,.d (.pt (eMapping.cells a0)))],[]⟩) .ret (fun y1=>⟨[(2,.d (db y1))],[]⟩) ?_ ?_ ?_
 refine zD (fun x=>⟨[(1,.d (.pt (eMapping.cells a0))),(3,.d (di x))],[]⟩) hy1 (wc) ?_
 rintro v3 sy1 p1
 replace p1:zAO a0 v3=some sy1:=p1
 unfold zAO at p1
 refine Q4 ?_
 refine q5 zB0 ?_
 refine q6 O33 ?_
 refine Q83 ?_
 refine z7 p1 (fun p1=>?_) (fun p1=>?_)
 refine Q29 ?_
 refine q5 zB0 ?_
 refine q6 O33 ?_
 refine q0 ?_
 have ⟨t14,ht14,p1⟩:=bE p1
 refine q11 yI ht14 ?_
 refine q35 O3 ht14 ?_
 have ⟨t16,ht16,p1⟩:=bE p1
 refine q8 (zBG ht16) ?_
 refine Q42 ?_
 refine z7 p1 (fun p1=>?_) (fun p1=>?_)
 refine Q17 ?_
 cases p1
 intro q;cases q
 exact ⟨rfl,wc⟩
 refine Q28 ?_
 cases p1
 exact wc
 refine zF ?_
 cases p1
 intro q;cases q
 exact ⟨rfl,wc⟩
 rintro y1 rfl
 replace h:=eL h
 refine Q0 ?_
 refine zSL ?_
 have ⟨t20,ht20,h⟩:=bE h
 refine q8 (zBG ht20) ?_
 refine Q1 ?_
 cases h
 refine zB ?_
 exact zI rfl
 rintro y1 rfl
 replace h:=eR h
 cases h
 exact zI rfl
theorem zP1 {a0 r} (h:zD9 a0=some r):zG Tryz.prog 126 [(zT eMapping a0)] [(db r)]:=by
 refine co Tryz.func126 ?_;intro _ _ _ _
 unfold zD9 at h
 refine Q74 ?_
 have ⟨y1,hy1,h⟩:=bE h
 refine zR y1 (.exit 0) (fun y1=>⟨[],[]⟩) .ret (fun y1=>⟨[(2,.d (db y1))],[]⟩) ?_ ?_ ?_
 refine zD (fun x=>⟨[(0,.d (zT eMapping a0)),(3,.d (di x))],[]⟩) hy1 (wc) ?_
 rintro v3 sy1 p1
 replace p1:zAP a0 v3=some sy1:=p1
 unfold zAP at p1
 refine Q60 ?_
 refine z7 p1 (fun p1=>?_) (fun p1=>?_)
 refine Q8 ?_
 refine Q14 ?_
 have ⟨y2,hy2,p1⟩:=bE p1
 refine zR y2 (.exit 2) (fun y2=>⟨[(0,.d (zT eMapping a0)),(3,.d (di v3))],[]⟩) .ret (fun y2=>⟨[(2,.d (db y2))],[]⟩) ?_ ?_ ?_
 refine zD (fun x=>⟨[(0,.d (zT eMapping a0)),(3,.d (di v3)),(4,.d (di x))],[]⟩) hy2 (wc) ?_
 rintro v4 sy2 p2
 replace p2:wJ v3 a0 v4=some sy2:=p2
 unfold wJ at p2
 refine Q72 ?_
 refine z7 p2 (fun p2=>?_) (fun p2=>?_)
 refine Q65 ?_
 refine yD MX rfl ?_
 refine Q27 ?_
 have ⟨t18,ht18,p2⟩:=bE p2
 refine q23 S23 ht18 ?_
 refine q52 zDR ?_
 refine z44 O3 ht18 ?_
 refine Q27 ?_
 have ⟨t23,ht23,p2⟩:=bE p2
 refine q23 S23 ht23 ?_
 refine q52 zDR ?_
 refine z44 O3 ht23 ?_
 refine u6 (zKN (lq rfl) rfl rfl) ?_
 have ⟨b27,hb27,p2⟩:=bE p2
 refine u6 ((zC (lq rfl) rfl).bool (oi hb27)) ?_
 refine q59 (.d (zT eMapping a0)) ?_
 refine q59 (.d (di v3)) ?_
 have ⟨t30,ht30,p2⟩:=bE p2
 refine dat (.ip (eMapping.all a0) (v3.toNat*eMapping.size)) rfl (fun hb=>by subst hb;exact kV (en:=eMapping) (lq rfl) S23 rfl rfl ht30) ?_
 refine q99 (.ip (eMapping.all a0) (v3.toNat*eMapping.size+2)) zAW ?_
 refine dat (.d (ds t30.Tag)) rfl (fun hb=>by subst hb;exact z9 (en:=eMapping) (l:=a0) (i:=v3) (v:=t30) (off:=2) (lq rfl) O9 rfl ht30 rfl) ?_
 refine q59 (.d (zT eMapping a0)) ?_
 refine q59 (.d (di v4)) ?_
 have ⟨t35,ht35,p2⟩:=bE p2
 refine dat (.ip (eMapping.all a0) (v4.toNat*eMapping.size)) rfl (fun hb=>by subst hb;exact kV (en:=eMapping) (lq rfl) S23 rfl rfl ht35) ?_
 refine q99 (.ip (eMapping.all a0) (v4.toNat*eMapping.size+2)) zAW ?_
 refine dat (.d (ds t35.Tag)) rfl (fun hb=>by subst hb;exact z9 (en:=eMapping) (l:=a0) (i:=v4) (v:=t35) (off:=2) (lq rfl) O9 rfl ht35 rfl) ?_
 refine dat (.d (db (t30.Tag==t35.Tag))) rfl (fun hb=>by subst hb;exact zJ3 (a:=t30.Tag) (b:=t35.Tag) (lq rfl) rfl rfl) ?_
 refine Q98 ?_
 refine z7 p2 (fun p2=>?_) (fun p2=>?_)
 refine Q17 ?_
 cases p2
 intro q;cases q
 exact ⟨rfl,wc⟩
 refine Q28 ?_
 cases p2
 exact wc
 refine zF ?_
 cases p2
 intro q;cases q
 exact ⟨rfl,wc⟩
 rintro y2 rfl
 replace p1:=eL p1
 refine Q11 ?_
 cases p1
 exact wc
 rintro y2 rfl
 replace p1:=eR p1
 cases p1
 intro q;cases q
 exact ⟨rfl,wc⟩
 refine zF ?_
 cases p1
 intro q;cases q
 exact ⟨rfl,wc⟩
 rintro y1 rfl
 replace h:=eL h
 refine Q3 ?_
 cases h
 refine zB ?_
 exact zI rfl
 rintro y1 rfl
 replace h:=eR h
 cases h
 exact zI rfl
theorem zL5 {a0 r} (h:zBV a0=some r):zG Tryz.prog 100 [(zT eMapping a0)] [(di r)]:=by
 refine co Tryz.func100 ?_;intro _ _ _ _
 unfold zBV at h
 refine Q74 ?_
 have ⟨y1,hy1,h⟩:=bE h
 refine zR y1 (.exit 0) (fun y1=>⟨[(0,.d (zT eMapping a0))],[]⟩) .ret (fun y1=>⟨[(2,.d (di y1))],[]⟩) ?_ ?_ ?_
 refine zD (fun x=>⟨[(0,.d (zT eMapping a0)),(3,.d (di x))],[]⟩) hy1 (wc) ?_
 rintro v3 sy1 p1
 replace p1:wV a0 v3=some sy1:=p1
 unfold wV at p1
 refine Q60 ?_
 refine z7 p1 (fun p1=>?_) (fun p1=>?_)
 refine Q69 ?_
 have ⟨t14,ht14,p1⟩:=bE p1
 refine q11 S23 ht14 ?_
 refine q90 zIQ ht14 ?_
 have ⟨t16,ht16,p1⟩:=bE p1
 refine q8 (zP0 ht16) ?_
 refine Q42 ?_
 refine z7 p1 (fun p1=>?_) (fun p1=>?_)
 refine Q17 ?_
 cases p1
 intro q;cases q
 exact ⟨rfl,wc⟩
 refine Q28 ?_
 cases p1
 exact wc
 refine zF ?_
 cases p1
 intro q;cases q
 exact ⟨rfl,wc⟩
 rintro y1 rfl
 replace h:=eL h
 refine Q32 ?_
 have ⟨y2,hy2,h⟩:=bE h
 refine zR y2 (.exit 2) (fun y2=>⟨[(0,.d (zT eMapping a0))],[]⟩) .ret (fun y2=>⟨[(2,.d (di y2))],[]⟩) ?_ ?_ ?_
 refine zD (fun x=>⟨[(0,.d (zT eMapping a0)),(4,.d (di x))],[]⟩) hy2 (wc) ?_
 rintro v4 sy2 p2
 replace p2:wW a0 v4=some sy2:=p2
 unfold wW at p2
 refine Q60 ?_
 refine z7 p2 (fun p2=>?_) (fun p2=>?_)
 refine Q69 ?_
 have ⟨t26,ht26,p2⟩:=bE p2
 refine q11 S23 ht26 ?_
 refine q46 zB0 ?_
 refine q84 O33 ht26 ?_
 refine q4 yI ?_
 refine Q54 ?_
 refine z7 p2 (fun p2=>?_) (fun p2=>?_)
 refine Q17 ?_
 cases p2
 intro q;cases q
 exact ⟨rfl,wc⟩
 refine Q28 ?_
 cases p2
 exact wc
 refine zF ?_
 cases p2
 intro q;cases q
 exact ⟨rfl,wc⟩
 rintro y2 rfl
 replace h:=eL h
 refine Q32 ?_
 have ⟨y3,hy3,h⟩:=bE h
 refine zR y3 (.exit 4) (fun y3=>⟨[(0,.d (zT eMapping a0))],[]⟩) .ret (fun y3=>⟨[(2,.d (di y3))],[]⟩) ?_ ?_ ?_
 refine zD (fun x=>⟨[(0,.d (zT eMapping a0)),(5,.d (di x))],[]⟩) hy3 (wc) ?_
 rintro v5 sy3 p3
 replace p3:wX a0 v5=some sy3:=p3
 unfold wX at p3
 refine Q60 ?_
 refine z7 p3 (fun p3=>?_) (fun p3=>?_)
 refine Q69 ?_
 have ⟨t39,ht39,p3⟩:=bE p3
 refine q11 S23 ht39 ?_
 refine q46 zAW ?_
 refine yG (z9 (en:=eMapping) (l:=a0) (i:=v5) (v:=t39) (off:=2) (lq rfl) O9 rfl ht39 rfl) ?_
 refine z1J ?_
 have ⟨b43,hb43,p3⟩:=bE p3
 refine yG ((zC (lq rfl) rfl).bool (oi hb43)) ?_
 refine q13 (.d (zT eMapping a0)) ?_
 refine q13 (.d (di v5)) ?_
 have ⟨t46,ht46,p3⟩:=bE p3
 refine sqt (.ip (eMapping.all a0) (v5.toNat*eMapping.size)) rfl (fun hb=>by subst hb;exact kV (en:=eMapping) (lq rfl) S23 rfl rfl ht46) ?_
 refine z1Q (.ip (eMapping.all a0) (v5.toNat*eMapping.size+2)) zAW ?_
 refine sqt (.d (ds t46.Tag)) rfl (fun hb=>by subst hb;exact z9 (en:=eMapping) (l:=a0) (i:=v5) (v:=t46) (off:=2) (lq rfl) O9 rfl ht46 rfl) ?_
 have ⟨t49,ht49,p3⟩:=bE p3
 refine sqt (.d (db t49)) rfl (fun hb=>by subst hb;exact zBH (lq rfl) rfl (zSO ht49)) ?_
 refine z1F (.d (db (!t49))) ?_
 refine Q36 ?_
 refine z7 p3 (fun p3=>?_) (fun p3=>?_)
 refine Q17 ?_
 cases p3
 intro q;cases q
 exact ⟨rfl,wc⟩
 refine Q28 ?_
 cases p3
 exact wc
 refine zF ?_
 cases p3
 intro q;cases q
 exact ⟨rfl,wc⟩
 rintro y3 rfl
 replace h:=eL h
 refine Q4 ?_
 have ⟨t53,ht53,h⟩:=bE h
 refine q8 (zP1 ht53) ?_
 refine zJ ?_
 refine z7 h (fun h=>?_) (fun h=>?_)
 refine Q3 ?_
 cases h
 refine zB ?_
 exact zI rfl
 refine Q58 ?_
 cases h
 refine zB ?_
 exact zI rfl
 rintro y3 rfl
 replace h:=eR h
 cases h
 exact zI rfl
 rintro y2 rfl
 replace h:=eR h
 cases h
 exact zI rfl
 rintro y1 rfl
 replace h:=eR h
 cases h
 exact zI rfl
theorem zO2 {a0 a1 r} (h:zEX a0 a1=some r):zG Tryz.prog 101 [(eMapping.dv a0),(eMapping.dv a1)] [(db r)]:=by
 refine co Tryz.func101 ?_;intro _ _ _ _
 unfold zEX at h
 refine Q40 ?_
 refine q40 ?_
 refine Q39 ?_
 refine zSL ?_
 refine zSL ?_
 refine q3 ?_
 have ⟨b10,hb10,h⟩:=bE h
 refine yG ((zC (lq rfl) rfl).bool (oi hb10)) ?_
 refine q25 (.ip (eMapping.cells a0) (0+0)) zDR ?_
 refine q26 (.d (di a0.From)) O3 ?_
 refine q25 (.ip (eMapping.cells a1) (0+0)) zDR ?_
 refine q26 (.d (di a1.From)) O3 ?_
 refine z1G (.d (db (decide (a0.From=a1.From)))) ?_
 have ⟨b16,hb16,h⟩:=bE h
 refine sqf (.d (db b16)) rfl (fun hb=>by subst hb;exact (zC (lq rfl) rfl).bool (oi hb16)) ?_
 refine xK (x:= .ip (eMapping.cells a0) (0+2)) rfl rfl rfl (lq rfl) (lq rfl) rfl (fun hb=>by obtain ⟨hb,hb1⟩:=zQ hb;obtain rfl:=gF hb;obtain rfl:b16=true:=hb1;exact zAA (lq rfl) zAW rfl) ?_
 refine xK (x:= .d (ds a0.Tag)) rfl rfl rfl (lq rfl) (lq rfl) rfl (fun hb=>by obtain ⟨hb,hb1⟩:=zQ hb;obtain rfl:=gF hb;obtain rfl:b16=true:=hb1;exact uE (lq rfl) O9 rfl rfl) ?_
 refine xK (x:= .ip (eMapping.cells a1) (0+2)) rfl rfl rfl (lq rfl) (lq rfl) rfl (fun hb=>by obtain ⟨hb,hb1⟩:=zQ hb;obtain rfl:=gF hb;obtain rfl:b16=true:=hb1;exact zAA (lq rfl) zAW rfl) ?_
 refine xK (x:= .d (ds a1.Tag)) rfl rfl rfl (lq rfl) (lq rfl) rfl (fun hb=>by obtain ⟨hb,hb1⟩:=zQ hb;obtain rfl:=gF hb;obtain rfl:b16=true:=hb1;exact uE (lq rfl) O9 rfl rfl) ?_
 refine xK (x:= .d (db (Op.bytesLess a0.Tag a1.Tag))) rfl rfl rfl (lq rfl) (lq rfl) rfl (fun hb=>by obtain ⟨hb,hb1⟩:=zQ hb;obtain rfl:=gF hb;obtain rfl:b16=true:=hb1;exact z3T (a:=a0.Tag) (b:=a1.Tag) (lq rfl) rfl rfl) ?_
 refine q86 (.d (db (b16&&(Op.bytesLess a0.Tag a1.Tag)))) ?_
 refine q18 ?_
 refine Q1 ?_
 cases h
 refine zB ?_
 exact zI rfl
theorem zP2 {a0 r} (h:zEA a0=some r):zG Tryz.prog 65 [(zT eMapping a0)] [(di r)]:=by
 refine co Tryz.func65 ?_;intro _ _ _ _
 unfold zEA at h
 refine Q47 ?_
 have ⟨t6,ht6,h⟩:=bE h
 refine q8 (zL5 ht6) ?_
 refine Q62 ?_
 refine z7 h (fun h=>?_) (fun h=>?_)
 refine Q35 ?_
 cases h
 refine zB ?_
 exact zI rfl
 refine Q93 ?_
 have ⟨y1,hy1,h⟩:=bE h
 refine zR y1 (.exit 0) (fun y1=>⟨[],[]⟩) .ret (fun y1=>⟨[(2,.d (di y1))],[]⟩) ?_ ?_ ?_
 refine zD (fun x=>⟨[(0,.d (zT eMapping a0)),(4,.d (di x))],[]⟩) hy1 (wc) ?_
 rintro v4 sy1 p1
 replace p1:zAQ a0 v4=some sy1:=p1
 unfold zAQ at p1
 refine Q60 ?_
 refine z7 p1 (fun p1=>?_) (fun p1=>?_)
 refine Q65 ?_
 refine yD MX rfl ?_
 refine Q27 ?_
 refine zXL ?_
 have ⟨t19,ht19,p1⟩:=bE p1
 refine q23 S23 ht19 ?_
 refine z8Z zIQ ht19 ?_
 refine Q27 ?_
 have ⟨t23,ht23,p1⟩:=bE p1
 refine q23 S23 ht23 ?_
 refine z8Z zIQ ht23 ?_
 have ⟨t25,ht25,p1⟩:=bE p1
 refine q22 (zO2 ht25) ?_
 refine z82 ?_
 refine vP ?_
 refine z7 p1 (fun p1=>?_) (fun p1=>?_)
 refine Q17 ?_
 cases p1
 intro q;cases q
 exact ⟨rfl,wc⟩
 refine Q28 ?_
 cases p1
 exact wc
 refine zF ?_
 cases p1
 intro q;cases q
 exact ⟨rfl,wc⟩
 rintro y1 rfl
 replace h:=eL h
 refine Q3 ?_
 cases h
 refine zB ?_
 exact zI rfl
 rintro y1 rfl
 replace h:=eR h
 cases h
 exact zI rfl
theorem zGK {a0 a1 r} (h:zBW a0 a1=some r):zG Tryz.prog 147 [(zT eI a0),(di a1)] [(zT eI r)]:=by
 refine co Tryz.func147 ?_;intro _ _ _ _
 unfold zBW at h
 refine z5F ?_
 refine zP (uN (t:=5) 1005 3 eI.size (lq rfl) (lq rfl) rfl rfl) ?_
 refine Q74 ?_
 have ⟨y1,hy1,h⟩:=bE h
 refine tl (.exit 0) ⟨[(1,.d (di a1)),(5,.row 1005),(6,.d (db y1.1))],[(1005,.row 3 eI.size false (eI.all y1.2))]⟩ ?_ ?_
 refine zD (fun x=>⟨[(0,.d (zT eI a0)),(1,.d (di a1)),(5,.row 1005),(6,.d (db x.1)),(7,.d (di x.2.1))],[(1005,.row 3 eI.size false (eI.all x.2.2))]⟩) hy1 (wc) ?_
 rintro ⟨v6,v7,r1005⟩ sy1 p1
 replace p1:k5 a0 a1 v6 v7 r1005=some sy1:=p1
 unfold k5 at p1
 refine Q12 ?_
 refine Q83 ?_
 refine z7 p1 (fun p1=>?_) (fun p1=>?_)
 refine Q8 ?_
 refine Q4 ?_
 refine q32 ?_
 have ⟨b16,hb16,p1⟩:=bE p1
 refine yG ((zC (lq rfl) rfl).bool (oi hb16)) ?_
 refine q13 (.d (zT eI a0)) ?_
 refine q13 (.d (di v7)) ?_
 have ⟨t19,ht19,p1⟩:=bE p1
 refine sqt (.ip (eI.all a0) (v7.toNat*eI.size)) rfl (fun hb=>by subst hb;exact kV (en:=eI) (lq rfl) yI rfl rfl ht19) ?_
 refine sqt (.d (di t19)) rfl (fun hb=>by subst hb;exact z9 (en:=eI) (l:=a0) (i:=v7) (v:=t19) (off:=0) (lq rfl) O3 rfl ht19 rfl) ?_
 refine q13 (.d (di a1)) ?_
 refine sqt (.d (db (decide (a1≤t19)))) rfl (fun hb=>by subst hb;exact zMM (lq rfl) rfl rfl) ?_
 refine Q36 ?_
 have ⟨y2,hy2,p1⟩:=bE p1
 refine tl .normal ⟨[(0,.d (zT eI a0)),(1,.d (di a1)),(5,.row 1005),(6,.d (db y2.1)),(7,.d (di v7))],[(1005,.row 3 eI.size false (eI.all y2.2))]⟩ ?_ ?_
 refine z7 hy2 (fun hy2=>?_) (fun hy2=>?_)
 refine Q3 ?_
 refine Q15 ?_
 have ⟨t26,ht26,hy2⟩:=bE hy2
 refine q11 yI ht26 ?_
 refine q35 O3 ht26 ?_
 refine q0 ?_
 refine Q54 ?_
 refine z7 hy2 (fun hy2=>?_) (fun hy2=>?_)
 refine zSM ?_
 refine q24 yI ?_
 have ⟨r1005_3,hr1005_3,hy2⟩:=bE hy2
 refine yR rfl (kW (en:=eI) (l:=r1005) (m:=[a1]) (lq rfl) yI rfl rfl rfl hr1005_3 (by decide) (by decide) rfl rfl) ?_
 refine Q13 ?_
 cases hy2
 exact zH (wc)
 refine zM ?_
 cases hy2
 exact zH (wc)
 refine zM ?_
 cases hy2
 exact zH (wc)
 refine Q63 ?_
 have ⟨t37,ht37,p1⟩:=bE p1
 refine q11 yI ht37 ?_
 refine q35 O3 ht37 ?_
 refine q24 yI ?_
 have ⟨r1005_4,hr1005_4,p1⟩:=bE p1
 refine yR rfl (kW (en:=eI) (l:=y2.2) (m:=[t37]) (lq rfl) yI rfl rfl rfl hr1005_4 (by decide) (by decide) rfl rfl) ?_
 refine Q13 ?_
 refine Q11 ?_
 cases p1
 exact wc
 refine zF ?_
 cases p1
 intro q;cases q
 exact zH (wc)
 refine Q4 ?_
 refine Q42 ?_
 have ⟨y5,hy5,h⟩:=bE h
 refine tl .normal ⟨[(5,.row 1005)],[(1005,.row 3 eI.size false (eI.all y5))]⟩ ?_ ?_
 refine z7 hy5 (fun hy5=>?_) (fun hy5=>?_)
 refine zSM ?_
 refine q24 yI ?_
 have ⟨r1005_6,hr1005_6,hy5⟩:=bE hy5
 refine yR rfl (kW (en:=eI) (l:=y1.2) (m:=[a1]) (lq rfl) yI rfl rfl rfl hr1005_6 (by decide) (by decide) rfl rfl) ?_
 refine Q13 ?_
 cases hy5
 exact zH (wc)
 refine zM ?_
 cases hy5
 exact zH (wc)
 refine Q61 ?_
 cases h
 refine zB ?_
 exact zI rfl
theorem zK6 {a0 a1 r} (h:zDN a0 a1=some r):zG Tryz.prog 139 [(zT eI a0),(eSet.dv a1)] [(zT eI r)]:=by
 refine co Tryz.func139 ?_;intro _ _ _ _
 unfold zDN at h
 refine Q91 ?_
 refine Q96 ?_
 have ⟨y1,hy1,h⟩:=bE h
 refine tl (.exit 0) ⟨[(0,.d (zT eI y1))],[]⟩ ?_ ?_
 refine zD (fun x=>⟨[(0,.d (zT eI x.1)),(3,.d (.pt (eSet.cells a1))),(5,.d (di x.2))],[]⟩) hy1 (wc) ?_
 rintro ⟨v0,v5⟩ sy1 p1
 replace p1:x9 a1 v0 v5=some sy1:=p1
 unfold x9 at p1
 refine Q4 ?_
 refine Q97 ?_
 refine Q6 ?_
 refine z7 p1 (fun p1=>?_) (fun p1=>?_)
 refine Q5 ?_
 have ⟨y2,hy2,p1⟩:=bE p1
 refine tl .normal ⟨[(0,.d (zT eI y2)),(3,.d (.pt (eSet.cells a1))),(5,.d (di v5))],[]⟩ ?_ ?_
 refine kA<|kU ?_
 refine yD MX rfl ?_
 refine q19 zF5 ?_
 refine q33 O24 ?_
 refine q7 ?_
 have ⟨t18,ht18,hy2⟩:=bE hy2
 refine q23 S24 ht18 ?_
 refine q52 zGG ?_
 refine u6 (z9 (en:=eRange) (l:=a1.Ranges) (i:=v5) (v:=t18) (off:=0) (lq rfl) O3 rfl ht18 rfl) ?_
 refine q19 zF5 ?_
 refine q33 O24 ?_
 refine q7 ?_
 have ⟨t24,ht24,hy2⟩:=bE hy2
 refine q23 S24 ht24 ?_
 refine q52 zC6 ?_
 refine u6 (z9 (en:=eRange) (l:=a1.Ranges) (i:=v5) (v:=t24) (off:=1) (lq rfl) O3 rfl ht24 rfl) ?_
 refine yFO ?_
 refine Q4 ?_
 have ⟨t28,ht28,hy2⟩:=bE hy2
 refine q8 (zBG ht28) ?_
 refine zJ ?_
 have ⟨y3,hy3,hy2⟩:=bE hy2
 refine tl .normal ⟨[(0,.d (zT eI y3)),(3,.d (.pt (eSet.cells a1))),(5,.d (di v5)),(7,.d (di t24.Hi))],[]⟩ ?_ ?_
 refine z7 hy3 (fun hy3=>?_) (fun hy3=>?_)
 refine Q66 ?_
 have ⟨t31,ht31,hy3⟩:=bE hy3
 refine q8 (zGK ht31) ?_
 refine Q1 ?_
 cases hy3
 exact zH (wc)
 refine zM ?_
 cases hy3
 exact zH (wc)
 refine Q2 ?_
 refine q44 ?_
 have ⟨b34,hb34,hy2⟩:=bE hy2
 refine yG ((zC (lq rfl) rfl).bool (oi hb34)) ?_
 refine q13 (.d (di t24.Hi)) ?_
 refine q73 (.d (db (decide (t24.Hi < 1114111)))) ?_
 refine Q36 ?_
 refine z7 hy2 (fun hy2=>?_) (fun hy2=>?_)
 refine Q66 ?_
 refine q2 ?_
 have ⟨t41,ht41,hy2⟩:=bE hy2
 refine q8 (zGK ht41) ?_
 refine Q1 ?_
 cases hy2
 exact zH (wc)
 refine zM ?_
 cases hy2
 exact zH (wc)
 refine Q11 ?_
 cases p1
 exact wc
 refine zF ?_
 cases p1
 intro q;cases q
 exact zH (wc)
 refine Q2 ?_
 have ⟨t43,ht43,h⟩:=bE h
 refine q8 (zGK ht43) ?_
 refine Q1 ?_
 cases h
 refine zB ?_
 exact zI rfl
theorem zMZ {a0 a1 r} (h:zDO a0 a1=some r):zG Tryz.prog 141 [(eSet.dv a0),(di a1)] [(db r)]:=by
 refine co Tryz.func141 ?_;intro _ _ _ _
 unfold zDO at h
 refine Q91 ?_
 refine Q96 ?_
 have ⟨y1,hy1,h⟩:=bE h
 refine zR y1 (.exit 0) (fun y1=>⟨[],[]⟩) .ret (fun y1=>⟨[(4,.d (db y1))],[]⟩) ?_ ?_ ?_
 refine zD (fun x=>⟨[(1,.d (di a1)),(2,.d (.pt (eSet.cells a0))),(5,.d (di x))],[]⟩) hy1 (wc) ?_
 rintro v5 sy1 p1
 replace p1:zB6 a0 a1 v5=some sy1:=p1
 unfold zB6 at p1
 refine Q4 ?_
 refine Q97 ?_
 refine Q6 ?_
 refine z7 p1 (fun p1=>?_) (fun p1=>?_)
 refine Q8 ?_
 refine Q2 ?_
 have ⟨t14,ht14,p1⟩:=bE p1
 refine q8 (zBG ht14) ?_
 have ⟨b15,hb15,p1⟩:=bE p1
 refine yG ((zC (lq rfl) rfl).bool (oi hb15)) ?_
 refine q54 (.ip (eSet.cells a0) (0+0)) zF5 ?_
 refine q62 (.d (zT eRange a0.Ranges)) O24 ?_
 refine q13 (.d (di v5)) ?_
 have ⟨t19,ht19,p1⟩:=bE p1
 refine sqt (.ip (eRange.all a0.Ranges) (v5.toNat*eRange.size)) rfl (fun hb=>by subst hb;exact kV (en:=eRange) (lq rfl) S24 rfl rfl ht19) ?_
 refine z1Q (.ip (eRange.all a0.Ranges) (v5.toNat*eRange.size+0)) zGG ?_
 refine sqt (.d (di t19.Lo)) rfl (fun hb=>by subst hb;exact z9 (en:=eRange) (l:=a0.Ranges) (i:=v5) (v:=t19) (off:=0) (lq rfl) O3 rfl ht19 rfl) ?_
 refine q13 (.d (di a1)) ?_
 refine q55 (.d (db (decide (t19.Lo≤a1)))) ?_
 refine q14 ?_
 have ⟨b25,hb25,p1⟩:=bE p1
 refine yG ((zC (lq rfl) rfl).bool (oi hb25)) ?_
 refine q13 (.d (di a1)) ?_
 refine q54 (.ip (eSet.cells a0) (0+0)) zF5 ?_
 refine q62 (.d (zT eRange a0.Ranges)) O24 ?_
 refine q13 (.d (di v5)) ?_
 have ⟨t30,ht30,p1⟩:=bE p1
 refine sqt (.ip (eRange.all a0.Ranges) (v5.toNat*eRange.size)) rfl (fun hb=>by subst hb;exact kV (en:=eRange) (lq rfl) S24 rfl rfl ht30) ?_
 refine z1Q (.ip (eRange.all a0.Ranges) (v5.toNat*eRange.size+1)) zC6 ?_
 refine sqt (.d (di t30.Hi)) rfl (fun hb=>by subst hb;exact z9 (en:=eRange) (l:=a0.Ranges) (i:=v5) (v:=t30) (off:=1) (lq rfl) O3 rfl ht30 rfl) ?_
 refine q55 (.d (db (decide (a1≤t30.Hi)))) ?_
 refine Q36 ?_
 refine z7 p1 (fun p1=>?_) (fun p1=>?_)
 refine Q17 ?_
 cases p1
 intro q;cases q
 exact ⟨rfl,wc⟩
 refine Q28 ?_
 cases p1
 exact wc
 refine zF ?_
 cases p1
 intro q;cases q
 exact ⟨rfl,wc⟩
 rintro y1 rfl
 replace h:=eL h
 refine Q3 ?_
 cases h
 refine zB ?_
 exact zI rfl
 rintro y1 rfl
 replace h:=eR h
 cases h
 exact zI rfl
theorem zP3 {a0 a1 a2 r} (h:zF4 a0 a1 a2=some r):zG Tryz.prog 140 [(di a0),(db a1),(db a2)] [(db r)]:=by
 refine co Tryz.func140 ?_;intro _ _ _ _
 unfold zF4 at h
 refine Q47 ?_
 refine zJ<|zVG ?_
 refine Q88 ?_
 refine z7 h (fun h=>?_) (fun h=>?_)
 refine Q2 ?_
 have ⟨b11,hb11,h⟩:=bE h
 refine yG ((zC (lq rfl) rfl).bool (oi hb11)) ?_
 refine q38 (.d (db a2)) ?_
 refine q18 ?_
 refine Q1 ?_
 cases h
 refine zB ?_
 exact zI rfl
 refine Q0 ?_
 refine Q88 ?_
 refine z7 h (fun h=>?_) (fun h=>?_)
 refine Q2 ?_
 have ⟨b17,hb17,h⟩:=bE h
 refine yG ((zC (lq rfl) rfl).bool (oi hb17)) ?_
 refine q13 (.d (db a2)) ?_
 refine Q41 ?_
 cases h
 refine zB ?_
 exact zI rfl
 refine zM<|Q2 ?_
 have ⟨b21,hb21,h⟩:=bE h
 refine yG ((zC (lq rfl) rfl).bool (oi hb21)) ?_
 refine q13 (.d (db a2)) ?_
 refine z1F (.d (db (!a2))) ?_
 refine Q41 ?_
 cases h
 refine zB ?_
 exact zI rfl
theorem zNK {a0 a1 a2 r} (h:zD0 a0 a1 a2=some r):zG Tryz.prog 127 [(eSet.dv a0),(eSet.dv a1),(di a2)] [(eSet.dv r)]:=by
 refine co Tryz.func127 ?_;intro _ _ _ _
 unfold zD0 at h
 refine Q91 ?_
 refine q63 ?_
 refine z1M ?_
 refine zJ<|kU ?_
 refine yD MX rfl ?_
 refine q69 G26 ?_
 have ⟨t14,ht14,h⟩:=bE h
 refine q22 (z70 (zK6 ht14) (nlN (nlE nl0))) ?_
 refine q69 G26 ?_
 have ⟨t16,ht16,h⟩:=bE h
 refine q22 (zK6 ht16) ?_
 refine Q51 ?_
 refine Q0 ?_
 refine z1M ?_
 refine zJ ?_
 refine zP (zB4 (bid:=8) (off:=0) 4160 143 eRange.size (lq rfl) (by decide) rfl rfl rfl) ?_
 refine Q74 ?_
 have ⟨y1,hy1,h⟩:=bE h
 refine tl (.exit 0) ⟨[(6,.ptr 6 0),(8,.ptr 8 0)],[(6,.box 26 [.d (.v (.slice none 0 0))]),(8,.box 26 [.row 4160]),(4160,.row 143 eRange.size false (eRange.all y1))]⟩ ?_ ?_
 refine zD (fun x=>⟨[(2,.d (di a2)),(3,.d (.pt (eSet.cells a0))),(4,.d (.pt (eSet.cells a1))),(6,.ptr 6 0),(7,.d (zT eI t16)),(8,.ptr 8 0),(9,.d (db x.1)),(10,.d (di x.2.1))],[(6,.box 26 [.d (.v (.slice none 0 0))]),(8,.box 26 [.row 4160]),(4160,.row 143 eRange.size false (eRange.all x.2.2))]⟩) hy1 (wc) ?_
 rintro ⟨v9,v10,r4160⟩ sy1 p1
 replace p1:kR t16 a0 a1 a2 v9 v10 r4160=some sy1:=p1
 unfold kR at p1
 refine Q12 ?_
 refine Q83 ?_
 refine z7 p1 (fun p1=>?_) (fun p1=>?_)
 refine Q8 ?_
 refine Q47 ?_
 refine q2 ?_
 refine q0 ?_
 refine Q83 ?_
 have ⟨y2,hy2,p1⟩:=bE p1
 refine tl .normal ⟨[(2,.d (di a2)),(3,.d (.pt (eSet.cells a0))),(4,.d (.pt (eSet.cells a1))),(6,.ptr 6 0),(7,.d (zT eI t16)),(8,.ptr 8 0),(9,.d (db v9)),(10,.d (di v10)),(11,.d (di y2))],[(6,.box 26 [.d (.v (.slice none 0 0))]),(8,.box 26 [.row 4160]),(4160,.row 143 eRange.size false (eRange.all r4160))]⟩ ?_ ?_
 refine z7 hy2 (fun hy2=>?_) (fun hy2=>?_)
 refine Q66 ?_
 refine q2 ?_
 have ⟨t31,ht31,hy2⟩:=bE hy2
 refine q11 yI ht31 ?_
 refine q35 O3 ht31 ?_
 refine Q73 ?_
 cases hy2
 exact zH (wc)
 refine zM ?_
 cases hy2
 exact zH (wc)
 refine kU ?_
 refine yD MX rfl ?_
 refine q7 ?_
 refine q69 G26 ?_
 refine Q27 ?_
 have ⟨t38,ht38,p1⟩:=bE p1
 refine q23 yI ht38 ?_
 refine q67 O3 ht38 ?_
 have ⟨t40,ht40,p1⟩:=bE p1
 refine q22 (zMZ ht40) ?_
 refine q69 G26 ?_
 refine Q27 ?_
 have ⟨t44,ht44,p1⟩:=bE p1
 refine q23 yI ht44 ?_
 refine q67 O3 ht44 ?_
 have ⟨t46,ht46,p1⟩:=bE p1
 refine q22 (zMZ ht46) ?_
 have ⟨t47,ht47,p1⟩:=bE p1
 refine q22 (zP3 ht47) ?_
 refine Q51 ?_
 refine Q4 ?_
 have ⟨b49,hb49,p1⟩:=bE p1
 refine yG ((zC (lq rfl) rfl).bool (oi hb49)) ?_
 refine q13 (.d (db v9)) ?_
 refine Q36 ?_
 have ⟨y3,hy3,p1⟩:=bE p1
 refine tl .normal ⟨[(2,.d (di a2)),(3,.d (.pt (eSet.cells a0))),(4,.d (.pt (eSet.cells a1))),(6,.ptr 6 0),(7,.d (zT eI t16)),(8,.ptr 8 0),(9,.d (db v9)),(10,.d (di v10)),(11,.d (di y2)),(12,.d (db t47))],[(6,.box 26 [.d (.v (.slice none 0 0))]),(8,.box 26 [.row 4160]),(4160,.row 143 eRange.size false (eRange.all y3))]⟩ ?_ ?_
 refine z7 hy3 (fun hy3=>?_) (fun hy3=>?_)
 refine wC<|q51 zF5 ?_
 refine q28 O24 ?_
 refine q51 zF5 ?_
 refine q28 O24 ?_
 refine z1L S24 ?_
 refine q31 ?_
 refine q0 ?_
 have ⟨t59,ht59,hy3⟩:=bE hy3
 refine q80 S24 ht59 ?_
 refine q51 zC6 ?_
 have ⟨r4160_4,hr4160_4,hy3⟩:=bE hy3
 refine yR rfl (wP (en:=eRange) (l:=r4160) (i:=(wi ((r4160.length:Int) - 1))) (v:=t59) (off:=1) O3 rfl rfl rfl ht59 rfl (by decide) hr4160_4 rfl rfl) ?_
 refine zJ ?_
 cases hy3
 exact zH (wc)
 refine zM ?_
 cases hy3
 exact zH (wc)
 refine Q4 ?_
 have ⟨b62,hb62,p1⟩:=bE p1
 refine yG ((zC (lq rfl) rfl).bool (oi hb62)) ?_
 refine q13 (.d (db v9)) ?_
 refine z1F (.d (db (!v9))) ?_
 refine Q36 ?_
 have ⟨y5,hy5,p1⟩:=bE p1
 refine tl .normal ⟨[(2,.d (di a2)),(3,.d (.pt (eSet.cells a0))),(4,.d (.pt (eSet.cells a1))),(6,.ptr 6 0),(7,.d (zT eI t16)),(8,.ptr 8 0),(10,.d (di v10)),(12,.d (db t47))],[(6,.box 26 [.d (.v (.slice none 0 0))]),(8,.box 26 [.row 4160]),(4160,.row 143 eRange.size false (eRange.all y5))]⟩ ?_ ?_
 refine z7 hy5 (fun hy5=>?_) (fun hy5=>?_)
 refine zFA 9 MX rfl ?_
 refine zVD zF5 ?_
 refine z8V O24 ?_
 refine Q27 ?_
 have ⟨t70,ht70,hy5⟩:=bE hy5
 refine q23 yI ht70 ?_
 refine q67 O3 ht70 ?_
 refine q7 ?_
 refine u6 (zC4 (lq rfl) zU4 rfl rfl) ?_
 refine z8Y S24 ?_
 refine vP ?_
 have ⟨r4160_6,hr4160_6,hy5⟩:=bE hy5
 refine yR rfl (kW (en:=eRange) (l:=y3) (m:=[({Lo:=t70,Hi:=y2}:Range)]) (lq rfl) S24 rfl rfl rfl hr4160_6 (by decide) (by decide) rfl rfl) ?_
 refine q51 zF5 ?_
 refine q93 O24 ?_
 refine zJ ?_
 cases hy5
 exact zH (wc)
 refine zM ?_
 cases hy5
 exact zH (wc)
 refine Q81 ?_
 refine Q11 ?_
 cases p1
 exact wc
 refine zF ?_
 cases p1
 intro q;cases q
 exact zH (wc)
 refine kU ?_
 refine zP (zC3 (bid:=8) (off:=0) rfl rfl rfl) ?_
 refine wC ?_
 refine yG ((jI (lq rfl) G26 rfl rfl rfl rfl).data rfl) ?_
 refine q16 G26 ?_
 refine zJ ?_
 cases h
 refine zB ?_
 exact vF rfl rfl G26 rfl
theorem zSP {a0 r} (h:zFG a0=some r):zG Tryz.prog 103 [(zT eRange a0)] [(eSet.dv r)]:=by
 refine co Tryz.func103 ?_;intro _ _ _ _
 unfold zFG at h
 refine Q0 ?_
 refine z1M ?_
 refine zJ<|Q2 ?_
 refine q48 B26 ?_
 refine yG ((zC4 (lq rfl) B26 rfl rfl).nils (bs:=eSet.cells ({Ranges:=[]}:Set)) (nlN nl0)) ?_
 have ⟨t6,ht6,h⟩:=bE h
 refine q8 (zNK ht6) ?_
 refine q16 G26 ?_
 refine zJ ?_
 cases h
 refine zB ?_
 exact vF rfl rfl G26 rfl
theorem zSQ {a0 a1 r} (h:zFH a0 a1=some r):zG Tryz.prog 102 [(eSet.dv a0),(eSet.dv a1)] [(db r)]:=by
 refine co Tryz.func102 ?_;intro _ _ _ _
 unfold zFH at h
 refine Q91 ?_
 refine q63 ?_
 refine Q53 ?_
 refine Q97 ?_
 refine Q97 ?_
 refine Q33 ?_
 refine z7 h (fun h=>?_) (fun h=>?_)
 refine Q3 ?_
 cases h
 refine zB ?_
 exact zI rfl
 refine Q93 ?_
 have ⟨y1,hy1,h⟩:=bE h
 refine zR y1 (.exit 0) (fun y1=>⟨[],[]⟩) .ret (fun y1=>⟨[(4,.d (db y1))],[]⟩) ?_ ?_ ?_
 refine zD (fun x=>⟨[(2,.d (.pt (eSet.cells a0))),(3,.d (.pt (eSet.cells a1))),(5,.d (di x))],[]⟩) hy1 (wc) ?_
 rintro v5 sy1 p1
 replace p1:zBD a0 a1 v5=some sy1:=p1
 unfold zBD at p1
 refine Q4 ?_
 refine Q97 ?_
 refine Q6 ?_
 refine z7 p1 (fun p1=>?_) (fun p1=>?_)
 refine Q65 ?_
 refine yD MX rfl ?_
 refine q19 zF5 ?_
 refine q33 O24 ?_
 refine q7 ?_
 have ⟨t23,ht23,p1⟩:=bE p1
 refine q23 S24 ht23 ?_
 refine u6 (w7 (en:=eRange) (l:=a0.Ranges) (i:=v5) (v:=t23) (off:=0) (lq rfl) zA8 rfl ht23 rfl rfl (by decide)) ?_
 refine q19 zF5 ?_
 refine q33 O24 ?_
 refine q7 ?_
 have ⟨t28,ht28,p1⟩:=bE p1
 refine q23 S24 ht28 ?_
 refine u6 (w7 (en:=eRange) (l:=a1.Ranges) (i:=v5) (v:=t28) (off:=0) (lq rfl) zA8 rfl ht28 rfl rfl (by decide)) ?_
 refine u6 (zSB (en:=eRange) (a:=t23) (b:=t28) (lq rfl) yFE rfl rfl) ?_
 refine vP ?_
 refine z7 p1 (fun p1=>?_) (fun p1=>?_)
 refine Q17 ?_
 cases p1
 intro q;cases q
 exact ⟨rfl,wc⟩
 refine Q28 ?_
 cases p1
 exact wc
 refine zF ?_
 cases p1
 intro q;cases q
 exact ⟨rfl,wc⟩
 rintro y1 rfl
 replace h:=eL h
 refine Q3 ?_
 cases h
 refine zB ?_
 exact zI rfl
 rintro y1 rfl
 replace h:=eR h
 cases h
 exact zI rfl
theorem zP4 {a0 r} (h:zEB a0=some r):zG Tryz.prog 66 [(eSet.dv a0)] [(db r)]:=by
 refine co Tryz.func66 ?_;intro _ _ _ _
 unfold zEB at h
 refine Q91 ?_
 refine Q16 ?_
 refine yD MX rfl ?_
 refine q69 G26 ?_
 refine q19 zF5 ?_
 refine q33 O24 ?_
 have ⟨t6,ht6,h⟩:=bE h
 refine q22 (zSP ht6) ?_
 have ⟨t7,ht7,h⟩:=bE h
 refine q22 (zSQ ht7) ?_
 refine Q51 ?_
 cases h
 refine zB ?_
 exact zI rfl
theorem zC8 {a0 a1 a2 r} (h:zBX a0 a1 a2=some r):zG Tryz.prog 67 [(zT eMapping a0),(di a1),(db a2)] [(di r)]:=by
 refine co Tryz.func67 ?_;intro _ _ _ _
 unfold zBX at h
 refine Q74 ?_
 have ⟨y1,hy1,h⟩:=bE h
 refine zR y1 (.exit 0) (fun y1=>⟨[],[]⟩) .ret (fun y1=>⟨[(6,.d (di y1))],[]⟩) ?_ ?_ ?_
 refine zD (fun x=>⟨[(0,.d (zT eMapping a0)),(1,.d (di a1)),(2,.d (db a2)),(7,.d (di x))],[]⟩) hy1 (wc) ?_
 rintro v7 sy1 p1
 replace p1:zBE a0 a1 a2 v7=some sy1:=p1
 unfold zBE at p1
 refine Q60 ?_
 refine z7 p1 (fun p1=>?_) (fun p1=>?_)
 refine Q69 ?_
 have ⟨t16,ht16,p1⟩:=bE p1
 refine q11 S23 ht16 ?_
 refine q46 zDR ?_
 refine yG (z9 (en:=eMapping) (l:=a0) (i:=v7) (v:=t16) (off:=0) (lq rfl) O3 rfl ht16 rfl) ?_
 refine q0 ?_
 refine q39 ?_
 have ⟨b21,hb21,p1⟩:=bE p1
 refine yG ((zC (lq rfl) rfl).bool (oi hb21)) ?_
 refine q13 (.d (db a2)) ?_
 have ⟨b23,hb23,p1⟩:=bE p1
 refine sqt (.d (db b23)) rfl (fun hb=>by subst hb;exact (zC (lq rfl) rfl).bool (oi hb23)) ?_
 refine xK (x:= .d (zT eMapping a0)) rfl rfl rfl (lq rfl) (lq rfl) rfl (fun hb=>by obtain ⟨hb,hb1⟩:=zQ hb;obtain rfl:b21=true:=hb;obtain rfl:=gF hb1;exact zC (lq rfl) rfl) ?_
 refine xK (x:= .d (di v7)) rfl rfl rfl (lq rfl) (lq rfl) rfl (fun hb=>by obtain ⟨hb,hb1⟩:=zQ hb;obtain rfl:b21=true:=hb;obtain rfl:=gF hb1;exact zC (lq rfl) rfl) ?_
 have ⟨t26,ht26,p1⟩:=bE p1
 refine xK (x:= .ip (eMapping.all a0) (v7.toNat*eMapping.size)) rfl rfl rfl (lq rfl) (lq rfl) rfl (fun hb=>by obtain ⟨hb,hb1⟩:=zQ hb;obtain rfl:b21=true:=hb;obtain rfl:=gF hb1;exact kV (en:=eMapping) (lq rfl) S23 rfl rfl ht26) ?_
 refine xK (x:= .ip (eMapping.all a0) (v7.toNat*eMapping.size+2)) rfl rfl rfl (lq rfl) (lq rfl) rfl (fun hb=>by obtain ⟨hb,hb1⟩:=zQ hb;obtain rfl:b21=true:=hb;obtain rfl:=gF hb1;exact j6 (lq rfl) zAW rfl) ?_
 refine xK (x:= .d (ds t26.Tag)) rfl rfl rfl (lq rfl) (lq rfl) rfl (fun hb=>by obtain ⟨hb,hb1⟩:=zQ hb;obtain rfl:b21=true:=hb;obtain rfl:=gF hb1;exact z9 (en:=eMapping) (l:=a0) (i:=v7) (v:=t26) (off:=2) (lq rfl) O9 rfl ht26 rfl) ?_
 refine xK (x:= .d (db (t26.Tag== []))) rfl rfl rfl (lq rfl) (lq rfl) rfl (fun hb=>by obtain ⟨hb,hb1⟩:=zQ hb;obtain rfl:b21=true:=hb;obtain rfl:=gF hb1;exact zJ3 (a:=t26.Tag) (b:=[]) (lq rfl) rfl rfl) ?_
 refine yCW (.d (db (b23 ||(t26.Tag== [])))) ?_
 refine Q36 ?_
 refine z7 p1 (fun p1=>?_) (fun p1=>?_)
 refine Q35 ?_
 refine zB ?_
 cases p1
 intro q;cases q
 exact ⟨rfl,wc⟩
 refine Q28 ?_
 cases p1
 exact wc
 refine zF ?_
 cases p1
 intro q;cases q
 exact ⟨rfl,wc⟩
 rintro y1 rfl
 replace h:=eL h
 refine Q3 ?_
 cases h
 refine zB ?_
 exact zI rfl
 rintro y1 rfl
 replace h:=eR h
 cases h
 exact zI rfl
theorem zK7 {a0 r} (h:zDP a0=some r):zG Tryz.prog 68 [(di a0)] [(di r)]:=by
 refine co Tryz.func68 ?_;intro _ _ _ _
 unfold zDP at h
 refine Q47 ?_
 refine q44 ?_
 have ⟨b5,hb5,h⟩:=bE h
 refine yG ((zC (lq rfl) rfl).bool (oi hb5)) ?_
 refine q13 (.d (di a0)) ?_
 refine q55 (.d (db (decide (a0≤4370)))) ?_
 refine Q36 ?_
 refine z7 h (fun h=>?_) (fun h=>?_)
 refine Q3 ?_
 cases h
 refine zB ?_
 exact zI rfl
 refine Q95 ?_
 refine q44 ?_
 have ⟨b11,hb11,h⟩:=bE h
 refine yG ((zC (lq rfl) rfl).bool (oi hb11)) ?_
 refine q13 (.d (di a0)) ?_
 refine q55 (.d (db (decide (a0≤4469)))) ?_
 refine Q36 ?_
 refine z7 h (fun h=>?_) (fun h=>?_)
 refine Q3 ?_
 cases h
 refine zB ?_
 exact zI rfl
 refine Q95 ?_
 refine q44 ?_
 have ⟨b17,hb17,h⟩:=bE h
 refine yG ((zC (lq rfl) rfl).bool (oi hb17)) ?_
 refine q13 (.d (di a0)) ?_
 refine q55 (.d (db (decide (a0≤4546)))) ?_
 refine Q36 ?_
 refine z7 h (fun h=>?_) (fun h=>?_)
 refine Q3 ?_
 cases h
 refine zB ?_
 exact zI rfl
 refine Q95 ?_
 refine q44 ?_
 have ⟨b23,hb23,h⟩:=bE h
 refine yG ((zC (lq rfl) rfl).bool (oi hb23)) ?_
 refine q13 (.d (di a0)) ?_
 refine q55 (.d (db (decide (a0≤55203)))) ?_
 refine Q36 ?_
 refine z7 h (fun h=>?_) (fun h=>?_)
 refine Q4 ?_
 refine q31 ?_
 have ⟨t29,ht29,h⟩:=bE h
 refine q91 ht29 ?_
 refine Q87 ?_
 refine z7 h (fun h=>?_) (fun h=>?_)
 refine Q3 ?_
 cases h
 refine zB ?_
 exact zI rfl
 refine Q58 ?_
 cases h
 refine zB ?_
 exact zI rfl
 refine Q58 ?_
 cases h
 refine zB ?_
 exact zI rfl
theorem zGL {a0 a1 r} (h:zBY a0 a1=some r):zG Tryz.prog 29 [(zT eSpan a0),(di a1)] [(di r)]:=by
 refine co Tryz.func29 ?_;intro _ _ _ _
 unfold zBY at h
 refine Q47 ?_
 have ⟨t7,ht7,h⟩:=bE h
 refine q8 (zJW ht7) ?_
 refine Q33 ?_
 refine z7 h (fun h=>?_) (fun h=>?_)
 refine Q3 ?_
 cases h
 refine zB ?_
 exact zI rfl
 refine Q93 ?_
 have ⟨y1,hy1,h⟩:=bE h
 refine zR y1 (.exit 0) (fun y1=>⟨[],[]⟩) .ret (fun y1=>⟨[(4,.d (di y1))],[]⟩) ?_ ?_ ?_
 refine zD (fun x=>⟨[(0,.d (zT eSpan a0)),(1,.d (di a1)),(5,.d (di x))],[]⟩) hy1 (wc) ?_
 rintro v5 sy1 p1
 replace p1:xD a0 a1 v5=some sy1:=p1
 unfold xD at p1
 refine Q12 ?_
 refine q4 S22 ?_
 refine Q6 ?_
 refine z7 p1 (fun p1=>?_) (fun p1=>?_)
 refine Q69 ?_
 have ⟨t17,ht17,p1⟩:=bE p1
 refine q11 S22 ht17 ?_
 refine q46 zGU ?_
 refine yG (z9 (en:=eSpan) (l:=a0) (i:=v5) (v:=t17) (off:=0) (lq rfl) O3 rfl ht17 rfl) ?_
 refine q0 ?_
 refine q70 ?_
 have ⟨b22,hb22,p1⟩:=bE p1
 refine yG ((zC (lq rfl) rfl).bool (oi hb22)) ?_
 refine q13 (.d (di a1)) ?_
 refine q13 (.d (zT eSpan a0)) ?_
 refine q13 (.d (di v5)) ?_
 have ⟨t26,ht26,p1⟩:=bE p1
 refine sqt (.ip (eSpan.all a0) (v5.toNat*eSpan.size)) rfl (fun hb=>by subst hb;exact kV (en:=eSpan) (lq rfl) S22 rfl rfl ht26) ?_
 refine z1Q (.ip (eSpan.all a0) (v5.toNat*eSpan.size+1)) zGV ?_
 refine sqt (.d (di t26.Hi)) rfl (fun hb=>by subst hb;exact z9 (en:=eSpan) (l:=a0) (i:=v5) (v:=t26) (off:=1) (lq rfl) O3 rfl ht26 rfl) ?_
 refine q55 (.d (db (decide (a1≤t26.Hi)))) ?_
 refine Q36 ?_
 refine z7 p1 (fun p1=>?_) (fun p1=>?_)
 refine Q15 ?_
 have ⟨t33,ht33,p1⟩:=bE p1
 refine q11 S22 ht33 ?_
 refine q46 zHT ?_
 refine yG (z9 (en:=eSpan) (l:=a0) (i:=v5) (v:=t33) (off:=2) (lq rfl) O3 rfl ht33 rfl) ?_
 refine Q1 ?_
 refine zB ?_
 cases p1
 intro q;cases q
 exact ⟨rfl,wc⟩
 refine Q28 ?_
 cases p1
 exact wc
 refine zF ?_
 cases p1
 intro q;cases q
 exact ⟨rfl,wc⟩
 rintro y1 rfl
 replace h:=eL h
 refine Q3 ?_
 cases h
 refine zB ?_
 exact zI rfl
 rintro y1 rfl
 replace h:=eR h
 cases h
 exact zI rfl
theorem zSR {a0 r} (h:zFI a0=some r):zG Tryz.prog 69 [(zT eMapping a0)] [(zT eB r)]:=by
 refine co Tryz.func69 ?_;intro _ _ _ _
 unfold zFI at h
 refine Q59 ?_
 refine q4 S23 ?_
 have ⟨r11,hr11,h⟩:=bE h
 refine yR rfl (z3X (en:=eB) (lq rfl) z8I rfl rfl hr11 (by decide) rfl) ?_
 refine Q13 ?_
 refine Q32 ?_
 have ⟨y1,hy1,h⟩:=bE h
 refine tl (.exit 0) ⟨[(3,.row 11)],[(11,.row 4 eB.size false (eB.all y1))]⟩ ?_ ?_
 refine zD (fun x=>⟨[(0,.d (zT eMapping a0)),(3,.row 11),(4,.d (di x.1))],[(11,.row 4 eB.size false (eB.all x.2))]⟩) hy1 (wc) ?_
 rintro ⟨v4,r11⟩ sy1 p1
 replace p1:u3 a0 v4 r11=some sy1:=p1
 unfold u3 at p1
 refine Q60 ?_
 refine z7 p1 (fun p1=>?_) (fun p1=>?_)
 refine Q8 ?_
 refine Q14 ?_
 have ⟨y2,hy2,p1⟩:=bE p1
 refine tl (.exit 2) ⟨[(0,.d (zT eMapping a0)),(3,.row 11),(4,.d (di v4))],[(11,.row 4 eB.size false (eB.all y2))]⟩ ?_ ?_
 refine zD (fun x=>⟨[(0,.d (zT eMapping a0)),(3,.row 11),(4,.d (di v4)),(5,.d (di x.1))],[(11,.row 4 eB.size false (eB.all x.2))]⟩) hy2 (wc) ?_
 rintro ⟨v5,r11⟩ sy2 p2
 replace p2:u2 a0 v5 r11=some sy2:=p2
 unfold u2 at p2
 refine Q60 ?_
 refine z7 p2 (fun p2=>?_) (fun p2=>?_)
 refine Q8 ?_
 refine Q74 ?_
 have ⟨y3,hy3,p2⟩:=bE p2
 refine tl (.exit 4) ⟨[(0,.d (zT eMapping a0)),(3,.row 11),(4,.d (di v4)),(5,.d (di v5)),(6,.d (db y3))],[(11,.row 4 eB.size false (eB.all r11))]⟩ ?_ ?_
 refine zD (fun x=>⟨[(0,.d (zT eMapping a0)),(3,.row 11),(4,.d (di v4)),(5,.d (di v5)),(6,.d (db x.1)),(7,.d (di x.2))],[(11,.row 4 eB.size false (eB.all r11))]⟩) hy3 (wc) ?_
 rintro ⟨v6,v7⟩ sy3 p3
 replace p3:wA a0 v5 r11 v6 v7=some sy3:=p3
 unfold wA at p3
 refine Q12 ?_
 refine q0 ?_
 have ⟨t27,ht27,p3⟩:=bE p3
 refine q11 S23 ht27 ?_
 refine q46 zB0 ?_
 refine q84 O33 ht27 ?_
 refine Q83 ?_
 refine z7 p3 (fun p3=>?_) (fun p3=>?_)
 refine Q69 ?_
 refine q0 ?_
 have ⟨t37,ht37,p3⟩:=bE p3
 refine q11 S23 ht37 ?_
 refine q46 zB0 ?_
 refine q84 O33 ht37 ?_
 refine q0 ?_
 have ⟨t41,ht41,p3⟩:=bE p3
 refine q11 yI ht41 ?_
 refine q35 O3 ht41 ?_
 have ⟨t43,ht43,p3⟩:=bE p3
 refine q8 (zC8 ht43) ?_
 refine Q1 ?_
 refine Q7 ?_
 have ⟨b45,hb45,p3⟩:=bE p3
 refine yG ((zC (lq rfl) rfl).bool (oi hb45)) ?_
 refine q13 (.d (di t43)) ?_
 refine q73 (.d (db (decide (t43 < 0)))) ?_
 have ⟨b48,hb48,p3⟩:=bE p3
 refine sqt (.d (db b48)) rfl (fun hb=>by subst hb;exact (zC (lq rfl) rfl).bool (oi hb48)) ?_
 refine xK (x:= .row 11) rfl rfl rfl (lq rfl) (lq rfl) rfl (fun hb=>by obtain ⟨hb,hb1⟩:=zQ hb;obtain rfl:b45=true:=hb;obtain rfl:=gF hb1;exact zFB (lq rfl) rfl) ?_
 refine xK (x:= .d (di t43)) rfl rfl rfl (lq rfl) (lq rfl) rfl (fun hb=>by obtain ⟨hb,hb1⟩:=zQ hb;obtain rfl:b45=true:=hb;obtain rfl:=gF hb1;exact zC (lq rfl) rfl) ?_
 have ⟨t51,ht51,p3⟩:=bE p3
 refine xK (x:= .ptr 11 (t43.toNat*eB.size)) rfl rfl rfl (lq rfl) (lq rfl) rfl (fun hb=>by obtain ⟨hb,hb1⟩:=zQ hb;obtain rfl:b45=true:=hb;obtain rfl:=gF hb1;exact zCG (en:=eB) (l:=r11) (lq rfl) z8I rfl rfl rfl ht51) ?_
 refine xK (x:= .d (db t51)) rfl rfl rfl (lq rfl) (lq rfl) rfl (fun hb=>by obtain ⟨hb,hb1⟩:=zQ hb;obtain rfl:b45=true:=hb;obtain rfl:=gF hb1;exact xA (en:=eB) (l:=r11) (i:=t43) (v:=t51) (off:=0) (lq rfl) O4 rfl rfl ht51 rfl) ?_
 refine yCW (.d (db (b48 ||t51))) ?_
 refine Q41 ?_
 refine Q11 ?_
 cases p3
 exact wc
 refine zF ?_
 cases p3
 intro q;cases q
 exact zH (wc)
 refine Q63 ?_
 have ⟨t58,ht58,p2⟩:=bE p2
 refine q80 z8I ht58 ?_
 have ⟨r11_4,hr11_4,p2⟩:=bE p2
 refine yR rfl (wP (en:=eB) (l:=r11) (i:=v5) (v:=t58) (off:=0) O4 rfl rfl rfl ht58 rfl (by decide) hr11_4 rfl rfl) ?_
 refine zJ<|Q11 ?_
 cases p2
 exact wc
 refine zF ?_
 cases p2
 intro q;cases q
 exact zH (wc)
 refine Q11 ?_
 cases p1
 exact wc
 refine zF ?_
 cases p1
 intro q;cases q
 exact zH (wc)
 refine Q61 ?_
 cases h
 refine zB ?_
 exact zI rfl
theorem zC9 {a0 r} (h:uK a0=some r):zG Tryz.prog 104 [(di a0)] [(zT eI r)]:=by
 refine co Tryz.func104 ?_;intro _ _ _ _
 unfold uK at h
 refine Q47 ?_
 have ⟨t6,ht6,h⟩:=bE h
 refine q8 (zK7 ht6) ?_
 refine Q6 ?_
 refine z7 h (fun h=>?_) (fun h=>?_)
 refine Q2 ?_
 refine q85 yI ?_
 refine Q13 ?_
 cases h
 refine zB ?_
 exact zI rfl
 refine zM<|Q2 ?_
 refine q31 ?_
 refine Q19 ?_
 have ⟨t13,ht13,h⟩:=bE h
 refine z1I ht13 ?_
 have ⟨t14,ht14,h⟩:=bE h
 refine z1I ht14 ?_
 refine q2 ?_
 refine q0 ?_
 have ⟨t17,ht17,h⟩:=bE h
 refine z1I ht17 ?_
 have ⟨t18,ht18,h⟩:=bE h
 refine q91 ht18 ?_
 refine q2 ?_
 refine q85 yI ?_
 refine Q13 ?_
 refine Q4 ?_
 have ⟨t22,ht22,h⟩:=bE h
 refine q91 ht22 ?_
 refine Q54 ?_
 have ⟨y1,hy1,h⟩:=bE h
 refine tl .normal ⟨[(4,.row 20)],[(20,.row 3 eI.size false (eI.all y1))]⟩ ?_ ?_
 refine z7 hy1 (fun hy1=>?_) (fun hy1=>?_)
 refine zSM ?_
 have ⟨t26,ht26,hy1⟩:=bE hy1
 refine q91 ht26 ?_
 refine q2 ?_
 refine q31 ?_
 refine q24 yI ?_
 have ⟨r20_2,hr20_2,hy1⟩:=bE hy1
 refine yR rfl (kW (en:=eI) (l:=[wi (4352+t14),wi (4449+t18)]) (m:=[wi ((wi (4520+t26)) - 1)]) (lq rfl) yI rfl rfl rfl hr20_2 (by decide) (by decide) rfl rfl) ?_
 refine Q13 ?_
 cases hy1
 exact zH (wc)
 refine zM ?_
 cases hy1
 exact zH (wc)
 refine Q61 ?_
 cases h
 refine zB ?_
 exact zI rfl
theorem zHY {a0 a1 r} (h:zBF a0 a1=some r):zG Tryz.prog 70 [(zT eMapping a0),(db a1)] [(zT eI r)]:=by
 refine co Tryz.func70 ?_;intro _ _ _ _
 unfold zBF at h
 refine Q59 ?_
 refine q4 S23 ?_
 have ⟨r13,hr13,h⟩:=bE h
 refine yR rfl (z3X (en:=eI) (lq rfl) yI rfl rfl hr13 (by decide) rfl) ?_
 refine Q13 ?_
 refine Q32 ?_
 have ⟨y1,hy1,h⟩:=bE h
 refine tl (.exit 0) ⟨[(5,.row 13)],[(13,.row 3 eI.size false (eI.all y1))]⟩ ?_ ?_
 refine zD (fun x=>⟨[(0,.d (zT eMapping a0)),(1,.d (db a1)),(5,.row 13),(6,.d (di x.1))],[(13,.row 3 eI.size false (eI.all x.2))]⟩) hy1 (wc) ?_
 rintro ⟨v6,r13⟩ sy1 p1
 replace p1:xX a0 a1 v6 r13=some sy1:=p1
 unfold xX at p1
 refine Q60 ?_
 refine z7 p1 (fun p1=>?_) (fun p1=>?_)
 refine Q8 ?_
 refine Q14 ?_
 have ⟨y2,hy2,p1⟩:=bE p1
 refine tl (.exit 2) ⟨[(0,.d (zT eMapping a0)),(1,.d (db a1)),(5,.row 13),(6,.d (di v6))],[(13,.row 3 eI.size false (eI.all y2))]⟩ ?_ ?_
 refine zD (fun x=>⟨[(0,.d (zT eMapping a0)),(1,.d (db a1)),(5,.row 13),(6,.d (di v6)),(7,.d (di x.1))],[(13,.row 3 eI.size false (eI.all x.2))]⟩) hy2 (wc) ?_
 rintro ⟨v7,r13⟩ sy2 p2
 replace p2:xW a0 a1 v7 r13=some sy2:=p2
 unfold xW at p2
 refine Q60 ?_
 refine z7 p2 (fun p2=>?_) (fun p2=>?_)
 refine Q5 ?_
 have ⟨y3,hy3,p2⟩:=bE p2
 refine tl .normal ⟨[(0,.d (zT eMapping a0)),(1,.d (db a1)),(5,.row 13),(6,.d (di v6)),(7,.d (di v7))],[(13,.row 3 eI.size false (eI.all y3))]⟩ ?_ ?_
 refine kA<|Q74 ?_
 have ⟨y4,hy4,hy3⟩:=bE hy3
 refine tl (.exit 4) ⟨[(0,.d (zT eMapping a0)),(1,.d (db a1)),(5,.row 13),(6,.d (di v6)),(7,.d (di v7)),(8,.d (di y4))],[(13,.row 3 eI.size false (eI.all r13))]⟩ ?_ ?_
 refine zD (fun x=>⟨[(0,.d (zT eMapping a0)),(1,.d (db a1)),(5,.row 13),(6,.d (di v6)),(7,.d (di v7)),(8,.d (di x.1)),(9,.d (di x.2))],[(13,.row 3 eI.size false (eI.all r13))]⟩) hy4 (wc) ?_
 rintro ⟨v8,v9⟩ sy4 p4
 replace p4:jT a0 v7 a1 r13 v8 v9=some sy4:=p4
 unfold jT at p4
 refine Q12 ?_
 refine q0 ?_
 have ⟨t29,ht29,p4⟩:=bE p4
 refine q11 S23 ht29 ?_
 refine q46 zB0 ?_
 refine q84 O33 ht29 ?_
 refine Q83 ?_
 refine z7 p4 (fun p4=>?_) (fun p4=>?_)
 refine Q5 ?_
 have ⟨y5,hy5,p4⟩:=bE p4
 refine tl .normal ⟨[(0,.d (zT eMapping a0)),(1,.d (db a1)),(5,.row 13),(6,.d (di v6)),(7,.d (di v7)),(8,.d (di y5)),(9,.d (di v9))],[(13,.row 3 eI.size false (eI.all r13))]⟩ ?_ ?_
 refine Q75 ?_
 refine q0 ?_
 have ⟨t39,ht39,hy5⟩:=bE hy5
 refine q11 S23 ht39 ?_
 refine q46 zB0 ?_
 refine q84 O33 ht39 ?_
 refine q0 ?_
 have ⟨t43,ht43,hy5⟩:=bE hy5
 refine q11 yI ht43 ?_
 refine q35 O3 ht43 ?_
 refine q0 ?_
 have ⟨t46,ht46,hy5⟩:=bE hy5
 refine q8 (zC8 ht46) ?_
 refine Q19 ?_
 refine Q99 ?_
 refine z7 hy5 (fun hy5=>?_) (fun hy5=>?_)
 refine Q7 ?_
 refine Q18 ?_
 have ⟨t52,ht52,hy5⟩:=bE hy5
 refine q80 yI ht52 ?_
 refine yG (xA (en:=eI) (l:=r13) (i:=t46) (v:=t52) (off:=0) (lq rfl) O3 rfl rfl ht52 rfl) ?_
 refine Q9 ?_
 cases hy5
 exact zH (wc)
 refine Q66 ?_
 refine q0 ?_
 have ⟨t58,ht58,hy5⟩:=bE hy5
 refine q11 S23 ht58 ?_
 refine q46 zB0 ?_
 refine q84 O33 ht58 ?_
 refine q0 ?_
 have ⟨t62,ht62,hy5⟩:=bE hy5
 refine q11 yI ht62 ?_
 refine q35 O3 ht62 ?_
 have ⟨t64,ht64,hy5⟩:=bE hy5
 refine q8 (zC9 ht64) ?_
 refine q4 yI ?_
 refine Q9 ?_
 cases hy5
 exact zH (wc)
 refine Q11 ?_
 cases p4
 exact wc
 refine zF ?_
 cases p4
 intro q;cases q
 exact zH (wc)
 refine Q86 ?_
 refine yCZ ?_
 refine z4Y ?_
 have ⟨t72,ht72,hy3⟩:=bE hy3
 refine q80 yI ht72 ?_
 have ⟨r13_6,hr13_6,hy3⟩:=bE hy3
 refine yR rfl (wP (en:=eI) (l:=r13) (i:=v7) (v:=t72) (off:=0) O3 rfl rfl rfl ht72 rfl (by decide) hr13_6 rfl rfl) ?_
 refine zJ<|Q15 ?_
 have ⟨t75,ht75,hy3⟩:=bE hy3
 refine q11 S23 ht75 ?_
 refine q46 zAW ?_
 refine yG (z9 (en:=eMapping) (l:=a0) (i:=v7) (v:=t75) (off:=2) (lq rfl) O9 rfl ht75 rfl) ?_
 refine z1J ?_
 have ⟨b79,hb79,hy3⟩:=bE hy3
 refine yG ((zC (lq rfl) rfl).bool (oi hb79)) ?_
 refine q13 (.d (db a1)) ?_
 refine z1F (.d (db (!a1))) ?_
 refine Q36 ?_
 refine z7 hy3 (fun hy3=>?_) (fun hy3=>?_)
 refine zSM ?_
 have ⟨t85,ht85,hy3⟩:=bE hy3
 refine q80 yI ht85 ?_
 have ⟨r13_7,hr13_7,hy3⟩:=bE hy3
 refine yR rfl (wP (en:=eI) (l:=r13_6) (i:=v7) (v:=t85) (off:=0) O3 rfl rfl rfl ht85 rfl (by decide) hr13_7 rfl rfl) ?_
 refine zJ ?_
 cases hy3
 exact zH (wc)
 refine zM ?_
 cases hy3
 exact zH (wc)
 refine Q11 ?_
 cases p2
 exact wc
 refine zF ?_
 cases p2
 intro q;cases q
 exact zH (wc)
 refine Q11 ?_
 cases p1
 exact wc
 refine zF ?_
 cases p1
 intro q;cases q
 exact zH (wc)
 refine Q61 ?_
 cases h
 refine zB ?_
 exact zI rfl
theorem zP5 {a0 r} (h:zEC a0=some r):zG Tryz.prog 30 [(eNorm.dv a0)] [(di r)]:=by
 refine co Tryz.func30 ?_;intro _ _ _ _
 unfold zEC at h
 refine Q40 ?_
 refine Q53 ?_
 refine q5 zK0 ?_
 refine q6 O22 ?_
 have ⟨t16,ht16,h⟩:=bE h
 refine q8 (zJW ht16) ?_
 refine Q62 ?_
 refine z7 h (fun h=>?_) (fun h=>?_)
 refine Q35 ?_
 cases h
 refine zB ?_
 exact zI rfl
 refine Q71 ?_
 refine Q89 ?_
 have ⟨t22,ht22,h⟩:=bE h
 refine q8 (zP2 ht22) ?_
 refine Q62 ?_
 refine z7 h (fun h=>?_) (fun h=>?_)
 refine Q35 ?_
 cases h
 refine zB ?_
 exact zI rfl
 refine Q71 ?_
 refine q5 z4I ?_
 refine q96 G26 ?_
 have ⟨t28,ht28,h⟩:=bE h
 refine q8 (zP4 ht28) ?_
 refine Q42 ?_
 refine z7 h (fun h=>?_) (fun h=>?_)
 refine Q3 ?_
 cases h
 refine zB ?_
 exact zI rfl
 refine Q50 ?_
 refine Q89 ?_
 refine Q96 ?_
 have ⟨y1,hy1,h⟩:=bE h
 refine zR y1 (.exit 0) (fun y1=>⟨[(1,.d (.pt (eNorm.cells a0))),(5,.d (zT eMapping a0.Decomp))],[]⟩) .ret (fun y1=>⟨[(2,.d (di y1))],[]⟩) ?_ ?_ ?_
 refine zD (fun x=>⟨[(1,.d (.pt (eNorm.cells a0))),(5,.d (zT eMapping a0.Decomp)),(6,.d (di x))],[]⟩) hy1 (wc) ?_
 rintro v6 sy1 p1
 replace p1:zAR a0 v6=some sy1:=p1
 unfold zAR at p1
 refine Q60 ?_
 refine z7 p1 (fun p1=>?_) (fun p1=>?_)
 refine Q69 ?_
 refine q0 ?_
 have ⟨t41,ht41,p1⟩:=bE p1
 refine q11 S23 ht41 ?_
 refine q46 zDR ?_
 refine yG (z9 (en:=eMapping) (l:=a0.Decomp) (i:=v6) (v:=t41) (off:=0) (lq rfl) O3 rfl ht41 rfl) ?_
 have ⟨t44,ht44,p1⟩:=bE p1
 refine q8 (zC8 ht44) ?_
 refine q0 ?_
 refine Q6 ?_
 refine z7 p1 (fun p1=>?_) (fun p1=>?_)
 refine Q17 ?_
 cases p1
 intro q;cases q
 exact ⟨rfl,wc⟩
 refine Q28 ?_
 cases p1
 exact wc
 refine zF ?_
 cases p1
 intro q;cases q
 exact ⟨rfl,wc⟩
 rintro y1 rfl
 replace h:=eL h
 refine Q32 ?_
 have ⟨y2,hy2,h⟩:=bE h
 refine zR y2 (.exit 2) (fun y2=>⟨[(1,.d (.pt (eNorm.cells a0))),(5,.d (zT eMapping a0.Decomp))],[]⟩) .ret (fun y2=>⟨[(2,.d (di y2))],[]⟩) ?_ ?_ ?_
 refine zD (fun x=>⟨[(1,.d (.pt (eNorm.cells a0))),(5,.d (zT eMapping a0.Decomp)),(7,.d (di x))],[]⟩) hy2 (wc) ?_
 rintro v7 sy2 p2
 replace p2:zAS a0 v7=some sy2:=p2
 unfold zAS at p2
 refine Q60 ?_
 refine z7 p2 (fun p2=>?_) (fun p2=>?_)
 refine Q69 ?_
 have ⟨t55,ht55,p2⟩:=bE p2
 refine q11 S23 ht55 ?_
 refine q46 zAW ?_
 refine yG (z9 (en:=eMapping) (l:=a0.Decomp) (i:=v7) (v:=t55) (off:=2) (lq rfl) O9 rfl ht55 rfl) ?_
 refine yG (zJ3 (a:=t55.Tag) (b:=[]) (lq rfl) rfl rfl) ?_
 have ⟨b59,hb59,p2⟩:=bE p2
 refine yG ((zC (lq rfl) rfl).bool (oi hb59)) ?_
 refine q13 (.d (zT eMapping a0.Decomp)) ?_
 refine q13 (.d (di v7)) ?_
 have ⟨t62,ht62,p2⟩:=bE p2
 refine sqt (.ip (eMapping.all a0.Decomp) (v7.toNat*eMapping.size)) rfl (fun hb=>by subst hb;exact kV (en:=eMapping) (lq rfl) S23 rfl rfl ht62) ?_
 refine z1Q (.ip (eMapping.all a0.Decomp) (v7.toNat*eMapping.size+1)) zB0 ?_
 refine sqt (.d (zT eI t62.To)) rfl (fun hb=>by subst hb;exact z9 (en:=eMapping) (l:=a0.Decomp) (i:=v7) (v:=t62) (off:=1) (lq rfl) O33 rfl ht62 rfl) ?_
 refine z4T (.d (di (t62.To.length:Int))) yI ?_
 refine z42 (.d (db (!decide ((t62.To.length:Int)=1)))) ?_
 refine q14 ?_
 have ⟨b68,hb68,p2⟩:=bE p2
 refine yG ((zC (lq rfl) rfl).bool (oi hb68)) ?_
 refine q13 (.d (zT eMapping a0.Decomp)) ?_
 refine q13 (.d (di v7)) ?_
 have ⟨t71,ht71,p2⟩:=bE p2
 refine sqt (.ip (eMapping.all a0.Decomp) (v7.toNat*eMapping.size)) rfl (fun hb=>by subst hb;exact kV (en:=eMapping) (lq rfl) S23 rfl rfl ht71) ?_
 refine z1Q (.ip (eMapping.all a0.Decomp) (v7.toNat*eMapping.size+1)) zB0 ?_
 refine sqt (.d (zT eI t71.To)) rfl (fun hb=>by subst hb;exact z9 (en:=eMapping) (l:=a0.Decomp) (i:=v7) (v:=t71) (off:=1) (lq rfl) O33 rfl ht71 rfl) ?_
 refine z4T (.d (di (t71.To.length:Int))) yI ?_
 refine z42 (.d (db (!decide ((t71.To.length:Int)=2)))) ?_
 refine Q36 ?_
 refine z7 p2 (fun p2=>?_) (fun p2=>?_)
 refine Q17 ?_
 cases p2
 intro q;cases q
 exact ⟨rfl,wc⟩
 refine Q28 ?_
 cases p2
 exact wc
 refine zF ?_
 cases p2
 intro q;cases q
 exact ⟨rfl,wc⟩
 rintro y2 rfl
 replace h:=eL h
 refine Q32 ?_
 have ⟨y3,hy3,h⟩:=bE h
 refine zR y3 (.exit 4) (fun y3=>⟨[(5,.d (zT eMapping a0.Decomp))],[]⟩) .ret (fun y3=>⟨[(2,.d (di y3))],[]⟩) ?_ ?_ ?_
 refine zD (fun x=>⟨[(1,.d (.pt (eNorm.cells a0))),(5,.d (zT eMapping a0.Decomp)),(8,.d (di x))],[]⟩) hy3 (wc) ?_
 rintro v8 sy3 p3
 replace p3:zAT a0 v8=some sy3:=p3
 unfold zAT at p3
 refine Q60 ?_
 refine z7 p3 (fun p3=>?_) (fun p3=>?_)
 refine Q65 ?_
 refine yD MX rfl ?_
 refine Q27 ?_
 have ⟨t85,ht85,p3⟩:=bE p3
 refine q23 S23 ht85 ?_
 refine q52 zDR ?_
 refine z44 O3 ht85 ?_
 have ⟨t88,ht88,p3⟩:=bE p3
 refine q22 (zK7 ht88) ?_
 refine u6 (zQM (lq rfl) rfl rfl) ?_
 have ⟨b90,hb90,p3⟩:=bE p3
 refine u6 ((zC (lq rfl) rfl).bool (oi hb90)) ?_
 refine q50 (.d (zT eMapping a0.Decomp)) ?_
 refine q50 (.d (di v8)) ?_
 have ⟨t93,ht93,p3⟩:=bE p3
 refine daf (.ip (eMapping.all a0.Decomp) (v8.toNat*eMapping.size)) rfl (fun hb=>by subst hb;exact kV (en:=eMapping) (lq rfl) S23 rfl rfl ht93) ?_
 refine q82 (.ip (eMapping.all a0.Decomp) (v8.toNat*eMapping.size+2)) zAW ?_
 refine daf (.d (ds t93.Tag)) rfl (fun hb=>by subst hb;exact z9 (en:=eMapping) (l:=a0.Decomp) (i:=v8) (v:=t93) (off:=2) (lq rfl) O9 rfl ht93 rfl) ?_
 refine daf (.d (db (!(t93.Tag== [])))) rfl (fun hb=>by subst hb;exact zWX (a:=t93.Tag) (b:=[]) (lq rfl) rfl rfl) ?_
 have ⟨b97,hb97,p3⟩:=bE p3
 refine daf (.d (db b97)) rfl (fun hb=>by subst hb;exact (zC (lq rfl) rfl).bool (oi hb97)) ?_
 refine zCD (x:= .ip (eNorm.cells a0) (0+0)) rfl rfl rfl (lq rfl) (lq rfl) rfl (fun hb=>by obtain ⟨hb,hb1⟩:=zQ hb;obtain rfl:=gF hb;obtain rfl:b97=true:=hb1;exact zAA (lq rfl) zK0 rfl) ?_
 refine zCD (x:= .d (zT eSpan a0.Classes)) rfl rfl rfl (lq rfl) (lq rfl) rfl (fun hb=>by obtain ⟨hb,hb1⟩:=zQ hb;obtain rfl:=gF hb;obtain rfl:b97=true:=hb1;exact uE (lq rfl) O22 rfl rfl) ?_
 refine zCD (x:= .d (zT eMapping a0.Decomp)) rfl rfl rfl (lq rfl) (lq rfl) rfl (fun hb=>by obtain ⟨hb,hb1⟩:=zQ hb;obtain rfl:=gF hb;obtain rfl:b97=true:=hb1;exact zC (lq rfl) rfl) ?_
 refine zCD (x:= .d (di v8)) rfl rfl rfl (lq rfl) (lq rfl) rfl (fun hb=>by obtain ⟨hb,hb1⟩:=zQ hb;obtain rfl:=gF hb;obtain rfl:b97=true:=hb1;exact zC (lq rfl) rfl) ?_
 have ⟨t102,ht102,p3⟩:=bE p3
 refine zCD (x:= .ip (eMapping.all a0.Decomp) (v8.toNat*eMapping.size)) rfl rfl rfl (lq rfl) (lq rfl) rfl (fun hb=>by obtain ⟨hb,hb1⟩:=zQ hb;obtain rfl:=gF hb;obtain rfl:b97=true:=hb1;exact kV (en:=eMapping) (lq rfl) S23 rfl rfl ht102) ?_
 refine zCD (x:= .ip (eMapping.all a0.Decomp) (v8.toNat*eMapping.size+0)) rfl rfl rfl (lq rfl) (lq rfl) rfl (fun hb=>by obtain ⟨hb,hb1⟩:=zQ hb;obtain rfl:=gF hb;obtain rfl:b97=true:=hb1;exact j6 (lq rfl) zDR rfl) ?_
 refine zCD (x:= .d (di t102.From)) rfl rfl rfl (lq rfl) (lq rfl) rfl (fun hb=>by obtain ⟨hb,hb1⟩:=zQ hb;obtain rfl:=gF hb;obtain rfl:b97=true:=hb1;exact z9 (en:=eMapping) (l:=a0.Decomp) (i:=v8) (v:=t102) (off:=0) (lq rfl) O3 rfl ht102 rfl) ?_
 have ⟨t105,ht105,p3⟩:=bE p3
 refine zCD (x:= .d (di t105)) rfl rfl rfl (lq rfl) (lq rfl) rfl (fun hb=>by obtain ⟨hb,hb1⟩:=zQ hb;obtain rfl:=gF hb;obtain rfl:b97=true:=hb1;exact zBH (lq rfl) rfl (zGL ht105)) ?_
 refine zCD (x:= .d (db (!decide (t105=0)))) rfl rfl rfl (lq rfl) (lq rfl) rfl (fun hb=>by obtain ⟨hb,hb1⟩:=zQ hb;obtain rfl:=gF hb;obtain rfl:b97=true:=hb1;exact zQM (lq rfl) rfl rfl) ?_
 refine daf (.d (db (b97&&(!decide (t105=0))))) rfl (fun hb=>by subst hb;exact zDJ (lq rfl) rfl rfl) ?_
 refine q95 ?_
 refine vP ?_
 refine z7 p3 (fun p3=>?_) (fun p3=>?_)
 refine Q17 ?_
 cases p3
 intro q;cases q
 exact ⟨rfl,wc⟩
 refine Q28 ?_
 cases p3
 exact wc
 refine zF ?_
 cases p3
 intro q;cases q
 exact ⟨rfl,wc⟩
 rintro y3 rfl
 replace h:=eL h
 refine Q2 ?_
 have ⟨t110,ht110,h⟩:=bE h
 refine q8 (zSR ht110) ?_
 refine Q96 ?_
 have ⟨y4,hy4,h⟩:=bE h
 refine zR y4 (.exit 6) (fun y4=>⟨[(5,.d (zT eMapping a0.Decomp))],[]⟩) .ret (fun y4=>⟨[(2,.d (di y4))],[]⟩) ?_ ?_ ?_
 refine zD (fun x=>⟨[(5,.d (zT eMapping a0.Decomp)),(9,.d (zT eB t110)),(10,.d (di x))],[]⟩) hy4 (wc) ?_
 rintro v10 sy4 p4
 replace p4:zAU a0 t110 v10=some sy4:=p4
 unfold zAU at p4
 refine Q60 ?_
 refine z7 p4 (fun p4=>?_) (fun p4=>?_)
 refine Q69 ?_
 have ⟨t119,ht119,p4⟩:=bE p4
 refine q11 z8I ht119 ?_
 refine yG (z9 (en:=eB) (l:=t110) (i:=v10) (v:=t119) (off:=0) (lq rfl) O4 rfl ht119 rfl) ?_
 refine Q42 ?_
 refine z7 p4 (fun p4=>?_) (fun p4=>?_)
 refine Q17 ?_
 cases p4
 intro q;cases q
 exact ⟨rfl,wc⟩
 refine Q28 ?_
 cases p4
 exact wc
 refine zF ?_
 cases p4
 intro q;cases q
 exact ⟨rfl,wc⟩
 rintro y4 rfl
 replace h:=eL h
 refine Q2 ?_
 have ⟨t123,ht123,h⟩:=bE h
 refine q8 (zHY ht123) ?_
 refine q0 ?_
 have ⟨t125,ht125,h⟩:=bE h
 refine q8 (zHY ht125) ?_
 refine q1 ?_
 refine Q96 ?_
 have ⟨y5,hy5,h⟩:=bE h
 refine zR y5 (.exit 8) (fun y5=>⟨[],[]⟩) .ret (fun y5=>⟨[(2,.d (di y5))],[]⟩) ?_ ?_ ?_
 refine zD (fun x=>⟨[(5,.d (zT eMapping a0.Decomp)),(11,.d (zT eI t123)),(12,.d (zT eI t125)),(13,.d (di x))],[]⟩) hy5 (wc) ?_
 rintro v13 sy5 p5
 replace p5:zAV a0 t123 t125 v13=some sy5:=p5
 unfold zAV at p5
 refine Q60 ?_
 refine z7 p5 (fun p5=>?_) (fun p5=>?_)
 refine Q69 ?_
 have ⟨t134,ht134,p5⟩:=bE p5
 refine q11 yI ht134 ?_
 refine q35 O3 ht134 ?_
 refine q37 ?_
 have ⟨b137,hb137,p5⟩:=bE p5
 refine yG ((zC (lq rfl) rfl).bool (oi hb137)) ?_
 refine q38 (.d (zT eI t125)) ?_
 refine q38 (.d (di v13)) ?_
 have ⟨t140,ht140,p5⟩:=bE p5
 refine sqf (.ip (eI.all t125) (v13.toNat*eI.size)) rfl (fun hb=>by subst hb;exact kV (en:=eI) (lq rfl) yI rfl rfl ht140) ?_
 refine sqf (.d (di t140)) rfl (fun hb=>by subst hb;exact z9 (en:=eI) (l:=t125) (i:=v13) (v:=t140) (off:=0) (lq rfl) O3 rfl ht140 rfl) ?_
 refine q43 (.d (db (decide (64 < t140)))) ?_
 refine Q37 ?_
 refine z7 p5 (fun p5=>?_) (fun p5=>?_)
 refine Q17 ?_
 cases p5
 intro q;cases q
 exact ⟨rfl,wc⟩
 refine Q28 ?_
 cases p5
 exact wc
 refine zF ?_
 cases p5
 intro q;cases q
 exact ⟨rfl,wc⟩
 rintro y5 rfl
 replace h:=eL h
 refine Q3 ?_
 cases h
 refine zB ?_
 exact zI rfl
 rintro y5 rfl
 replace h:=eR h
 cases h
 exact zI rfl
 rintro y4 rfl
 replace h:=eR h
 cases h
 exact zI rfl
 rintro y3 rfl
 replace h:=eR h
 cases h
 exact zI rfl
 rintro y2 rfl
 replace h:=eR h
 cases h
 exact zI rfl
 rintro y1 rfl
 replace h:=eR h
 cases h
 exact zI rfl
theorem zSS {a0 r} (h:zFJ a0=some r):zG Tryz.prog 11 [(eNorm.dv a0)] [(eNorm.dv r)]:=by
 refine co Tryz.func11 ?_;intro _ _ _ _
 unfold zFJ at h
 refine Q40 ?_
 refine yC0 ?_
 refine zXS ?_
 refine q21 G28 ?_
 have ⟨t4,ht4,h⟩:=bE h
 refine q8 (zP5 ht4) ?_
 refine Q33 ?_
 refine z7 h (fun h=>?_) (fun h=>?_)
 refine Q0 ?_
 refine yG ((zC4 (lq rfl) B28 rfl rfl).nils (bs:=eNorm.cells ({Classes:=[],Decomp:=[],Excluded:=(({Ranges:=[]}):Set)}:Norm)) (nlN (nlN (nlN nl0)))) ?_
 refine q16 G28 ?_
 refine zJ ?_
 cases h
 refine zB ?_
 exact vF rfl rfl G28 rfl
 refine Q50 ?_
 refine q21 G28 ?_
 refine q16 G28 ?_
 refine zJ ?_
 cases h
 refine zB ?_
 exact vF rfl rfl G28 rfl
theorem zK8 {a0 a1 a2 r} (h:xI a0 a1 a2=some r):zG Tryz.prog 108 [(di a0),(di a1),(.pt [(zT eSpan a2)])] [(di r)]:=by
 refine co Tryz.func108 ?_;intro _ _ _ _
 unfold xI at h
 refine Q3 ?_
 refine kU ?_
 refine yD MX rfl ?_
 refine z45 O22 ?_
 refine q7 ?_
 have ⟨t8,ht8,h⟩:=bE h
 refine q22 (zDT ht8) ?_
 refine z45 O22 ?_
 refine q7 ?_
 have ⟨t11,ht11,h⟩:=bE h
 refine q22 (zDT ht11) ?_
 have ⟨t12,ht12,h⟩:=bE h
 refine q22 (xE ht12) ?_
 refine Q51 ?_
 cases h
 refine zB ?_
 exact zI rfl
set_option maxHeartbeats 8000000 in
theorem uB {fv3:DV} {a0:(List Int)} {a1:Int} {a2:Int} {a3:Int→Int→Option (Int)} (hf3:∀x0 x1 y,a3 x0 x1=some y→FnC Tryz.prog fv3 [(di x0),(di x1)] [(di y)]) {r:(List Int)} (h:yV a0 a1 a2 a3=some r):GC Tryz.prog 142 [.row 3000,.d (di a1),.d (di a2),.d fv3] [(3000,.win 3 eI.size 0 (eI.all a0))] [3000] [] [(3000,.win 3 eI.size 0 (eI.all r))]:=by
 refine zCE Tryz.func142 (by kernel_rfl) rfl (lq rfl) (lq rfl) fun w0 I0 hG0 p0=>?_
 unfold yV at h
 refine Q2 ?_
 refine Q9 ?_
 refine kA ?_
 have ⟨y1,hy1,h⟩:=bE h
 refine tl (.exit 0) ⟨[(0,.row 3000)],[(3000,.win 3 eI.size 0 (eI.all y1))]⟩ ?_ ?_
 refine zD (fun x=>⟨[(0,.row 3000),(1,.d (di a1)),(2,.d (di a2)),(3,.d fv3),(8,.d (di x.1))],[(3000,.win 3 eI.size 0 (eI.all x.2))]⟩) hy1 (wc) ?_
 rintro ⟨v8,r3000⟩ sy1 p1
 replace p1:zS a2 a1 a3 v8 r3000=some sy1:=p1
 unfold zS at p1
 refine Q72 ?_
 refine z7 p1 (fun p1=>?_) (fun p1=>?_)
 refine Q8 ?_
 refine Q35 ?_
 refine kA ?_
 have ⟨y2,hy2,p1⟩:=bE p1
 refine tl (.exit 2) ⟨[(0,.row 3000),(1,.d (di a1)),(2,.d (di a2)),(3,.d fv3),(8,.d (di v8))],[(3000,.win 3 eI.size 0 (eI.all y2))]⟩ ?_ ?_
 refine zD (fun x=>⟨[(0,.row 3000),(1,.d (di a1)),(2,.d (di a2)),(3,.d fv3),(8,.d (di v8)),(9,.d (di x.1))],[(3000,.win 3 eI.size 0 (eI.all x.2))]⟩) hy2 (wc) ?_
 rintro ⟨v9,r3000⟩ sy2 p2
 replace p2:zV a1 a3 v9 r3000=some sy2:=p2
 unfold zV at p2
 refine kU<|kU ?_
 refine yD MX rfl ?_
 refine Q27 ?_
 refine z1H ?_
 have ⟨b21,hb21,p2⟩:=bE p2
 refine u6 ((zC (lq rfl) rfl).bool (oi hb21)) ?_
 refine q59 (.d fv3) ?_
 refine z43 (.row 3000) ?_
 refine q59 (.d (di v9)) ?_
 have ⟨t25,ht25,p2⟩:=bE p2
 refine dat (.wp 3000 (v9.toNat*eI.size)) rfl (fun hb=>by subst hb;exact zD6 (en:=eI) (l:=r3000) (lq rfl) yI rfl rfl rfl ht25) ?_
 refine dat (.d (di t25)) rfl (fun hb=>by subst hb;exact zHH (en:=eI) (l:=r3000) (i:=v9) (v:=t25) (lq rfl) O3 rfl rfl ht25 rfl) ?_
 refine z43 (.row 3000) ?_
 refine q59 (.d (di v9)) ?_
 refine z4U (.d (di (wi (v9 - 1)))) ?_
 have ⟨t30,ht30,p2⟩:=bE p2
 refine dat (.wp 3000 ((wi (v9 - 1)).toNat*eI.size)) rfl (fun hb=>by subst hb;exact zD6 (en:=eI) (l:=r3000) (lq rfl) yI rfl rfl rfl ht30) ?_
 refine dat (.d (di t30)) rfl (fun hb=>by subst hb;exact zHH (en:=eI) (l:=r3000) (i:=(wi (v9 - 1))) (v:=t30) (lq rfl) O3 rfl rfl ht30 rfl) ?_
 have ⟨t32,ht32,p2⟩:=bE p2
 refine dat (.d (di t32)) rfl (fun hb=>by subst hb;exact zDX (lq rfl) rfl rfl (hf3 _ _ _ ht32)) ?_
 refine dat (.d (db (decide (t32 < 0)))) rfl (fun hb=>by subst hb;exact zML (lq rfl) rfl rfl) ?_
 refine Q98 ?_
 refine z7 p2 (fun p2=>?_) (fun p2=>?_)
 refine Q8 ?_
 have ⟨t45,ht45,p2⟩:=bE p2
 have ⟨t49,ht49,p2⟩:=bE p2
 have ⟨t51,ht51,p2⟩:=bE p2
 have ⟨r3000_6x15,hr3000_6x15,p2⟩:=bE p2
 have ⟨t52,ht52,p2⟩:=bE p2
 have ⟨r3000_6x17,hr3000_6x17,p2⟩:=bE p2
 refine tl .normal ⟨[(0,.row 3000),(1,.d (di a1)),(2,.d (di a2)),(3,.d fv3),(8,.d (di v8)),(9,.d (di v9))],[(3000,.win 3 eI.size 0 (eI.all r3000_6x17))]⟩ ?_ ?_
 refine zDY MX ?_
 refine z13 ?_
 refine xm 3 ?_
 refine zHI (i:=4) rfl (lq rfl) rfl rfl rfl rfl rfl rfl ?_
 refine xm 5 ?_
 refine xm 6 ?_
 refine zHI (i:=7) rfl (lq rfl) rfl rfl rfl rfl rfl rfl ?_
 refine xm 10 ?_
 refine xm 11 ?_
 refine xn [8,12] ?_
 refine zVE yI ht45 ?_ ?_
 refine xn [9,12] ?_
 refine q76 O3 ht45 ?_ ?_
 refine xn [12] ?_
 refine q17 yI ht49 ?_
 refine xn [13] ?_
 refine q30 O3 ht49 ?_
 refine xn [14] ?_
 refine q17 yI ht51 ?_
 refine xn [15] ?_
 refine q20 O3 ht51 hr3000_6x15 ?_
 refine xn [16] ?_
 refine q17 yI ht52 ?_
 refine xn [17] ?_
 refine q20 O3 ht52 hr3000_6x17 ?_
 exact ae
 refine q17 yI ht49 ?_
 refine xn [9,13] ?_
 refine q76 O3 ht45 ?_ ?_
 refine xn [13] ?_
 refine q30 O3 ht49 ?_
 refine xn [14] ?_
 refine q17 yI ht51 ?_
 refine xn [15] ?_
 refine q20 O3 ht51 hr3000_6x15 ?_
 refine xn [16] ?_
 refine q17 yI ht52 ?_
 refine xn [17] ?_
 refine q20 O3 ht52 hr3000_6x17 ?_
 exact ae
 refine q30 O3 ht49 ?_
 refine xn [9] ?_
 refine q30 O3 ht45 ?_
 refine xn [14] ?_
 refine q17 yI ht51 ?_
 refine xn [15] ?_
 refine q20 O3 ht51 hr3000_6x15 ?_
 refine xn [16] ?_
 refine q17 yI ht52 ?_
 refine xn [17] ?_
 refine q20 O3 ht52 hr3000_6x17 ?_
 exact ae
 refine q17 yI ht49 ?_
 refine xn [8,13] ?_
 refine zVE yI ht45 ?_ ?_
 refine xn [9,13] ?_
 refine q76 O3 ht45 ?_ ?_
 refine xn [13] ?_
 refine q30 O3 ht49 ?_
 refine xn [14] ?_
 refine q17 yI ht51 ?_
 refine xn [15] ?_
 refine q20 O3 ht51 hr3000_6x15 ?_
 refine xn [16] ?_
 refine q17 yI ht52 ?_
 refine xn [17] ?_
 refine q20 O3 ht52 hr3000_6x17 ?_
 exact ae
 refine q30 O3 ht49 ?_
 refine xn [9] ?_
 refine q30 O3 ht45 ?_
 refine xn [14] ?_
 refine q17 yI ht51 ?_
 refine xn [15] ?_
 refine q20 O3 ht51 hr3000_6x15 ?_
 refine xn [16] ?_
 refine q17 yI ht52 ?_
 refine xn [17] ?_
 refine q20 O3 ht52 hr3000_6x17 ?_
 exact ae
 refine q30 O3 ht49 ?_
 refine xn [8] ?_
 refine q17 yI ht45 ?_
 refine xn [9] ?_
 refine q30 O3 ht45 ?_
 refine xn [14] ?_
 refine q17 yI ht51 ?_
 refine xn [15] ?_
 refine q20 O3 ht51 hr3000_6x15 ?_
 refine xn [16] ?_
 refine q17 yI ht52 ?_
 refine xn [17] ?_
 refine q20 O3 ht52 hr3000_6x17 ?_
 exact ae
 refine Q7 ?_
 refine Q73 ?_
 cases p2
 exact wc
 refine zF ?_
 cases p2
 intro q;cases q
 exact zH (wc)
 refine Q11 ?_
 cases p1
 exact wc
 refine zF ?_
 cases p1
 intro q;cases q
 exact zH (wc)
 cases h
 exact ⟨rfl,⟨rfl,trivial⟩⟩
set_option maxHeartbeats 8000000 in
theorem wM {fv4:DV} {a0:(List Int)} {a1:Int} {a2:Int} {a3:Int} {a4:Int→Int→Option (Int)} (hf4:∀x0 x1 y,a4 x0 x1=some y→FnC Tryz.prog fv4 [(di x0),(di x1)] [(di y)]) {r:(List Int)} (h:yW a0 a1 a2 a3 a4=some r):GC Tryz.prog 159 [.row 3000,.d (di a1),.d (di a2),.d (di a3),.d fv4] [(3000,.win 3 eI.size 0 (eI.all a0))] [3000] [] [(3000,.win 3 eI.size 0 (eI.all r))]:=by
 refine zCE Tryz.func159 (by kernel_rfl) rfl (lq rfl) (lq rfl) fun w0 I0 hG0 p0=>?_
 unfold yW at h
 refine Q14 ?_
 have ⟨y1,hy1,h⟩:=bE h
 refine tl (.exit 0) ⟨[(0,.row 3000)],[(3000,.win 3 eI.size 0 (eI.all y1))]⟩ ?_ ?_
 refine zD (fun x=>⟨[(0,.row 3000),(1,.d (di a1)),(2,.d (di a2)),(3,.d (di a3)),(10,.d (di x.1))],[(3000,.win 3 eI.size 0 (eI.all x.2))]⟩) hy1 (wc) ?_
 rintro ⟨v10,r3000⟩ sy1 p1
 replace p1:yJ a3 a2 a1 v10 r3000=some sy1:=p1
 unfold yJ at p1
 refine Q72 ?_
 refine z7 p1 (fun p1=>?_) (fun p1=>?_)
 refine Q8 ?_
 have ⟨t28,ht28,p1⟩:=bE p1
 have ⟨t34,ht34,p1⟩:=bE p1
 have ⟨t36,ht36,p1⟩:=bE p1
 have ⟨r3000_3x21,hr3000_3x21,p1⟩:=bE p1
 have ⟨t37,ht37,p1⟩:=bE p1
 have ⟨r3000_3x23,hr3000_3x23,p1⟩:=bE p1
 refine tl .normal ⟨[(0,.row 3000),(1,.d (di a1)),(2,.d (di a2)),(3,.d (di a3)),(10,.d (di v10))],[(3000,.win 3 eI.size 0 (eI.all r3000_3x23))]⟩ ?_ ?_
 refine zDY MX ?_
 refine z13 ?_
 refine zI2 (i:=3) rfl (lq rfl) rfl rfl rfl rfl rfl rfl ?_
 refine xm 4 ?_
 refine xm 5 ?_
 refine xm 6 ?_
 refine zI2 (i:=7) rfl (lq rfl) rfl rfl rfl rfl rfl rfl ?_
 refine xm 8 ?_
 refine xm 9 ?_
 refine xm 10 ?_
 refine zI2 (i:=11) rfl (lq rfl) rfl rfl rfl rfl rfl rfl ?_
 refine xm 14 ?_
 refine xm 15 ?_
 refine xm 16 ?_
 refine zI2 (i:=17) rfl (lq rfl) rfl rfl rfl rfl rfl rfl ?_
 refine xn [12,18] ?_
 refine zVE yI ht28 ?_ ?_
 refine xn [13,18] ?_
 refine q76 O3 ht28 ?_ ?_
 refine xn [18] ?_
 refine q17 yI ht34 ?_
 refine xn [19] ?_
 refine q30 O3 ht34 ?_
 refine xn [20] ?_
 refine q17 yI ht36 ?_
 refine xn [21] ?_
 refine q20 O3 ht36 hr3000_3x21 ?_
 refine xn [22] ?_
 refine q17 yI ht37 ?_
 refine xn [23] ?_
 refine q20 O3 ht37 hr3000_3x23 ?_
 exact ae
 refine q17 yI ht34 ?_
 refine xn [13,19] ?_
 refine q76 O3 ht28 ?_ ?_
 refine xn [19] ?_
 refine q30 O3 ht34 ?_
 refine xn [20] ?_
 refine q17 yI ht36 ?_
 refine xn [21] ?_
 refine q20 O3 ht36 hr3000_3x21 ?_
 refine xn [22] ?_
 refine q17 yI ht37 ?_
 refine xn [23] ?_
 refine q20 O3 ht37 hr3000_3x23 ?_
 exact ae
 refine q30 O3 ht34 ?_
 refine xn [13] ?_
 refine q30 O3 ht28 ?_
 refine xn [20] ?_
 refine q17 yI ht36 ?_
 refine xn [21] ?_
 refine q20 O3 ht36 hr3000_3x21 ?_
 refine xn [22] ?_
 refine q17 yI ht37 ?_
 refine xn [23] ?_
 refine q20 O3 ht37 hr3000_3x23 ?_
 exact ae
 refine q17 yI ht34 ?_
 refine xn [12,19] ?_
 refine zVE yI ht28 ?_ ?_
 refine xn [13,19] ?_
 refine q76 O3 ht28 ?_ ?_
 refine xn [19] ?_
 refine q30 O3 ht34 ?_
 refine xn [20] ?_
 refine q17 yI ht36 ?_
 refine xn [21] ?_
 refine q20 O3 ht36 hr3000_3x21 ?_
 refine xn [22] ?_
 refine q17 yI ht37 ?_
 refine xn [23] ?_
 refine q20 O3 ht37 hr3000_3x23 ?_
 exact ae
 refine q30 O3 ht34 ?_
 refine xn [13] ?_
 refine q30 O3 ht28 ?_
 refine xn [20] ?_
 refine q17 yI ht36 ?_
 refine xn [21] ?_
 refine q20 O3 ht36 hr3000_3x21 ?_
 refine xn [22] ?_
 refine q17 yI ht37 ?_
 refine xn [23] ?_
 refine q20 O3 ht37 hr3000_3x23 ?_
 exact ae
 refine q30 O3 ht34 ?_
 refine xn [12] ?_
 refine q17 yI ht28 ?_
 refine xn [13] ?_
 refine q30 O3 ht28 ?_
 refine xn [20] ?_
 refine q17 yI ht36 ?_
 refine xn [21] ?_
 refine q20 O3 ht36 hr3000_3x21 ?_
 refine xn [22] ?_
 refine q17 yI ht37 ?_
 refine xn [23] ?_
 refine q20 O3 ht37 hr3000_3x23 ?_
 exact ae
 refine Q11 ?_
 cases p1
 exact wc
 refine zF ?_
 cases p1
 intro q;cases q
 exact zH (wc)
 cases h
 exact ⟨rfl,⟨rfl,trivial⟩⟩
theorem zFP {fv4:DV} {a0:(List Int)} {a1:Int} {a2:Int} {a3:Int} {a4:Int→Int→Option (Int)} (hf4:∀x0 x1 y,a4 x0 x1=some y→FnC Tryz.prog fv4 [(di x0),(di x1)] [(di y)]) {r:(List Int)} (h:jG a0 a1 a2 a3 a4=some r):GC Tryz.prog 148 [.row 3000,.d (di a1),.d (di a2),.d (di a3),.d fv4] [(3000,.win 3 eI.size 0 (eI.all a0))] [3000] [] [(3000,.win 3 eI.size 0 (eI.all r))]:=by
 refine zCE Tryz.func148 (by kernel_rfl) rfl (lq rfl) (lq rfl) fun w0 I0 hG0 p0=>?_
 unfold jG at h
 refine Q15 ?_
 refine Q73 ?_
 refine Q15 ?_
 refine q31 ?_
 refine Q76 ?_
 have ⟨y1,hy1,h⟩:=bE h
 refine tl (.exit 0) ⟨[(0,.row 3000),(2,.d (di a2)),(4,.d fv4),(10,.d (di y1.1))],[(3000,.win 3 eI.size 0 (eI.all y1.2))]⟩ ?_ ?_
 refine zD (fun x=>⟨[(0,.row 3000),(2,.d (di a2)),(4,.d fv4),(10,.d (di x.1)),(11,.d (di x.2.1))],[(3000,.win 3 eI.size 0 (eI.all x.2.2))]⟩) hy1 (wc) ?_
 rintro ⟨v10,v11,r3000⟩ sy1 p1
 replace p1:yA a2 a4 v10 v11 r3000=some sy1:=p1
 unfold yA at p1
 refine Q12 ?_
 refine Q33 ?_
 refine z7 p1 (fun p1=>?_) (fun p1=>?_)
 refine zM ?_
 have ⟨y2,hy2,p1⟩:=bE p1
 refine tl .normal ⟨[(0,.row 3000),(2,.d (di a2)),(4,.d fv4),(10,.d (di y2.1)),(11,.d (di y2.2.1))],[(3000,.win 3 eI.size 0 (eI.all y2.2.2))]⟩ ?_ ?_
 refine Q75 ?_
 refine Q54 ?_
 refine z7 hy2 (fun hy2=>?_) (fun hy2=>?_)
 refine Q86 ?_
 refine q31 ?_
 refine Q82 ?_
 refine q0 ?_
 have ⟨t31,ht31,hy2⟩:=bE hy2
 refine yR rfl (zB5 [(3000,3000)] (wM hf4 ht31) (lq rfl) (by decide) ⟨rfl,rfl,rfl,rfl,rfl,trivial⟩ rfl rfl ⟨rfl,trivial⟩ rfl rfl rfl rfl) ?_
 refine zJ<|Q66 ?_
 refine Q73 ?_
 cases hy2
 exact zH (wc)
 refine Q86 ?_
 refine q31 ?_
 refine Q82 ?_
 refine q2 ?_
 refine q0 ?_
 refine q31 ?_
 refine Q82 ?_
 have ⟨t46,ht46,hy2⟩:=bE hy2
 refine yR rfl (zB5 [(3000,3000)] (wM hf4 ht46) (lq rfl) (by decide) ⟨rfl,rfl,rfl,rfl,rfl,trivial⟩ rfl rfl ⟨rfl,trivial⟩ rfl rfl rfl rfl) ?_
 refine zJ<|Q66 ?_
 refine Q73 ?_
 cases hy2
 exact zH (wc)
 cases p1
 exact wc
 refine zF ?_
 cases p1
 intro q;cases q
 exact zH (wc)
 refine Q63 ?_
 refine q31 ?_
 refine Q82 ?_
 refine q0 ?_
 have ⟨t57,ht57,h⟩:=bE h
 refine yR rfl (zB5 [(3000,3000)] (wM hf4 ht57) (lq rfl) (by decide) ⟨rfl,rfl,rfl,rfl,rfl,trivial⟩ rfl rfl ⟨rfl,trivial⟩ rfl rfl rfl rfl) ?_
 refine zJ ?_
 cases h
 exact ⟨rfl,⟨rfl,trivial⟩⟩
set_option maxHeartbeats 8000000 in
theorem zA9:∀(n:Nat) {fv4:DV} {a0:(List Int)} {a1:Int} {a2:Int} {a3:Int} {a4:Int→Int→Option (Int)} (hf4:∀x0 x1 y,a4 x0 x1=some y→FnC Tryz.prog fv4 [(di x0),(di x1)] [(di y)]) {r:(List Int)} (h:yS n a0 a1 a2 a3 a4=some r),GC Tryz.prog 143 [.row 3000,.d (di a1),.d (di a2),.d (di a3),.d fv4] [(3000,.win 3 eI.size 0 (eI.all a0))] [3000] [] [(3000,.win 3 eI.size 0 (eI.all r))]:=by
 intro n
 induction n with
 | zero=>intro fv4 a0 a1 a2 a3 a4 hf4 r h;cases h
 | succ n ih=>
 intro fv4 a0 a1 a2 a3 a4 hf4 r h
 replace h:z8 (yS n) a0 a1 a2 a3 a4=some r:=h
 generalize yS n=rec at h ih
 refine zCE Tryz.func143 (by kernel_rfl) rfl (lq rfl) (lq rfl) fun w0 I0 hG0 p0=>?_
 unfold z8 at h
 refine Q12 ?_
 refine q31 ?_
 refine Q87 ?_
 refine z7 h (fun h=>?_) (fun h=>?_)
 refine Q2 ?_
 refine Q19 ?_
 refine Q76 ?_
 have ⟨y1,hy1,h⟩:=bE h
 refine tl (.exit 0) ⟨[(0,.row 3000),(1,.d (di a1)),(10,.d (di y1))],[(3000,.win 3 eI.size 0 (eI.all a0))]⟩ ?_ ?_
 refine zD (fun x=>⟨[(0,.row 3000),(1,.d (di a1)),(4,.d fv4),(10,.d (di x.1)),(11,.d (di x.2))],[(3000,.win 3 eI.size 0 (eI.all a0))]⟩) hy1 (wc) ?_
 rintro ⟨v10,v11⟩ sy1 p1
 replace p1:yK a0 a1 a4 v10 v11=some sy1:=p1
 unfold yK at p1
 refine Q72 ?_
 refine z7 p1 (fun p1=>?_) (fun p1=>?_)
 refine zM ?_
 have ⟨y2,hy2,p1⟩:=bE p1
 refine tl .normal ⟨[(0,.row 3000),(1,.d (di a1)),(4,.d fv4),(10,.d (di y2.1)),(11,.d (di y2.2))],[(3000,.win 3 eI.size 0 (eI.all a0))]⟩ ?_ ?_
 refine Q75 ?_
 refine zXY ?_
 refine Q16 ?_
 refine yD MX rfl ?_
 refine q7 ?_
 refine zVH ?_
 have ⟨t43,ht43,hy2⟩:=bE hy2
 refine z1R yI ht43 ?_
 refine z1S O3 ht43 ?_
 refine zVH ?_
 have ⟨t47,ht47,hy2⟩:=bE hy2
 refine z1R yI ht47 ?_
 refine z1S O3 ht47 ?_
 have ⟨t49,ht49,hy2⟩:=bE hy2
 refine u6 (zDX (lq rfl) rfl rfl (hf4 _ _ _ ht49)) ?_
 refine z4V ?_
 refine vP ?_
 refine z7 hy2 (fun hy2=>?_) (fun hy2=>?_)
 refine Q11 ?_
 cases hy2
 exact zH (wc)
 refine Q81 ?_
 cases hy2
 exact zH (wc)
 cases p1
 exact wc
 refine zF ?_
 cases p1
 intro q;cases q
 exact zH (wc)
 refine Q4 ?_
 refine Q1 ?_
 refine kA ?_
 have ⟨y3,hy3,h⟩:=bE h
 refine tl (.exit 2) ⟨[(0,.row 3000)],[(3000,.win 3 eI.size 0 (eI.all y3))]⟩ ?_ ?_
 refine zD (fun x=>⟨[(0,.row 3000),(10,.d (di y1)),(13,.d (di x.1))],[(3000,.win 3 eI.size 0 (eI.all x.2))]⟩) hy3 (wc) ?_
 rintro ⟨v13,r3000⟩ sy3 p3
 replace p3:yL y1 v13 r3000=some sy3:=p3
 unfold yL at p3
 refine Q12 ?_
 refine q31 ?_
 refine Q6 ?_
 refine z7 p3 (fun p3=>?_) (fun p3=>?_)
 refine Q8 ?_
 have ⟨t69,ht69,p3⟩:=bE p3
 have ⟨t73,ht73,p3⟩:=bE p3
 have ⟨t75,ht75,p3⟩:=bE p3
 have ⟨r3000_11x15,hr3000_11x15,p3⟩:=bE p3
 have ⟨t76,ht76,p3⟩:=bE p3
 have ⟨r3000_11x17,hr3000_11x17,p3⟩:=bE p3
 refine tl .normal ⟨[(0,.row 3000),(10,.d (di y1)),(13,.d (di v13))],[(3000,.win 3 eI.size 0 (eI.all r3000_11x17))]⟩ ?_ ?_
 refine zDY MX ?_
 refine z13 ?_
 refine xm 3 ?_
 refine zI2 (i:=4) rfl (lq rfl) rfl rfl rfl rfl rfl rfl ?_
 refine xm 5 ?_
 refine xm 6 ?_
 refine zI2 (i:=7) rfl (lq rfl) rfl rfl rfl rfl rfl rfl ?_
 refine xm 10 ?_
 refine xm 11 ?_
 refine xn [8,12] ?_
 refine zVE yI ht69 ?_ ?_
 refine xn [9,12] ?_
 refine q76 O3 ht69 ?_ ?_
 refine xn [12] ?_
 refine q17 yI ht73 ?_
 refine xn [13] ?_
 refine q30 O3 ht73 ?_
 refine xn [14] ?_
 refine q17 yI ht75 ?_
 refine xn [15] ?_
 refine q20 O3 ht75 hr3000_11x15 ?_
 refine xn [16] ?_
 refine q17 yI ht76 ?_
 refine xn [17] ?_
 refine q20 O3 ht76 hr3000_11x17 ?_
 exact ae
 refine q17 yI ht73 ?_
 refine xn [9,13] ?_
 refine q76 O3 ht69 ?_ ?_
 refine xn [13] ?_
 refine q30 O3 ht73 ?_
 refine xn [14] ?_
 refine q17 yI ht75 ?_
 refine xn [15] ?_
 refine q20 O3 ht75 hr3000_11x15 ?_
 refine xn [16] ?_
 refine q17 yI ht76 ?_
 refine xn [17] ?_
 refine q20 O3 ht76 hr3000_11x17 ?_
 exact ae
 refine q30 O3 ht73 ?_
 refine xn [9] ?_
 refine q30 O3 ht69 ?_
 refine xn [14] ?_
 refine q17 yI ht75 ?_
 refine xn [15] ?_
 refine q20 O3 ht75 hr3000_11x15 ?_
 refine xn [16] ?_
 refine q17 yI ht76 ?_
 refine xn [17] ?_
 refine q20 O3 ht76 hr3000_11x17 ?_
 exact ae
 refine q17 yI ht73 ?_
 refine xn [8,13] ?_
 refine zVE yI ht69 ?_ ?_
 refine xn [9,13] ?_
 refine q76 O3 ht69 ?_ ?_
 refine xn [13] ?_
 refine q30 O3 ht73 ?_
 refine xn [14] ?_
 refine q17 yI ht75 ?_
 refine xn [15] ?_
 refine q20 O3 ht75 hr3000_11x15 ?_
 refine xn [16] ?_
 refine q17 yI ht76 ?_
 refine xn [17] ?_
 refine q20 O3 ht76 hr3000_11x17 ?_
 exact ae
 refine q30 O3 ht73 ?_
 refine xn [9] ?_
 refine q30 O3 ht69 ?_
 refine xn [14] ?_
 refine q17 yI ht75 ?_
 refine xn [15] ?_
 refine q20 O3 ht75 hr3000_11x15 ?_
 refine xn [16] ?_
 refine q17 yI ht76 ?_
 refine xn [17] ?_
 refine q20 O3 ht76 hr3000_11x17 ?_
 exact ae
 refine q30 O3 ht73 ?_
 refine xn [8] ?_
 refine q17 yI ht69 ?_
 refine xn [9] ?_
 refine q30 O3 ht69 ?_
 refine xn [14] ?_
 refine q17 yI ht75 ?_
 refine xn [15] ?_
 refine q20 O3 ht75 hr3000_11x15 ?_
 refine xn [16] ?_
 refine q17 yI ht76 ?_
 refine xn [17] ?_
 refine q20 O3 ht76 hr3000_11x17 ?_
 exact ae
 refine Q11 ?_
 cases p3
 exact wc
 refine zF ?_
 cases p3
 intro q;cases q
 exact zH (wc)
 cases h
 refine zB ?_
 exact ⟨rfl,⟨rfl,trivial⟩⟩
 refine zM<|Q12 ?_
 refine q31 ?_
 refine Q87 ?_
 refine z7 h (fun h=>?_) (fun h=>?_)
 refine Q2 ?_
 refine Q19 ?_
 refine Q76 ?_
 have ⟨y4,hy4,h⟩:=bE h
 refine tl (.exit 4) ⟨[(0,.row 3000),(2,.d (di a2)),(14,.d (di y4))],[(3000,.win 3 eI.size 0 (eI.all a0))]⟩ ?_ ?_
 refine zD (fun x=>⟨[(0,.row 3000),(2,.d (di a2)),(4,.d fv4),(14,.d (di x.1)),(15,.d (di x.2))],[(3000,.win 3 eI.size 0 (eI.all a0))]⟩) hy4 (wc) ?_
 rintro ⟨v14,v15⟩ sy4 p4
 replace p4:yN a0 a2 a4 v14 v15=some sy4:=p4
 unfold yN at p4
 refine Q72 ?_
 refine z7 p4 (fun p4=>?_) (fun p4=>?_)
 refine zM ?_
 have ⟨y5,hy5,p4⟩:=bE p4
 refine tl .normal ⟨[(0,.row 3000),(2,.d (di a2)),(4,.d fv4),(14,.d (di y5.1)),(15,.d (di y5.2))],[(3000,.win 3 eI.size 0 (eI.all a0))]⟩ ?_ ?_
 refine Q75 ?_
 refine zXY ?_
 refine Q16 ?_
 refine yD MX rfl ?_
 refine q7 ?_
 refine zVH ?_
 have ⟨t95,ht95,hy5⟩:=bE hy5
 refine z1R yI ht95 ?_
 refine z1S O3 ht95 ?_
 refine zVH ?_
 have ⟨t99,ht99,hy5⟩:=bE hy5
 refine z1R yI ht99 ?_
 refine z1S O3 ht99 ?_
 have ⟨t101,ht101,hy5⟩:=bE hy5
 refine u6 (zDX (lq rfl) rfl rfl (hf4 _ _ _ ht101)) ?_
 refine z4V ?_
 refine z82 ?_
 refine vP ?_
 refine z7 hy5 (fun hy5=>?_) (fun hy5=>?_)
 refine Q11 ?_
 cases hy5
 exact zH (wc)
 refine Q81 ?_
 cases hy5
 exact zH (wc)
 cases p4
 exact wc
 refine zF ?_
 cases p4
 intro q;cases q
 exact zH (wc)
 refine Q4 ?_
 refine Q1 ?_
 refine kA ?_
 have ⟨y6,hy6,h⟩:=bE h
 refine tl (.exit 6) ⟨[(0,.row 3000)],[(3000,.win 3 eI.size 0 (eI.all y6))]⟩ ?_ ?_
 refine zD (fun x=>⟨[(0,.row 3000),(14,.d (di y4)),(17,.d (di x.1))],[(3000,.win 3 eI.size 0 (eI.all x.2))]⟩) hy6 (wc) ?_
 rintro ⟨v17,r3000⟩ sy6 p6
 replace p6:yO y4 v17 r3000=some sy6:=p6
 unfold yO at p6
 refine Q12 ?_
 refine Q54 ?_
 refine z7 p6 (fun p6=>?_) (fun p6=>?_)
 refine Q8 ?_
 have ⟨t121,ht121,p6⟩:=bE p6
 have ⟨t125,ht125,p6⟩:=bE p6
 have ⟨t127,ht127,p6⟩:=bE p6
 have ⟨r3000_23x15,hr3000_23x15,p6⟩:=bE p6
 have ⟨t128,ht128,p6⟩:=bE p6
 have ⟨r3000_23x17,hr3000_23x17,p6⟩:=bE p6
 refine tl .normal ⟨[(0,.row 3000),(14,.d (di y4)),(17,.d (di v17))],[(3000,.win 3 eI.size 0 (eI.all r3000_23x17))]⟩ ?_ ?_
 refine zDY MX ?_
 refine z13 ?_
 refine xm 3 ?_
 refine zHI (i:=4) rfl (lq rfl) rfl rfl rfl rfl rfl rfl ?_
 refine xm 5 ?_
 refine xm 6 ?_
 refine zHI (i:=7) rfl (lq rfl) rfl rfl rfl rfl rfl rfl ?_
 refine xm 10 ?_
 refine xm 11 ?_
 refine xn [8,12] ?_
 refine zVE yI ht121 ?_ ?_
 refine xn [9,12] ?_
 refine q76 O3 ht121 ?_ ?_
 refine xn [12] ?_
 refine q17 yI ht125 ?_
 refine xn [13] ?_
 refine q30 O3 ht125 ?_
 refine xn [14] ?_
 refine q17 yI ht127 ?_
 refine xn [15] ?_
 refine q20 O3 ht127 hr3000_23x15 ?_
 refine xn [16] ?_
 refine q17 yI ht128 ?_
 refine xn [17] ?_
 refine q20 O3 ht128 hr3000_23x17 ?_
 exact ae
 refine q17 yI ht125 ?_
 refine xn [9,13] ?_
 refine q76 O3 ht121 ?_ ?_
 refine xn [13] ?_
 refine q30 O3 ht125 ?_
 refine xn [14] ?_
 refine q17 yI ht127 ?_
 refine xn [15] ?_
 refine q20 O3 ht127 hr3000_23x15 ?_
 refine xn [16] ?_
 refine q17 yI ht128 ?_
 refine xn [17] ?_
 refine q20 O3 ht128 hr3000_23x17 ?_
 exact ae
 refine q30 O3 ht125 ?_
 refine xn [9] ?_
 refine q30 O3 ht121 ?_
 refine xn [14] ?_
 refine q17 yI ht127 ?_
 refine xn [15] ?_
 refine q20 O3 ht127 hr3000_23x15 ?_
 refine xn [16] ?_
 refine q17 yI ht128 ?_
 refine xn [17] ?_
 refine q20 O3 ht128 hr3000_23x17 ?_
 exact ae
 refine q17 yI ht125 ?_
 refine xn [8,13] ?_
 refine zVE yI ht121 ?_ ?_
 refine xn [9,13] ?_
 refine q76 O3 ht121 ?_ ?_
 refine xn [13] ?_
 refine q30 O3 ht125 ?_
 refine xn [14] ?_
 refine q17 yI ht127 ?_
 refine xn [15] ?_
 refine q20 O3 ht127 hr3000_23x15 ?_
 refine xn [16] ?_
 refine q17 yI ht128 ?_
 refine xn [17] ?_
 refine q20 O3 ht128 hr3000_23x17 ?_
 exact ae
 refine q30 O3 ht125 ?_
 refine xn [9] ?_
 refine q30 O3 ht121 ?_
 refine xn [14] ?_
 refine q17 yI ht127 ?_
 refine xn [15] ?_
 refine q20 O3 ht127 hr3000_23x15 ?_
 refine xn [16] ?_
 refine q17 yI ht128 ?_
 refine xn [17] ?_
 refine q20 O3 ht128 hr3000_23x17 ?_
 exact ae
 refine q30 O3 ht125 ?_
 refine xn [8] ?_
 refine q17 yI ht121 ?_
 refine xn [9] ?_
 refine q30 O3 ht121 ?_
 refine xn [14] ?_
 refine q17 yI ht127 ?_
 refine xn [15] ?_
 refine q20 O3 ht127 hr3000_23x15 ?_
 refine xn [16] ?_
 refine q17 yI ht128 ?_
 refine xn [17] ?_
 refine q20 O3 ht128 hr3000_23x17 ?_
 exact ae
 refine Q7 ?_
 refine Q73 ?_
 cases p6
 exact wc
 refine zF ?_
 cases p6
 intro q;cases q
 exact zH (wc)
 cases h
 refine zB ?_
 exact ⟨rfl,⟨rfl,trivial⟩⟩
 refine zM<|Q15 ?_
 refine zXY ?_
 refine Q1 ?_
 refine Q15 ?_
 refine Q9 ?_
 refine Q0 ?_
 refine Q46 ?_
 refine Q12 ?_
 refine Q54 ?_
 have ⟨y7,hy7,h⟩:=bE h
 refine tl .normal ⟨[(0,.row 3000),(1,.d (di a1)),(2,.d (di a2)),(3,.d (di a3)),(4,.d fv4),(18,.d (di (wi ((wu (wi (a1+a3))) / 2 ^ 1)))),(19,.d (di (wi ((wi ((wu (wi (a1+a3))) / 2 ^ 1))+a2)))),(20,.d (di y7.1)),(21,.d (di y7.2))],[(3000,.win 3 eI.size 0 (eI.all a0))]⟩ ?_ ?_
 refine z7 hy7 (fun hy7=>?_) (fun hy7=>?_)
 refine Q15 ?_
 refine Q73 ?_
 refine Q81 ?_
 cases hy7
 exact zH (wc)
 refine Q35 ?_
 refine Q81 ?_
 cases hy7
 exact zH (wc)
 refine Q2 ?_
 refine q31 ?_
 refine Q76 ?_
 have ⟨y8,hy8,h⟩:=bE h
 refine tl (.exit 8) ⟨[(0,.row 3000),(1,.d (di a1)),(2,.d (di a2)),(3,.d (di a3)),(4,.d fv4),(18,.d (di (wi ((wu (wi (a1+a3))) / 2 ^ 1)))),(19,.d (di (wi ((wi ((wu (wi (a1+a3))) / 2 ^ 1))+a2)))),(20,.d (di y8))],[(3000,.win 3 eI.size 0 (eI.all a0))]⟩ ?_ ?_
 refine zD (fun x=>⟨[(0,.row 3000),(1,.d (di a1)),(2,.d (di a2)),(3,.d (di a3)),(4,.d fv4),(18,.d (di (wi ((wu (wi (a1+a3))) / 2 ^ 1)))),(19,.d (di (wi ((wi ((wu (wi (a1+a3))) / 2 ^ 1))+a2)))),(20,.d (di x.1)),(21,.d (di x.2)),(22,.d (di (wi ((wi ((wi ((wu (wi (a1+a3))) / 2 ^ 1))+a2)) - 1))))],[(3000,.win 3 eI.size 0 (eI.all a0))]⟩) hy8 (wc) ?_
 rintro ⟨v20,v21⟩ sy8 p8
 replace p8:yP a0 a1 a3 a2 a4 v20 v21=some sy8:=p8
 unfold yP at p8
 refine Q72 ?_
 refine z7 p8 (fun p8=>?_) (fun p8=>?_)
 refine zM ?_
 have ⟨y9,hy9,p8⟩:=bE p8
 refine tl .normal ⟨[(0,.row 3000),(1,.d (di a1)),(2,.d (di a2)),(3,.d (di a3)),(4,.d fv4),(18,.d (di (wi ((wu (wi (a1+a3))) / 2 ^ 1)))),(19,.d (di (wi ((wi ((wu (wi (a1+a3))) / 2 ^ 1))+a2)))),(20,.d (di y9.1)),(21,.d (di y9.2)),(22,.d (di (wi ((wi ((wi ((wu (wi (a1+a3))) / 2 ^ 1))+a2)) - 1))))],[(3000,.win 3 eI.size 0 (eI.all a0))]⟩ ?_ ?_
 refine Q75 ?_
 refine zXY ?_
 refine Q16 ?_
 refine yD MX rfl ?_
 refine q7 ?_
 refine q88 ?_
 refine Q27 ?_
 refine zXL ?_
 have ⟨t163,ht163,hy9⟩:=bE hy9
 refine z1R yI ht163 ?_
 refine z1S O3 ht163 ?_
 refine zVH ?_
 have ⟨t167,ht167,hy9⟩:=bE hy9
 refine z1R yI ht167 ?_
 refine z1S O3 ht167 ?_
 have ⟨t169,ht169,hy9⟩:=bE hy9
 refine u6 (zDX (lq rfl) rfl rfl (hf4 _ _ _ ht169)) ?_
 refine z4V ?_
 refine z82 ?_
 refine vP ?_
 refine z7 hy9 (fun hy9=>?_) (fun hy9=>?_)
 refine Q11 ?_
 cases hy9
 exact zH (wc)
 refine Q81 ?_
 cases hy9
 exact zH (wc)
 cases p8
 exact wc
 refine zF ?_
 cases p8
 intro q;cases q
 exact zH (wc)
 refine Q15 ?_
 refine Q73 ?_
 refine Q12 ?_
 refine q3 ?_
 have ⟨b181,hb181,h⟩:=bE h
 refine yG ((zC (lq rfl) rfl).bool (oi hb181)) ?_
 refine q13 (.d (di a2)) ?_
 refine q13 (.d (di (wi ((wi ((wi ((wu (wi (a1+a3))) / 2 ^ 1))+a2)) - y8)))) ?_
 refine q73 (.d (db (decide (a2 < (wi ((wi ((wi ((wu (wi (a1+a3))) / 2 ^ 1))+a2)) - y8)))))) ?_
 refine Q36 ?_
 have ⟨y10,hy10,h⟩:=bE h
 refine tl .normal ⟨[(0,.row 3000),(1,.d (di a1)),(3,.d (di a3)),(4,.d fv4),(18,.d (di (wi ((wu (wi (a1+a3))) / 2 ^ 1)))),(20,.d (di y8)),(24,.d (di (wi ((wi ((wi ((wu (wi (a1+a3))) / 2 ^ 1))+a2)) - y8))))],[(3000,.win 3 eI.size 0 (eI.all y10))]⟩ ?_ ?_
 refine z7 hy10 (fun hy10=>?_) (fun hy10=>?_)
 refine Q63 ?_
 refine Q82 ?_
 have ⟨t191,ht191,hy10⟩:=bE hy10
 refine yR rfl (zB5 [(3000,3000)] (zFP hf4 ht191) (lq rfl) (by decide) ⟨rfl,rfl,rfl,rfl,rfl,trivial⟩ rfl rfl ⟨rfl,trivial⟩ rfl rfl rfl rfl) ?_
 refine zJ ?_
 cases hy10
 exact zH (wc)
 refine zM ?_
 cases hy10
 exact zH (wc)
 refine Q12 ?_
 refine q3 ?_
 have ⟨b195,hb195,h⟩:=bE h
 refine yG ((zC (lq rfl) rfl).bool (oi hb195)) ?_
 refine q13 (.d (di y8)) ?_
 refine q13 (.d (di (wi ((wu (wi (a1+a3))) / 2 ^ 1)))) ?_
 refine q73 (.d (db (decide (y8 < (wi ((wu (wi (a1+a3))) / 2 ^ 1)))))) ?_
 refine Q36 ?_
 have ⟨y11,hy11,h⟩:=bE h
 refine tl .normal ⟨[(0,.row 3000),(3,.d (di a3)),(4,.d fv4),(18,.d (di (wi ((wu (wi (a1+a3))) / 2 ^ 1)))),(24,.d (di (wi ((wi ((wi ((wu (wi (a1+a3))) / 2 ^ 1))+a2)) - y8))))],[(3000,.win 3 eI.size 0 (eI.all y11))]⟩ ?_ ?_
 refine z7 hy11 (fun hy11=>?_) (fun hy11=>?_)
 refine Q63 ?_
 refine Q82 ?_
 have ⟨t205,ht205,hy11⟩:=bE hy11
 refine yR rfl (zB5 [(3000,3000)] (ih hf4 ht205) (lq rfl) (by decide) ⟨rfl,rfl,rfl,rfl,rfl,trivial⟩ rfl rfl ⟨rfl,trivial⟩ rfl rfl rfl rfl) ?_
 refine zJ ?_
 cases hy11
 exact zH (wc)
 refine zM ?_
 cases hy11
 exact zH (wc)
 refine Q15 ?_
 refine q3 ?_
 have ⟨b209,hb209,h⟩:=bE h
 refine yG ((zC (lq rfl) rfl).bool (oi hb209)) ?_
 refine q13 (.d (di (wi ((wi ((wi ((wu (wi (a1+a3))) / 2 ^ 1))+a2)) - y8)))) ?_
 refine q13 (.d (di a3)) ?_
 refine q73 (.d (db (decide ((wi ((wi ((wi ((wu (wi (a1+a3))) / 2 ^ 1))+a2)) - y8)) < a3)))) ?_
 refine Q36 ?_
 refine z7 h (fun h=>?_) (fun h=>?_)
 refine Q63 ?_
 refine Q82 ?_
 have ⟨t219,ht219,h⟩:=bE h
 refine yR rfl (zB5 [(3000,3000)] (ih hf4 ht219) (lq rfl) (by decide) ⟨rfl,rfl,rfl,rfl,rfl,trivial⟩ rfl rfl ⟨rfl,trivial⟩ rfl rfl rfl rfl) ?_
 refine zJ ?_
 cases h
 exact ⟨rfl,⟨rfl,trivial⟩⟩
 refine zM ?_
 cases h
 exact ⟨rfl,⟨rfl,trivial⟩⟩
theorem zFQ {fv2:DV} {a0:(List Int)} {a1:Int} {a2:Int→Int→Option (Int)} (hf2:∀x0 x1 y,a2 x0 x1=some y→FnC Tryz.prog fv2 [(di x0),(di x1)] [(di y)]) {r:(List Int)} (h:xZ a0 a1 a2=some r):GC Tryz.prog 129 [.row 3000,.d (di a1),.d fv2] [(3000,.win 3 eI.size 0 (eI.all a0))] [3000] [] [(3000,.win 3 eI.size 0 (eI.all r))]:=by
 refine zCE Tryz.func129 (by kernel_rfl) rfl (lq rfl) (lq rfl) fun w0 I0 hG0 p0=>?_
 unfold xZ at h
 refine Q59 ?_
 refine q1 ?_
 refine Q76 ?_
 have ⟨y1,hy1,h⟩:=bE h
 refine tl (.exit 0) ⟨[(0,.row 3000),(1,.d (di a1)),(2,.d fv2),(6,.d (di 20)),(7,.d (di y1.1))],[(3000,.win 3 eI.size 0 (eI.all y1.2))]⟩ ?_ ?_
 refine zD (fun x=>⟨[(0,.row 3000),(1,.d (di a1)),(2,.d fv2),(6,.d (di 20)),(7,.d (di x.1)),(8,.d (di x.2.1))],[(3000,.win 3 eI.size 0 (eI.all x.2.2))]⟩) hy1 (wc) ?_
 rintro ⟨v7,v8,r3000⟩ sy1 p1
 replace p1:z3 a1 a2 v7 v8 r3000=some sy1:=p1
 unfold z3 at p1
 refine Q12 ?_
 refine q70 ?_
 refine zJ ?_
 refine z7 p1 (fun p1=>?_) (fun p1=>?_)
 refine zM<|kA<|zXX ?_
 have ⟨t18,ht18,p1⟩:=bE p1
 refine yR rfl (zB5 [(3000,3000)] (uB hf2 ht18) (lq rfl) (by decide) ⟨rfl,rfl,rfl,rfl,trivial⟩ rfl rfl ⟨rfl,trivial⟩ rfl rfl rfl rfl) ?_
 refine zJ<|Q35 ?_
 refine Q66 ?_
 refine Q9 ?_
 cases p1
 exact wc
 refine zF ?_
 cases p1
 intro q;cases q
 exact zH (wc)
 refine zXX ?_
 have ⟨t27,ht27,h⟩:=bE h
 refine yR rfl (zB5 [(3000,3000)] (uB hf2 ht27) (lq rfl) (by decide) ⟨rfl,rfl,rfl,rfl,trivial⟩ rfl rfl ⟨rfl,trivial⟩ rfl rfl rfl rfl) ?_
 refine zJ<|kA ?_
 have ⟨y2,hy2,h⟩:=bE h
 refine tl (.exit 2) ⟨[(0,.row 3000)],[(3000,.win 3 eI.size 0 (eI.all y2))]⟩ ?_ ?_
 refine zD (fun x=>⟨[(0,.row 3000),(1,.d (di a1)),(2,.d fv2),(6,.d (di x.1))],[(3000,.win 3 eI.size 0 (eI.all x.2))]⟩) hy2 (wc) ?_
 rintro ⟨v6,r3000⟩ sy2 p2
 replace p2:yB a1 a2 v6 r3000=some sy2:=p2
 unfold yB at p2
 refine Q72 ?_
 refine z7 p2 (fun p2=>?_) (fun p2=>?_)
 refine zM<|Q80 ?_
 refine yG (z3S (lq rfl) rfl rfl) ?_
 refine q1 ?_
 refine Q76 ?_
 have ⟨y3,hy3,p2⟩:=bE p2
 refine tl (.exit 4) ⟨[(0,.row 3000),(1,.d (di a1)),(2,.d fv2),(6,.d (di v6)),(7,.d (di y3.1))],[(3000,.win 3 eI.size 0 (eI.all y3.2))]⟩ ?_ ?_
 refine zD (fun x=>⟨[(0,.row 3000),(1,.d (di a1)),(2,.d fv2),(6,.d (di v6)),(7,.d (di x.1)),(8,.d (di x.2.1))],[(3000,.win 3 eI.size 0 (eI.all x.2.2))]⟩) hy3 (wc) ?_
 rintro ⟨v7,v8,r3000⟩ sy3 p3
 replace p3:z4 a1 v6 a2 v7 v8 r3000=some sy3:=p3
 unfold z4 at p3
 refine Q12 ?_
 refine q70 ?_
 refine zJ ?_
 refine z7 p3 (fun p3=>?_) (fun p3=>?_)
 refine zM<|kA<|zXX ?_
 refine q2 ?_
 refine Q82 ?_
 have ⟨t43,ht43,p3⟩:=bE p3
 refine yR rfl (zB5 [(3000,3000)] (zA9 _ hf2 ht43) (lq rfl) (by decide) ⟨rfl,rfl,rfl,rfl,rfl,trivial⟩ rfl rfl ⟨rfl,trivial⟩ rfl rfl rfl rfl) ?_
 refine zJ<|Q35 ?_
 refine Q66 ?_
 refine yG (z3S (lq rfl) rfl rfl) ?_
 refine Q9 ?_
 cases p3
 exact wc
 refine zF ?_
 cases p3
 intro q;cases q
 exact zH (wc)
 refine Q12 ?_
 refine Q9 ?_
 refine Q15 ?_
 refine Q6 ?_
 have ⟨y4,hy4,p2⟩:=bE p2
 refine tl .normal ⟨[(0,.row 3000),(1,.d (di a1)),(2,.d fv2),(6,.d (di v6))],[(3000,.win 3 eI.size 0 (eI.all y4))]⟩ ?_ ?_
 refine z7 hy4 (fun hy4=>?_) (fun hy4=>?_)
 refine Q63 ?_
 refine Q82 ?_
 have ⟨t60,ht60,hy4⟩:=bE hy4
 refine yR rfl (zB5 [(3000,3000)] (zA9 _ hf2 ht60) (lq rfl) (by decide) ⟨rfl,rfl,rfl,rfl,rfl,trivial⟩ rfl rfl ⟨rfl,trivial⟩ rfl rfl rfl rfl) ?_
 refine zJ ?_
 cases hy4
 exact zH (wc)
 refine zM ?_
 cases hy4
 exact zH (wc)
 refine Q7 ?_
 refine yG (z3S (lq rfl) rfl rfl) ?_
 refine Q1 ?_
 cases p2
 exact wc
 refine zF ?_
 cases p2
 intro q;cases q
 exact zH (wc)
 cases h
 exact ⟨rfl,⟨rfl,trivial⟩⟩
theorem zDF {fv1:DV} {a0:(List Int)} {a1:Int→Int→Option (Int)} (hf1:∀x0 x1 y,a1 x0 x1=some y→FnC Tryz.prog fv1 [(di x0),(di x1)] [(di y)]) {r:(List Int)} (h:kD a0 a1=some r):GC Tryz.prog 107 [.row 3000,.d fv1] [(3000,.win 3 eI.size 0 (eI.all a0))] [3000] [] [(3000,.win 3 eI.size 0 (eI.all r))]:=by
 refine zCE Tryz.func107 (by kernel_rfl) rfl (lq rfl) (lq rfl) fun w0 I0 hG0 p0=>?_
 unfold kD at h
 refine Q64 ?_
 refine q10 ?_
 refine z81 yI ?_
 refine q0 ?_
 have ⟨t8,ht8,h⟩:=bE h
 refine yR rfl (zB5 [(3000,3000)] (zFQ hf1 ht8) (lq rfl) (by decide) ⟨rfl,rfl,rfl,trivial⟩ rfl rfl ⟨rfl,trivial⟩ rfl rfl rfl rfl) ?_
 refine zJ ?_
 cases h
 exact ⟨rfl,⟨rfl,trivial⟩⟩
theorem zHZ {a0:List Span} {a1 r:List Int} (h:u0 a0 a1=some r):GC Tryz.prog 72 [.d (zT eSpan a0),.d (zT eI a1)] [] [] [.row 100] [(100,.row 3 eI.size false (eI.all r))]:=by
 unfold u0 at h
 have ⟨t8,ht8,h'⟩:=bE h;clear h
 have ⟨t10,ht10,h⟩:=bE h';clear h'
 have ⟨t13,ht13,h'⟩:=bE h;clear h
 refine zCE Tryz.func72 (by kernel_rfl) rfl (lq rfl) (lq rfl) fun w0 I0 hG0 p0=>?_
 refine Q0 ?_
 refine yR rfl (zYI (lq rfl) rfl rfl rfl) ?_
 refine Q39 ?_
 refine q28 O22 ?_
 refine q8 (zF8 ht8) ?_
 refine q60 O22 ?_
 refine zJ ?_
 refine zP (z0 (t:=2) (lq rfl) rfl rfl rfl) ?_
 refine Q2 ?_
 refine yR rfl (zC5 [(5,100)] (zHK ht10) (lq rfl) (by decide) ⟨rfl,trivial⟩ rfl rfl trivial rfl rfl rfl (fun _=>rfl) rfl) ?_
 refine z1M ?_
 refine q93 O33 ?_
 refine zXS ?_
 refine q92 O22 ?_
 refine q0 ?_
 refine q8 zHX ?_
 refine zJ<|kA ?_
 refine zQX [(5,.ptr 5 0),(2,.d (.pt [zT eSpan t8])),(4,.d (.v (.slice none 0 0)))] [5] (fun k=>[(5,.box 33 [.row 100]),(100,.row 3 eI.size false (eI.all (outK (fun p=>kD p (fun x0 x1=>xI x0 x1 t8)) Range.Lo Range.Hi t10 (jL (fun c=>kG t8 c==some 0) a1 0 (-1)) k)))]) rfl (zF9 ht13) rfl (fun _ _ _ _ h=>h) ?hk ?hT rfl (fun _=>rfl) ?hbx (fun _ _=>rfl) ?hl ?hpn ?rd ?hK
 case hk=>exact ⟨rfl,rfl,rfl,trivial⟩
 case hT=>exact ⟨rfl,rfl,trivial⟩
 case hbx=>intro k id hi;simp at hi;subst hi;exact fun (h:Blk.box _ _=Blk.none)=>by cases h
 case hl=>intro x hx;obtain ⟨y,_,rfl⟩:=List.mem_map.1 hx;rfl
 case hpn=>intro p hp;simp at hp;subst hp;exact (lq rfl)
 case rd=>
  intro w1 Iall X C0 ρ0 defs l1 D lp1 lp2 hok k x hx
  rw [List.getElem?_map] at hx
  obtain ⟨v,hv,rfl⟩:=Option.map_eq_some_iff.1 hx
  have hst:=z1B h' hv
  obtain ⟨q0,q1,q2⟩:=z4D hst
  refine wC<|zXN ?_
  refine zXU ?_
  refine kA<|wC<|q28 O33 ?_
  refine q51 zGG ?_
  refine q28 O3 ?_
  refine q51 zC6 ?_
  refine q28 O3 ?_
  refine yG (zU1 (en:=eI) (lq rfl) yI rfl rfl rfl rfl q0 q1 q2) ?_
  refine yG (zJZ (lq rfl) rfl) ?_
  refine yR rfl (yCJ (en:=eI) (lq rfl) rfl rfl rfl hst yGV (fun m m' hm=>zDF (fun _ _ _ q=> .inl ⟨_,_,rfl,zK8 q⟩) hm) rfl) ?_
  refine zJ ?_
  exact ⟨rfl,rfl,trivial⟩
 case hK=>
  rw [List.length_map,z4C h']
  refine Q0 ?_
  refine q28 O33 ?_
  refine Q13 ?_
  refine zB ?_
  exact ⟨⟨_,_,rfl,rfl,rfl⟩,rfl,trivial⟩
theorem zL6 {a0 a1 a2 r} (h:xC a0 a1 a2=some r):zG Tryz.prog 33 [(eNorm.dv a0),(zT eI a1),(db a2)] [(zT eI r)]:=by
 refine co Tryz.func33 ?_;intro _ _ _ _
 unfold xC at h
 refine Q0 ?_
 refine q89 ?_
 refine Q39 ?_
 refine yG ((jI (lq rfl) G28 rfl rfl rfl rfl).data rfl) ?_
 have ⟨t12,ht12,h⟩:=bE h
 refine q8 (zFO ht12) ?_
 refine q16 G28 ?_
 refine Q52 ?_
 refine yG ((jI (lq rfl) G28 rfl rfl rfl rfl).data rfl) ?_
 refine q0 ?_
 have ⟨t15,ht15,h⟩:=bE h
 refine yR rfl (zSH [(5,2515),(6,3015),(7,3515)] (zEH ht15) (lq rfl) (by decide) ⟨rfl,rfl,trivial⟩ rfl rfl trivial rfl rfl rfl (fun _=>rfl) rfl) ?_
 refine z47 ?_
 refine zJ<|Q3 ?_
 refine zP (uN (t:=8) 1008 3 eI.size (lq rfl) (lq rfl) rfl rfl) ?_
 refine Q4 ?_
 refine Q94 ?_
 have ⟨y1,hy1,h⟩:=bE h
 refine tl (.exit 0) ⟨[(3,.ptr 3 0),(8,.row 1008)],[(3,.box 28 [.d (zT eSpan t12.Classes),.d (zT eMapping t12.Decomp),.d (zT eRange t12.Excluded.Ranges)]),(1008,.row 3 eI.size false (eI.all y1))]⟩ ?_ ?_
 refine zD (fun x=>⟨[(3,.ptr 3 0),(7,.clo 61 [.ptr 2515 0,.d (.pt (eNorm.cells ({Classes:=t12.Classes,Decomp:=t12.Decomp,Excluded:=({Ranges:=t12.Excluded.Ranges}:Set)}:Norm))),.d (.pt [(db a2)]),.ptr 3015 0]),(8,.row 1008),(16,.d (zT eI a1)),(17,.d (di (a1.length:Int))),(18,.d (di x.1))],[(3,.box 28 [.d (zT eSpan t12.Classes),.d (zT eMapping t12.Decomp),.d (zT eRange t12.Excluded.Ranges)]),(1008,.row 3 eI.size false (eI.all x.2.1)),(2515,.box 94 [.row 3515]),(3015,.box 69 [.clo 61 [.ptr 2515 0,.d (.pt (eNorm.cells ({Classes:=t12.Classes,Decomp:=t12.Decomp,Excluded:=({Ranges:=t12.Excluded.Ranges}:Set)}:Norm))),.d (.pt [(db a2)]),.ptr 3015 0]]),(3515,.map (wE kI (eL eI) x.2.2))]⟩) hy1 (wc) ?_
 rintro ⟨v18,r1008,r3515⟩ sy1 p1
 replace p1:jK a1 t12 a2 v18 r1008 r3515=some sy1:=p1
 unfold jK at p1
 refine Q22 ?_
 refine z7 p1 (fun p1=>?_) (fun p1=>?_)
 refine Q29 ?_
 have ⟨t20,ht20,p1⟩:=bE p1
 refine q11 yI ht20 ?_
 refine q35 O3 ht20 ?_
 refine Q1 ?_
 refine Q64 ?_
 refine yG (zCX (lq rfl) rfl) ?_
 refine q0 ?_
 have ⟨t25,ht25,p1⟩:=bE p1
 refine yR rfl (zNS [(3001,2515),(3004,3015),(3120,3515)] (zC7 _ ht25) (lq rfl) (by decide) rfl ⟨rfl,rfl,rfl,rfl,rfl,trivial⟩ rfl rfl ⟨rfl,rfl,rfl,trivial⟩ rfl rfl rfl (fun _=>rfl) rfl) ?_
 have ⟨r1008_2,hr1008_2,p1⟩:=bE p1
 refine yR rfl (kW (en:=eI) (l:=r1008) (m:=t25.1) (lq rfl) yI rfl rfl rfl hr1008_2 (by decide) (by decide) rfl rfl) ?_
 refine Q13 ?_
 refine Q24 ?_
 cases p1
 exact wc
 refine zF ?_
 cases p1
 intro q;cases q
 exact zH (wc)
 refine Q0 ?_
 refine q51 zK0 ?_
 refine q28 O22 ?_
 refine q10 ?_
 refine zG7 (zDK (t:=30) (lq rfl) rfl rfl) ?_ (by simp)
 have ⟨t31,ht31,h⟩:=bE h
 refine yR rfl (zC5 [(100,2531)] (zHZ ht31) (lq rfl) (by decide) ⟨rfl,rfl,trivial⟩ rfl rfl trivial rfl rfl rfl (fun _=>rfl) rfl) ?_
 refine Q13 ?_
 cases h
 refine zB ?_
 exact zI rfl
theorem zL7 {a0} {a1} {a2} {r:(List Int)} (h:xC a0 a1 a2=some r):GC Tryz.prog 33 [.d (eNorm.dv a0),.d (zT eI a1),.d (db a2)] [] [] [.row 2531] [(2531,.row 3 eI.size false (eI.all r))]:=by
 refine zCE Tryz.func33 (by kernel_rfl) rfl (lq rfl) (lq rfl) fun w0 I0 hG0 p0=>?_
 unfold xC at h
 refine Q0 ?_
 refine q89 ?_
 refine Q39 ?_
 refine yG ((jI (lq rfl) G28 rfl rfl rfl rfl).data rfl) ?_
 have ⟨t12,ht12,h⟩:=bE h
 refine q8 (zFO ht12) ?_
 refine q16 G28 ?_
 refine Q52 ?_
 refine yG ((jI (lq rfl) G28 rfl rfl rfl rfl).data rfl) ?_
 refine q0 ?_
 have ⟨t15,ht15,h⟩:=bE h
 refine yR rfl (zSH [(5,2515),(6,3015),(7,3515)] (zEH ht15) (lq rfl) (by decide) ⟨rfl,rfl,trivial⟩ rfl rfl trivial rfl rfl rfl (fun _=>rfl) rfl) ?_
 refine z47 ?_
 refine zJ<|Q3 ?_
 refine zP (uN (t:=8) 1008 3 eI.size (lq rfl) (lq rfl) rfl rfl) ?_
 refine Q4 ?_
 refine Q94 ?_
 have ⟨y1,hy1,h⟩:=bE h
 refine tl (.exit 0) ⟨[(3,.ptr 3 0),(8,.row 1008)],[(3,.box 28 [.d (zT eSpan t12.Classes),.d (zT eMapping t12.Decomp),.d (zT eRange t12.Excluded.Ranges)]),(1008,.row 3 eI.size false (eI.all y1))]⟩ ?_ ?_
 refine zD (fun x=>⟨[(3,.ptr 3 0),(7,.clo 61 [.ptr 2515 0,.d (.pt (eNorm.cells ({Classes:=t12.Classes,Decomp:=t12.Decomp,Excluded:=({Ranges:=t12.Excluded.Ranges}:Set)}:Norm))),.d (.pt [(db a2)]),.ptr 3015 0]),(8,.row 1008),(16,.d (zT eI a1)),(17,.d (di (a1.length:Int))),(18,.d (di x.1))],[(3,.box 28 [.d (zT eSpan t12.Classes),.d (zT eMapping t12.Decomp),.d (zT eRange t12.Excluded.Ranges)]),(1008,.row 3 eI.size false (eI.all x.2.1)),(2515,.box 94 [.row 3515]),(3015,.box 69 [.clo 61 [.ptr 2515 0,.d (.pt (eNorm.cells ({Classes:=t12.Classes,Decomp:=t12.Decomp,Excluded:=({Ranges:=t12.Excluded.Ranges}:Set)}:Norm))),.d (.pt [(db a2)]),.ptr 3015 0]]),(3515,.map (wE kI (eL eI) x.2.2))]⟩) hy1 (wc) ?_
 rintro ⟨v18,r1008,r3515⟩ sy1 p1
 replace p1:jK a1 t12 a2 v18 r1008 r3515=some sy1:=p1
 unfold jK at p1
 refine Q22 ?_
 refine z7 p1 (fun p1=>?_) (fun p1=>?_)
 refine Q29 ?_
 have ⟨t20,ht20,p1⟩:=bE p1
 refine q11 yI ht20 ?_
 refine q35 O3 ht20 ?_
 refine Q1 ?_
 refine Q64 ?_
 refine yG (zCX (lq rfl) rfl) ?_
 refine q0 ?_
 have ⟨t25,ht25,p1⟩:=bE p1
 refine yR rfl (zNS [(3001,2515),(3004,3015),(3120,3515)] (zC7 _ ht25) (lq rfl) (by decide) rfl ⟨rfl,rfl,rfl,rfl,rfl,trivial⟩ rfl rfl ⟨rfl,rfl,rfl,trivial⟩ rfl rfl rfl (fun _=>rfl) rfl) ?_
 have ⟨r1008_2,hr1008_2,p1⟩:=bE p1
 refine yR rfl (kW (en:=eI) (l:=r1008) (m:=t25.1) (lq rfl) yI rfl rfl rfl hr1008_2 (by decide) (by decide) rfl rfl) ?_
 refine Q13 ?_
 refine Q24 ?_
 cases p1
 exact wc
 refine zF ?_
 cases p1
 intro q;cases q
 exact zH (wc)
 refine Q0 ?_
 refine q51 zK0 ?_
 refine q28 O22 ?_
 refine q10 ?_
 refine zG7 (zDK (t:=30) (lq rfl) rfl rfl) ?_ (by simp)
 have ⟨t31,ht31,h⟩:=bE h
 refine yR rfl (zC5 [(100,2531)] (zHZ ht31) (lq rfl) (by decide) ⟨rfl,rfl,trivial⟩ rfl rfl trivial rfl rfl rfl (fun _=>rfl) rfl) ?_
 refine Q13 ?_
 cases h
 refine zB ?_
 exact ⟨⟨_,_,rfl,rfl,rfl⟩,⟨rfl,trivial⟩⟩
set_option maxHeartbeats 8000000 in
theorem zIT {a0 a1 a2 r} (h:vU a0 a1 a2=some r):zG Tryz.prog 12 [(eNorm.dv a0),(eCollation.dv a1),(zT eI a2)] [(zT eElement r)]:=by
 refine co Tryz.func12 ?_;intro _ _ _ _
 unfold vU at h
 refine yFN ?_
 refine Q16 ?_
 have ⟨t14,ht14,h⟩:=bE h
 have ⟨t16,ht16,h⟩:=bE h
 refine tl .normal ⟨[(2,.d (zT eI a2)),(3,.d (.pt (eNorm.cells a0))),(7,.ptr 2514 0)],[(2514,.box 108 [.d (zT eEntry t16.c.Entries),.d (zT eGroup t16.c.Groups),.d (di t16.c.Base),.d (di t16.c.Second),.d (di t16.c.Third),.row 3014,.d (di t16.longest),.d (zT eSpan t16.classes),.d (di t16.top)]),(3014,.map (wE zDL (eL eElement) t16.entries))]⟩ ?_ ?_
 refine zDY MX ?_
 refine xn [0,2] ?_
 refine q94 G32 ?_ ?_
 refine xn [1,2] ?_
 refine xb rfl (zC5 [(13,2514),(11,3014)] (zDS ht14) (lq rfl) (by decide) ⟨rfl,trivial⟩ rfl rfl trivial rfl rfl rfl (fun _=>rfl) rfl) ?_ ?_
 refine xn [2] ?_
 refine q56 G28 ?_
 refine xn [3] ?_
 refine xd rfl (zC5 [(3000,2514),(3105,3014)] (zA1 ht16) (lq rfl) (by decide) ⟨rfl,rfl,trivial⟩ rfl rfl ⟨rfl,rfl,trivial⟩ rfl rfl rfl (fun _=>rfl) rfl) ?_
 refine xn [4] ?_
 refine xc rfl (zB3 (lq rfl) rfl) ?_
 exact ae
 refine q56 G28 ?_
 refine xn [1] ?_
 refine xd rfl (zC5 [(13,2514),(11,3014)] (zDS ht14) (lq rfl) (by decide) ⟨rfl,trivial⟩ rfl rfl trivial rfl rfl rfl (fun _=>rfl) rfl) ?_
 refine xn [3] ?_
 refine xd rfl (zC5 [(3000,2514),(3105,3014)] (zA1 ht16) (lq rfl) (by decide) ⟨rfl,rfl,trivial⟩ rfl rfl ⟨rfl,rfl,trivial⟩ rfl rfl rfl (fun _=>rfl) rfl) ?_
 refine xn [4] ?_
 refine xc rfl (zB3 (lq rfl) rfl) ?_
 exact ae
 refine q56 G28 ?_
 refine xn [0] ?_
 refine q56 G32 ?_
 refine xn [1] ?_
 refine xd rfl (zC5 [(13,2514),(11,3014)] (zDS ht14) (lq rfl) (by decide) ⟨rfl,trivial⟩ rfl rfl trivial rfl rfl rfl (fun _=>rfl) rfl) ?_
 refine xn [3] ?_
 refine xd rfl (zC5 [(3000,2514),(3105,3014)] (zA1 ht16) (lq rfl) (by decide) ⟨rfl,rfl,trivial⟩ rfl rfl ⟨rfl,rfl,trivial⟩ rfl rfl rfl (fun _=>rfl) rfl) ?_
 refine xn [4] ?_
 refine xc rfl (zB3 (lq rfl) rfl) ?_
 exact ae
 refine zP (zSE (bid:=2514) (off:=5) rfl rfl rfl) ?_
 refine zP (z0 (t:=7) (lq rfl) rfl rfl rfl) ?_
 refine Q3 ?_
 refine zP (uN (t:=8) 1008 64 eElement.size (lq rfl) (lq rfl) rfl rfl) ?_
 refine Q31 ?_
 refine q21 G28 ?_
 refine q0 ?_
 have ⟨t19,ht19,h⟩:=bE h
 refine yR rfl (zC5 [(2531,2519)] (zL7 ht19) (lq rfl) (by decide) ⟨rfl,rfl,rfl,trivial⟩ rfl rfl trivial rfl rfl rfl (fun _=>rfl) rfl) ?_
 refine Q13 ?_
 refine zP (zSD (id:=2519) rfl) ?_
 refine kA ?_
 have ⟨y1,hy1,h⟩:=bE h
 refine tl (.exit 0) ⟨[(8,.row 1008)],[(1008,.row 64 eElement.size false (eElement.all y1))]⟩ ?_ ?_
 refine zD (fun x=>⟨[(7,.d (.pt (eColltable_table.cells t16))),(8,.row 1008),(9,.row 2519)],[(1008,.row 64 eElement.size false (eElement.all x.1)),(2519,.win 3 eI.size 0 (eI.all x.2))]⟩) hy1 (wc) ?_
 rintro ⟨r1008,r2519⟩ sy1 p1
 replace p1:jJ t16 r1008 r2519=some sy1:=p1
 unfold jJ at p1
 refine Q31 ?_
 refine q10 ?_
 refine z81 yI ?_
 refine Q54 ?_
 refine z7 p1 (fun p1=>?_) (fun p1=>?_)
 refine zM<|Q80 ?_
 refine q10 ?_
 have ⟨t26,ht26,p1⟩:=bE p1
 refine yR rfl (zC5 [(3001,2519)] (zG0 ht26) (lq rfl) (by decide) ⟨rfl,rfl,trivial⟩ rfl rfl ⟨rfl,trivial⟩ rfl rfl rfl (fun _=>rfl) rfl) ?_
 refine yG (zMQ (lq rfl) rfl) ?_
 refine z46 ?_
 refine z46 ?_
 refine z46 ?_
 refine q1 ?_
 refine q1 ?_
 refine Q39 ?_
 refine Q18 ?_
 have ⟨r1008_2,hr1008_2,p1⟩:=bE p1
 refine yR rfl (kW (en:=eElement) (l:=r1008) (m:=t26.2.1) (lq rfl) S39 rfl rfl rfl hr1008_2 (by decide) (by decide) rfl rfl) ?_
 refine Q13 ?_
 refine zSM ?_
 have ⟨r2519_3,hr2519_3,p1⟩:=bE p1
 refine yR rfl (z37 (en:=eI) (l:=t26.2.2.2) (lq rfl) yI rfl rfl rfl hr2519_3 (Nat.le_refl _) rfl) ?_
 refine Q13 ?_
 cases p1
 exact wc
 refine zF ?_
 cases p1
 intro q;cases q
 exact zH (wc)
 refine Q61 ?_
 cases h
 refine zB ?_
 exact zI rfl
theorem zP6 {a0 r} (h:zEE a0=some r):zG Tryz.prog 35 [(eNorm.dv a0)] [(db r)]:=by
 refine co Tryz.func35 ?_;intro _ _ _ _
 unfold zEE at h
 refine Q40 ?_
 refine Q53 ?_
 refine q5 zK0 ?_
 refine q6 O22 ?_
 refine q4 S22 ?_
 refine q37 ?_
 have ⟨b8,hb8,h⟩:=bE h
 refine yG ((zC (lq rfl) rfl).bool (oi hb8)) ?_
 refine q25 (.ip (eNorm.cells a0) (0+1)) zMU ?_
 refine q26 (.d (zT eMapping a0.Decomp)) O23 ?_
 refine q64 (.d (di (a0.Decomp.length:Int))) S23 ?_
 refine q43 (.d (db (decide (40 < (a0.Decomp.length:Int))))) ?_
 refine q18 ?_
 have ⟨b14,hb14,h⟩:=bE h
 refine yG ((zC (lq rfl) rfl).bool (oi hb14)) ?_
 refine q25 (.ip (eNorm.cells a0) (0+2)) z4I ?_
 refine z4S (.ip (eNorm.cells a0) (0+2+0)) zF5 ?_
 refine q26 (.d (zT eRange a0.Excluded.Ranges)) O24 ?_
 refine q64 (.d (di (a0.Excluded.Ranges.length:Int))) S24 ?_
 refine q43 (.d (db (decide (12 < (a0.Excluded.Ranges.length:Int))))) ?_
 refine Q37 ?_
 refine z7 h (fun h=>?_) (fun h=>?_)
 refine Q3 ?_
 cases h
 refine zB ?_
 exact zI rfl
 refine Q93 ?_
 have ⟨y1,hy1,h⟩:=bE h
 refine zR y1 (.exit 0) (fun y1=>⟨[],[]⟩) .ret (fun y1=>⟨[(2,.d (db y1))],[]⟩) ?_ ?_ ?_
 refine zD (fun x=>⟨[(1,.d (.pt (eNorm.cells a0))),(3,.d (di x))],[]⟩) hy1 (wc) ?_
 rintro v3 sy1 p1
 replace p1:wL a0 v3=some sy1:=p1
 unfold wL at p1
 refine Q4 ?_
 refine Q89 ?_
 refine Q55 ?_
 refine z7 p1 (fun p1=>?_) (fun p1=>?_)
 refine Q29 ?_
 refine Q89 ?_
 refine q0 ?_
 have ⟨t31,ht31,p1⟩:=bE p1
 refine q11 S23 ht31 ?_
 refine q46 zB0 ?_
 refine q84 O33 ht31 ?_
 refine q4 yI ?_
 refine q37 ?_
 have ⟨b36,hb36,p1⟩:=bE p1
 refine yG ((zC (lq rfl) rfl).bool (oi hb36)) ?_
 refine q25 (.ip (eNorm.cells a0) (0+1)) zMU ?_
 refine q26 (.d (zT eMapping a0.Decomp)) O23 ?_
 refine q38 (.d (di v3)) ?_
 have ⟨t40,ht40,p1⟩:=bE p1
 refine sqf (.ip (eMapping.all a0.Decomp) (v3.toNat*eMapping.size)) rfl (fun hb=>by subst hb;exact kV (en:=eMapping) (lq rfl) S23 rfl rfl ht40) ?_
 refine z4S (.ip (eMapping.all a0.Decomp) (v3.toNat*eMapping.size+2)) zAW ?_
 refine sqf (.d (ds t40.Tag)) rfl (fun hb=>by subst hb;exact z9 (en:=eMapping) (l:=a0.Decomp) (i:=v3) (v:=t40) (off:=2) (lq rfl) O9 rfl ht40 rfl) ?_
 refine sqf (.d (di (t40.Tag.length:Int))) rfl (fun hb=>by subst hb;exact zOQ (s:=t40.Tag) (lq rfl) Tryz.underlying9 rfl) ?_
 refine q43 (.d (db (decide (40 < (t40.Tag.length:Int))))) ?_
 refine Q37 ?_
 refine z7 p1 (fun p1=>?_) (fun p1=>?_)
 refine Q17 ?_
 cases p1
 intro q;cases q
 exact ⟨rfl,wc⟩
 refine Q28 ?_
 cases p1
 exact wc
 refine zF ?_
 cases p1
 intro q;cases q
 exact ⟨rfl,wc⟩
 rintro y1 rfl
 replace h:=eL h
 refine Q3 ?_
 cases h
 refine zB ?_
 exact zI rfl
 rintro y1 rfl
 replace h:=eR h
 cases h
 exact zI rfl
theorem zH2 {a0 r} (h:w9 a0=some r):zG Tryz.prog 76 [(zT eElement a0)] [(db r)]:=by
 refine co Tryz.func76 ?_;intro _ _ _ _
 unfold w9 at h
 refine Q59 ?_
 refine q4 S39 ?_
 refine q70 ?_
 refine Q1 ?_
 cases h
 refine zB ?_
 exact zI rfl
theorem zVK {a0 r} (h:zGT a0=some r):zG Tryz.prog 36 [(eCollation.dv a0)] [(db r)]:=by
 refine co Tryz.func36 ?_;intro _ _ _ _
 unfold zGT at h
 refine Q84 ?_
 refine Q53 ?_
 refine yC4 ?_
 refine q37 ?_
 have ⟨b9,hb9,h⟩:=bE h
 refine yG ((zC (lq rfl) rfl).bool (oi hb9)) ?_
 refine q25 (.ip (eCollation.cells a0) (0+1)) z4J ?_
 refine q26 (.d (zT eGroup a0.Groups)) O30 ?_
 refine q64 (.d (di (a0.Groups.length:Int))) S30 ?_
 refine q43 (.d (db (decide (8 < (a0.Groups.length:Int))))) ?_
 refine Q37 ?_
 refine z7 h (fun h=>?_) (fun h=>?_)
 refine Q3 ?_
 cases h
 refine zB ?_
 exact zI rfl
 refine Q93 ?_
 have ⟨y1,hy1,h⟩:=bE h
 refine zR y1 (.exit 0) (fun y1=>⟨[(1,.d (.pt (eCollation.cells a0)))],[]⟩) .ret (fun y1=>⟨[(2,.d (db y1))],[]⟩) ?_ ?_ ?_
 refine zD (fun x=>⟨[(1,.d (.pt (eCollation.cells a0))),(3,.d (di x))],[]⟩) hy1 (wc) ?_
 rintro v3 sy1 p1
 replace p1:uV a0 v3=some sy1:=p1
 unfold uV at p1
 refine Q4 ?_
 refine yC4 ?_
 refine Q6 ?_
 refine z7 p1 (fun p1=>?_) (fun p1=>?_)
 refine Q29 ?_
 refine Q70 ?_
 refine q0 ?_
 have ⟨t25,ht25,p1⟩:=bE p1
 refine q11 S29 ht25 ?_
 refine q46 zMV ?_
 refine yHD O33 ht25 ?_
 refine q4 yI ?_
 refine q37 ?_
 have ⟨b30,hb30,p1⟩:=bE p1
 refine yG ((zC (lq rfl) rfl).bool (oi hb30)) ?_
 refine q25 (.ip (eCollation.cells a0) (0+0)) zYY ?_
 refine q26 (.d (zT eEntry a0.Entries)) O29 ?_
 refine q38 (.d (di v3)) ?_
 have ⟨t34,ht34,p1⟩:=bE p1
 refine sqf (.ip (eEntry.all a0.Entries) (v3.toNat*eEntry.size)) rfl (fun hb=>by subst hb;exact kV (en:=eEntry) (lq rfl) S29 rfl rfl ht34) ?_
 refine z4S (.ip (eEntry.all a0.Entries) (v3.toNat*eEntry.size+1)) zU8 ?_
 refine sqf (.d (zT eElement t34.Elements)) rfl (fun hb=>by subst hb;exact z9 (en:=eEntry) (l:=a0.Entries) (i:=v3) (v:=t34) (off:=1) (lq rfl) O39 rfl ht34 rfl) ?_
 have ⟨t37,ht37,p1⟩:=bE p1
 refine sqf (.d (db t37)) rfl (fun hb=>by subst hb;exact zBH (lq rfl) rfl (zH2 ht37)) ?_
 refine yCU (.d (db (!t37))) ?_
 refine Q37 ?_
 refine z7 p1 (fun p1=>?_) (fun p1=>?_)
 refine Q17 ?_
 cases p1
 intro q;cases q
 exact ⟨rfl,wc⟩
 refine Q28 ?_
 cases p1
 exact wc
 refine zF ?_
 cases p1
 intro q;cases q
 exact ⟨rfl,wc⟩
 rintro y1 rfl
 replace h:=eL h
 refine Q32 ?_
 have ⟨y2,hy2,h⟩:=bE h
 refine zR y2 (.exit 2) (fun y2=>⟨[],[]⟩) .ret (fun y2=>⟨[(2,.d (db y2))],[]⟩) ?_ ?_ ?_
 refine zD (fun x=>⟨[(1,.d (.pt (eCollation.cells a0))),(4,.d (di x))],[]⟩) hy2 (wc) ?_
 rintro v4 sy2 p2
 replace p2:zA0 a0 v4=some sy2:=p2
 unfold zA0 at p2
 refine Q4 ?_
 refine z11 ?_
 refine q4 S30 ?_
 refine Q6 ?_
 refine z7 p2 (fun p2=>?_) (fun p2=>?_)
 refine Q29 ?_
 refine z11 ?_
 refine q0 ?_
 have ⟨t50,ht50,p2⟩:=bE p2
 refine q11 S30 ht50 ?_
 refine q46 zSJ ?_
 refine yG (z9 (en:=eGroup) (l:=a0.Groups) (i:=v4) (v:=t50) (off:=0) (lq rfl) O9 rfl ht50 rfl) ?_
 refine z4W Tryz.underlying9 ?_
 refine Q54 ?_
 refine z7 p2 (fun p2=>?_) (fun p2=>?_)
 refine Q17 ?_
 cases p2
 intro q;cases q
 exact ⟨rfl,wc⟩
 refine Q28 ?_
 cases p2
 exact wc
 refine zF ?_
 cases p2
 intro q;cases q
 exact ⟨rfl,wc⟩
 rintro y2 rfl
 replace h:=eL h
 refine Q3 ?_
 cases h
 refine zB ?_
 exact zI rfl
 rintro y2 rfl
 replace h:=eR h
 cases h
 exact zI rfl
 rintro y1 rfl
 replace h:=eR h
 cases h
 exact zI rfl
theorem zP7 {a0 r} (h:zEF a0=some r):zG Tryz.prog 14 [(eUnicodetextlaw44_Data.dv a0)] [(db r)]:=by
 refine co Tryz.func14 ?_;intro _ _ _ _
 unfold zEF at h
 refine Q0 ?_
 refine yG (zKT (size:=12) (lq rfl) rfl rfl) ?_
 refine Q39 ?_
 refine q5 zYZ ?_
 refine q96 G28 ?_
 have ⟨t5,ht5,h⟩:=bE h
 refine q8 (zP6 ht5) ?_
 have ⟨b6,hb6,h⟩:=bE h
 refine yG ((zC (lq rfl) rfl).bool (oi hb6)) ?_
 refine q54 (.ip (eUnicodetextlaw44_Data.cells a0) (0+3)) z4L ?_
 refine sqt (.d (eCollation.dv a0.Collation)) rfl (fun hb=>by subst hb;exact zG6 (lq rfl) G32 rfl rfl rfl) ?_
 have ⟨t9,ht9,h⟩:=bE h
 refine sqt (.d (db t9)) rfl (fun hb=>by subst hb;exact zBH (lq rfl) rfl (zVK ht9)) ?_
 refine Q41 ?_
 cases h
 refine zB ?_
 exact zI rfl
theorem zEP {a0 r} (h:xY a0=some r):zG Tryz.prog 39 [(eOptions.dv a0)] [(di r)]:=by
 refine co Tryz.func39 ?_;intro _ _ _ _
 unfold xY at h
 refine z89 ?_
 refine Q53 ?_
 refine q5 z4K ?_
 refine z88 ?_
 have ⟨b6,hb6,h⟩:=bE h
 refine yG ((zC (lq rfl) rfl).bool (oi hb6)) ?_
 refine q25 (.ip (eOptions.cells a0) (0+0)) z4K ?_
 refine q26 (.d (di a0.Strength)) O3 ?_
 refine q43 (.d (db (decide (4 < a0.Strength)))) ?_
 refine Q37 ?_
 refine z7 h (fun h=>?_) (fun h=>?_)
 refine Q3 ?_
 cases h
 refine zB ?_
 exact zI rfl
 refine Q71 ?_
 refine q5 yAZ ?_
 refine q6 O3 ?_
 refine zJ<|kA<|Q31 ?_
 refine Q88 ?_
 have ⟨y1,hy1,h⟩:=bE h
 refine tl .normal ⟨[(13,.d (db y1))],[]⟩ ?_ ?_
 refine z7 hy1 (fun hy1=>?_) (fun hy1=>?_)
 refine zM ?_
 cases hy1
 exact zH (wc)
 refine Q0 ?_
 refine Q88 ?_
 refine z7 hy1 (fun hy1=>?_) (fun hy1=>?_)
 refine zM ?_
 cases hy1
 exact zH (wc)
 refine wC<|Q88 ?_
 cases hy1
 exact zH (wc)
 refine z7 h (fun h=>?_) (fun h=>?_)
 refine Q3 ?_
 cases h
 refine zB ?_
 exact zI rfl
 refine Q58 ?_
 cases h
 refine zB ?_
 exact zI rfl
theorem zEQ {a0 r} (h:wQ a0=some r):zG Tryz.prog 43 [(eOptions.dv a0)] [(eOptions.dv r)]:=by
 refine co Tryz.func43 ?_;intro _ _ _ _
 unfold wQ at h
 refine z89 ?_
 refine yR rfl (kB (zs:=[(.int IntKind.i64 (0)),(.int IntKind.i64 (0)),(.bool false),(.bool false)]) (lq rfl) (by kernel_rfl) rfl rfl) ?_
 refine zXS ?_
 refine q21 G49 ?_
 have ⟨t4,ht4,h⟩:=bE h
 refine q8 (zEP ht4) ?_
 refine Q33 ?_
 refine z7 h (fun h=>?_) (fun h=>?_)
 refine Q0 ?_
 refine q48 B49 ?_
 refine yC5 ?_
 cases h
 refine zB ?_
 exact vF rfl rfl G49 rfl
 refine Q50 ?_
 refine q21 G49 ?_
 refine yC5 ?_
 cases h
 refine zB ?_
 exact vF rfl rfl G49 rfl
theorem zH3 {a0} {a1} {a2} {r:A4Int×Bool} (h:w8 a0 a1 a2=some r):GC Tryz.prog 112 [.d (eElement.dv a0),.d (.pt [(di a1)]),.ptr 3002 0] [(3002,.box 4 [.d (db a2)])] [3002] [.d (eA4Int.dv r.1)] [(3002,.box 4 [.d (db r.2)])]:=by
 refine zCE Tryz.func112 (by kernel_rfl) rfl (lq rfl) (lq rfl) fun w0 I0 hG0 p0=>?_
 unfold w8 at h
 refine z89 ?_
 refine yR rfl (kB (zs:=[(.int IntKind.i64 (0)),(.int IntKind.i64 (0)),(.int IntKind.i64 (0)),(.int IntKind.i64 (0))]) (lq rfl) (by kernel_rfl) rfl rfl) ?_
 refine Q52 ?_
 refine Q85 ?_
 refine q5 zY0 ?_
 refine q6 O3 ?_
 refine q5 zY1 ?_
 refine q6 O3 ?_
 refine q78 zOX ?_
 refine yR rfl (kB (zs:=[(.int IntKind.i64 (0)),(.int IntKind.i64 (0)),(.int IntKind.i64 (0)),(.int IntKind.i64 (0))]) (lq rfl) (by kernel_rfl) rfl rfl) ?_
 refine q16 zPV ?_
 refine zXS ?_
 refine yG ((jI (lq rfl) zPV rfl rfl rfl rfl).data rfl) ?_
 refine q78 zOX ?_
 refine yG (zSB (en:=eA4Int) (a:=({x0:=({x0:=a0.Primary,x1:=a0.Secondary,x2:=a0.Tertiary,x3:=0}:A4Int).x0,x1:=({x0:=a0.Primary,x1:=a0.Secondary,x2:=a0.Tertiary,x3:=0}:A4Int).x1,x2:=({x0:=a0.Primary,x1:=a0.Secondary,x2:=a0.Tertiary,x3:=0}:A4Int).x2,x3:=({x0:=a0.Primary,x1:=a0.Secondary,x2:=a0.Tertiary,x3:=0}:A4Int).x3}:A4Int)) (b:=({x0:=0,x1:=0,x2:=0,x3:=0}:A4Int)) (lq rfl) yG6 rfl rfl) ?_
 refine zJ ?_
 have ⟨y1,hy1,h⟩:=bE h
 refine tl .normal ⟨[(1,.d (.pt [(di a1)])),(2,.ptr 3002 0),(3,.d (.pt (eElement.cells a0))),(4,.ptr 4 0),(5,.ptr 5 0)],[(4,.box 121 [.d (di 0),.d (di 0),.d (di 0),.d (di 0)]),(5,.box 121 [.d (di (({x0:=a0.Primary,x1:=a0.Secondary,x2:=a0.Tertiary,x3:=0}:A4Int).x0)),.d (di (({x0:=a0.Primary,x1:=a0.Secondary,x2:=a0.Tertiary,x3:=0}:A4Int).x1)),.d (di (({x0:=a0.Primary,x1:=a0.Secondary,x2:=a0.Tertiary,x3:=0}:A4Int).x2)),.d (di y1)]),(3002,.box 4 [.d (db a2)])]⟩ ?_ ?_
 refine z7 hy1 (fun hy1=>?_) (fun hy1=>?_)
 refine wC<|q65 zOX ?_
 refine z5E ?_
 cases hy1
 exact zH (wc)
 refine zM ?_
 cases hy1
 exact zH (wc)
 refine Q31 ?_
 refine q92 O3 ?_
 refine Q87 ?_
 refine z7 h (fun h=>?_) (fun h=>?_)
 refine Q0 ?_
 refine yG ((jI (lq rfl) zPV rfl rfl rfl rfl).data rfl) ?_
 refine q16 zPV ?_
 refine zJ ?_
 cases h
 refine zB ?_
 exact ⟨⟨_,_,_,_,_,rfl,rfl,rfl,.inr ⟨_,zPV,rfl,rfl⟩,rfl⟩,⟨rfl,trivial⟩⟩
 refine Q71 ?_
 refine q5 yA2 ?_
 refine q6 O4 ?_
 refine zJ ?_
 have ⟨y2,hy2,h⟩:=bE h
 refine tl .normal ⟨[(1,.d (.pt [(di a1)])),(2,.ptr 3002 0),(4,.ptr 4 0),(5,.ptr 5 0)],[(4,.box 121 [.d (di 0),.d (di 0),.d (di 0),.d (di 0)]),(5,.box 121 [.d (di y2.1),.d (di y2.2.1),.d (di y2.2.2.1),.d (di y2.2.2.2.1)]),(3002,.box 4 [.d (db y2.2.2.2.2)])]⟩ ?_ ?_
 refine z7 hy2 (fun hy2=>?_) (fun hy2=>?_)
 refine Q0 ?_
 refine q60 O4 ?_
 refine zJ<|wC<|Q85 ?_
 refine q78 zOX ?_
 refine q16 zPV ?_
 refine zJ ?_
 cases hy2
 exact zH (wc)
 refine Q0 ?_
 refine Q85 ?_
 refine Q33 ?_
 refine z7 hy2 (fun hy2=>?_) (fun hy2=>?_)
 refine wC<|q60 O4 ?_
 refine zJ ?_
 cases hy2
 exact zH (wc)
 refine Q0 ?_
 refine q28 O4 ?_
 refine zJ ?_
 refine z7 hy2 (fun hy2=>?_) (fun hy2=>?_)
 refine wC<|q78 zOX ?_
 refine q16 zPV ?_
 refine zJ ?_
 cases hy2
 exact zH (wc)
 refine zM ?_
 cases hy2
 exact zH (wc)
 refine Q31 ?_
 refine q92 O3 ?_
 refine Q87 ?_
 have ⟨y3,hy3,h⟩:=bE h
 refine tl .normal ⟨[(2,.ptr 3002 0),(4,.ptr 4 0),(5,.ptr 5 0)],[(4,.box 121 [.d (di 0),.d (di 0),.d (di 0),.d (di 0)]),(5,.box 121 [.d (di y2.1),.d (di y2.2.1),.d (di y2.2.2.1),.d (di y3)]),(3002,.box 4 [.d (db y2.2.2.2.2)])]⟩ ?_ ?_
 refine z7 hy3 (fun hy3=>?_) (fun hy3=>?_)
 refine wC<|q65 zOX ?_
 refine z5E ?_
 cases hy3
 exact zH (wc)
 refine zM ?_
 cases hy3
 exact zH (wc)
 refine Q0 ?_
 refine yG ((jI (lq rfl) zPV rfl rfl rfl rfl).data rfl) ?_
 refine q16 zPV ?_
 refine zJ ?_
 cases h
 refine zB ?_
 exact ⟨⟨_,_,_,_,_,rfl,rfl,rfl,.inr ⟨_,zPV,rfl,rfl⟩,rfl⟩,⟨rfl,trivial⟩⟩
theorem zJF {a0} {r:Unit} (h:zBJ a0=some r):GCA Tryz.prog 77 [.d (di a0)] [] [] (.clo 112 [.d (.pt [(di a0)]),.ptr 3 0]) [(3,.box 4 [.d (db false)])]:=by
 refine z3P Tryz.func77 (by kernel_rfl) rfl (lq rfl) (lq rfl) rfl fun w0 I0 hG0 p0=>?_
 unfold zBJ at h
 refine Q91 ?_
 refine Q39 ?_
 refine yR rfl (kB (zs:=[(.bool false)]) (lq rfl) (by kernel_rfl) rfl rfl) ?_
 refine q60 O4 ?_
 refine Q52 ?_
 refine yG (zL2 (cs:=[.d (.pt [(di a0)]),.ptr 3 0]) (lq rfl) ⟨_,_,rfl,rfl,⟨_,_,rfl,rfl,rfl⟩⟩) ?_
 refine z47 ?_
 refine zJ ?_
 cases h
 refine zB ?_
 exact ⟨rfl,⟨rfl,trivial⟩⟩
set_option maxHeartbeats 8000000 in
theorem zGM {a0} {r:(List Int)} (h:jS a0=some r):GC Tryz.prog 78 [.row 3000] [(3000,.row 3 eI.size false (eI.all a0))] [3000] [] [(3000,.row 3 eI.size false (eI.all r))]:=by
 refine zCE Tryz.func78 (by kernel_rfl) rfl (lq rfl) (lq rfl) fun w0 I0 hG0 p0=>?_
 unfold jS at h
 refine Q43 ?_
 refine z1L yI ?_
 refine q31 ?_
 refine Q46 ?_
 refine kA ?_
 have ⟨y1,hy1,h⟩:=bE h
 refine tl (.exit 0) ⟨[(0,.row 3000)],[(3000,.row 3 eI.size false (eI.all y1))]⟩ ?_ ?_
 refine zD (fun x=>⟨[(0,.row 3000),(2,.d (di x.1)),(3,.d (di x.2.1))],[(3000,.row 3 eI.size false (eI.all x.2.2))]⟩) hy1 (wc) ?_
 rintro ⟨v2,v3,r3000⟩ sy1 p1
 replace p1:k9 v2 v3 r3000=some sy1:=p1
 unfold k9 at p1
 refine Q72 ?_
 refine z7 p1 (fun p1=>?_) (fun p1=>?_)
 refine Q8 ?_
 have ⟨t20,ht20,p1⟩:=bE p1
 have ⟨t24,ht24,p1⟩:=bE p1
 have ⟨t26,ht26,p1⟩:=bE p1
 have ⟨r3000_3x13,hr3000_3x13,p1⟩:=bE p1
 have ⟨t27,ht27,p1⟩:=bE p1
 have ⟨r3000_3x15,hr3000_3x15,p1⟩:=bE p1
 refine tl .normal ⟨[(0,.row 3000),(2,.d (di v2)),(3,.d (di v3))],[(3000,.row 3 eI.size false (eI.all r3000_3x15))]⟩ ?_ ?_
 refine zDY MX ?_
 refine z13 ?_
 refine xm 3 ?_
 refine xm 4 ?_
 refine xm 5 ?_
 refine xm 8 ?_
 refine xm 9 ?_
 refine xn [6,10] ?_
 refine z80 yI ht20 ?_ ?_
 refine xn [7,10] ?_
 refine xa rfl (xA (en:=eI) (l:=r3000) (i:=v3) (v:=t20) (off:=0) (lq rfl) O3 rfl rfl ht20 rfl) ?_ ?_
 refine xn [10] ?_
 refine q34 yI ht24 ?_
 refine xn [11] ?_
 refine xc rfl (xA (en:=eI) (l:=r3000) (i:=v2) (v:=t24) (off:=0) (lq rfl) O3 rfl rfl ht24 rfl) ?_
 refine xn [12] ?_
 refine q34 yI ht26 ?_
 refine xn [13] ?_
 refine xd rfl (wP (en:=eI) (l:=r3000) (i:=v2) (v:=t26) (off:=0) O3 rfl rfl rfl ht26 rfl (by decide) hr3000_3x13 rfl rfl) ?_
 refine xn [14] ?_
 refine q34 yI ht27 ?_
 refine xn [15] ?_
 refine xd rfl (wP (en:=eI) (l:=r3000_3x13) (i:=v3) (v:=t27) (off:=0) O3 rfl rfl rfl ht27 rfl (by decide) hr3000_3x15 rfl rfl) ?_
 exact ae
 refine q34 yI ht24 ?_
 refine xn [7,11] ?_
 refine xa rfl (xA (en:=eI) (l:=r3000) (i:=v3) (v:=t20) (off:=0) (lq rfl) O3 rfl rfl ht20 rfl) ?_ ?_
 refine xn [11] ?_
 refine xc rfl (xA (en:=eI) (l:=r3000) (i:=v2) (v:=t24) (off:=0) (lq rfl) O3 rfl rfl ht24 rfl) ?_
 refine xn [12] ?_
 refine q34 yI ht26 ?_
 refine xn [13] ?_
 refine xd rfl (wP (en:=eI) (l:=r3000) (i:=v2) (v:=t26) (off:=0) O3 rfl rfl rfl ht26 rfl (by decide) hr3000_3x13 rfl rfl) ?_
 refine xn [14] ?_
 refine q34 yI ht27 ?_
 refine xn [15] ?_
 refine xd rfl (wP (en:=eI) (l:=r3000_3x13) (i:=v3) (v:=t27) (off:=0) O3 rfl rfl rfl ht27 rfl (by decide) hr3000_3x15 rfl rfl) ?_
 exact ae
 refine xc rfl (xA (en:=eI) (l:=r3000) (i:=v2) (v:=t24) (off:=0) (lq rfl) O3 rfl rfl ht24 rfl) ?_
 refine xn [7] ?_
 refine xc rfl (xA (en:=eI) (l:=r3000) (i:=v3) (v:=t20) (off:=0) (lq rfl) O3 rfl rfl ht20 rfl) ?_
 refine xn [12] ?_
 refine q34 yI ht26 ?_
 refine xn [13] ?_
 refine xd rfl (wP (en:=eI) (l:=r3000) (i:=v2) (v:=t26) (off:=0) O3 rfl rfl rfl ht26 rfl (by decide) hr3000_3x13 rfl rfl) ?_
 refine xn [14] ?_
 refine q34 yI ht27 ?_
 refine xn [15] ?_
 refine xd rfl (wP (en:=eI) (l:=r3000_3x13) (i:=v3) (v:=t27) (off:=0) O3 rfl rfl rfl ht27 rfl (by decide) hr3000_3x15 rfl rfl) ?_
 exact ae
 refine q34 yI ht24 ?_
 refine xn [6,11] ?_
 refine z80 yI ht20 ?_ ?_
 refine xn [7,11] ?_
 refine xa rfl (xA (en:=eI) (l:=r3000) (i:=v3) (v:=t20) (off:=0) (lq rfl) O3 rfl rfl ht20 rfl) ?_ ?_
 refine xn [11] ?_
 refine xc rfl (xA (en:=eI) (l:=r3000) (i:=v2) (v:=t24) (off:=0) (lq rfl) O3 rfl rfl ht24 rfl) ?_
 refine xn [12] ?_
 refine q34 yI ht26 ?_
 refine xn [13] ?_
 refine xd rfl (wP (en:=eI) (l:=r3000) (i:=v2) (v:=t26) (off:=0) O3 rfl rfl rfl ht26 rfl (by decide) hr3000_3x13 rfl rfl) ?_
 refine xn [14] ?_
 refine q34 yI ht27 ?_
 refine xn [15] ?_
 refine xd rfl (wP (en:=eI) (l:=r3000_3x13) (i:=v3) (v:=t27) (off:=0) O3 rfl rfl rfl ht27 rfl (by decide) hr3000_3x15 rfl rfl) ?_
 exact ae
 refine xc rfl (xA (en:=eI) (l:=r3000) (i:=v2) (v:=t24) (off:=0) (lq rfl) O3 rfl rfl ht24 rfl) ?_
 refine xn [7] ?_
 refine xc rfl (xA (en:=eI) (l:=r3000) (i:=v3) (v:=t20) (off:=0) (lq rfl) O3 rfl rfl ht20 rfl) ?_
 refine xn [12] ?_
 refine q34 yI ht26 ?_
 refine xn [13] ?_
 refine xd rfl (wP (en:=eI) (l:=r3000) (i:=v2) (v:=t26) (off:=0) O3 rfl rfl rfl ht26 rfl (by decide) hr3000_3x13 rfl rfl) ?_
 refine xn [14] ?_
 refine q34 yI ht27 ?_
 refine xn [15] ?_
 refine xd rfl (wP (en:=eI) (l:=r3000_3x13) (i:=v3) (v:=t27) (off:=0) O3 rfl rfl rfl ht27 rfl (by decide) hr3000_3x15 rfl rfl) ?_
 exact ae
 refine xc rfl (xA (en:=eI) (l:=r3000) (i:=v2) (v:=t24) (off:=0) (lq rfl) O3 rfl rfl ht24 rfl) ?_
 refine xn [6] ?_
 refine q34 yI ht20 ?_
 refine xn [7] ?_
 refine xc rfl (xA (en:=eI) (l:=r3000) (i:=v3) (v:=t20) (off:=0) (lq rfl) O3 rfl rfl ht20 rfl) ?_
 refine xn [12] ?_
 refine q34 yI ht26 ?_
 refine xn [13] ?_
 refine xd rfl (wP (en:=eI) (l:=r3000) (i:=v2) (v:=t26) (off:=0) O3 rfl rfl rfl ht26 rfl (by decide) hr3000_3x13 rfl rfl) ?_
 refine xn [14] ?_
 refine q34 yI ht27 ?_
 refine xn [15] ?_
 refine xd rfl (wP (en:=eI) (l:=r3000_3x13) (i:=v3) (v:=t27) (off:=0) O3 rfl rfl rfl ht27 rfl (by decide) hr3000_3x15 rfl rfl) ?_
 exact ae
 refine Q7 ?_
 refine q2 ?_
 refine q0 ?_
 refine q31 ?_
 refine Q46 ?_
 cases p1
 exact wc
 refine zF ?_
 cases p1
 intro q;cases q
 exact zH (wc)
 cases h
 exact ⟨rfl,⟨rfl,trivial⟩⟩
theorem zGB {a0 a1 r} (h:uJ a0 a1=some r):zG Tryz.prog 37 [(zT eElement a0),(eOptions.dv a1)] [(zT (eL eI) r)]:=by
 refine co Tryz.func37 ?_;intro _ _ _ _
 unfold uJ at h
 refine Q0 ?_
 refine q89 ?_
 refine Q39 ?_
 refine yG ((jI (lq rfl) G49 rfl rfl rfl rfl).data rfl) ?_
 have ⟨t12,ht12,h⟩:=bE h
 refine q8 (zEQ ht12) ?_
 refine q16 G49 ?_
 refine Q52 ?_
 refine yR rfl (kB (zs:=[(.slice none 0 0),(.slice none 0 0),(.slice none 0 0),(.slice none 0 0)]) (lq rfl) (by kernel_rfl) rfl rfl) ?_
 refine zJ ?_
 refine zP (zB4 (bid:=5) (off:=0) 4100 3 eI.size (lq rfl) (by decide) rfl rfl rfl) ?_
 refine zP (zB4 (bid:=5) (off:=1) 4101 3 eI.size (lq rfl) (by decide) rfl rfl rfl) ?_
 refine zP (zB4 (bid:=5) (off:=2) 4102 3 eI.size (lq rfl) (by decide) rfl rfl rfl) ?_
 refine zP (zB4 (bid:=5) (off:=3) 4103 3 eI.size (lq rfl) (by decide) rfl rfl rfl) ?_
 refine Q0 ?_
 refine q51 yAZ ?_
 refine q28 O3 ?_
 have ⟨t15,ht15,h⟩:=bE h
 refine yR rfl (zSH [(3,2515)] (zJF ht15) (lq rfl) (by decide) ⟨rfl,trivial⟩ rfl rfl trivial rfl rfl rfl (fun _=>rfl) rfl) ?_
 refine z47 ?_
 refine zJ<|Q4 ?_
 refine q4 S39 ?_
 refine Q30 ?_
 have ⟨y1,hy1,h⟩:=bE h
 refine tl (.exit 0) ⟨[(3,.ptr 3 0),(5,.ptr 5 0)],[(3,.box 49 [.d (di t12.Strength),.d (di t12.Variable),.d (db t12.Backward),.d (db t12.Identical)]),(5,.box 118 [.row 4100,.row 4101,.row 4102,.row 4103]),(4100,.row 3 eI.size false (eI.all y1.1)),(4101,.row 3 eI.size false (eI.all y1.2.1)),(4102,.row 3 eI.size false (eI.all y1.2.2.1)),(4103,.row 3 eI.size false (eI.all y1.2.2.2))]⟩ ?_ ?_
 refine zD (fun x=>⟨[(3,.ptr 3 0),(5,.ptr 5 0),(6,.clo 112 [.d (.pt [(di t12.Variable)]),.ptr 2515 0]),(16,.d (zT eElement a0)),(17,.d (di (a0.length:Int))),(18,.d (di x.1))],[(3,.box 49 [.d (di t12.Strength),.d (di t12.Variable),.d (db t12.Backward),.d (db t12.Identical)]),(5,.box 118 [.row 4100,.row 4101,.row 4102,.row 4103]),(2515,.box 4 [.d (db x.2.1)]),(4100,.row 3 eI.size false (eI.all x.2.2.1)),(4101,.row 3 eI.size false (eI.all x.2.2.2.1)),(4102,.row 3 eI.size false (eI.all x.2.2.2.2.1)),(4103,.row 3 eI.size false (eI.all x.2.2.2.2.2))]⟩) hy1 (wc) ?_
 rintro ⟨v18,k2515_0,r4100,r4101,r4102,r4103⟩ sy1 p1
 replace p1:xV a0 t12 v18 k2515_0 r4100 r4101 r4102 r4103=some sy1:=p1
 unfold xV at p1
 refine Q22 ?_
 refine z7 p1 (fun p1=>?_) (fun p1=>?_)
 refine Q29 ?_
 have ⟨t20,ht20,p1⟩:=bE p1
 refine q11 S39 ht20 ?_
 refine yCV G64 ht20 ?_
 refine yCX ?_
 refine q16 G64 ?_
 refine zJ ?_
 refine zP (z0 (t:=8) (lq rfl) rfl rfl rfl) ?_
 refine Q0 ?_
 refine yG (zCX (lq rfl) rfl) ?_
 refine q21 G64 ?_
 have ⟨t24,ht24,p1⟩:=bE p1
 refine yR rfl (zNS [(3002,2515)] (zH3 ht24) (lq rfl) (by decide) rfl ⟨rfl,rfl,rfl,trivial⟩ rfl rfl ⟨rfl,trivial⟩ rfl rfl rfl (fun _=>rfl) rfl) ?_
 refine Q30 ?_
 have ⟨y2,hy2,p1⟩:=bE p1
 refine tl (.exit 2) ⟨[(3,.ptr 3 0),(5,.ptr 5 0),(6,.clo 112 [.d (.pt [(di t12.Variable)]),.ptr 2515 0]),(16,.d (zT eElement a0)),(17,.d (di (a0.length:Int))),(18,.d (di v18))],[(3,.box 49 [.d (di t12.Strength),.d (di t12.Variable),.d (db t12.Backward),.d (db t12.Identical)]),(5,.box 118 [.row 4100,.row 4101,.row 4102,.row 4103]),(2515,.box 4 [.d (db t24.2)]),(4100,.row 3 eI.size false (eI.all y2.1)),(4101,.row 3 eI.size false (eI.all y2.2.1)),(4102,.row 3 eI.size false (eI.all y2.2.2.1)),(4103,.row 3 eI.size false (eI.all y2.2.2.2))]⟩ ?_ ?_
 refine zD (fun x=>⟨[(3,.ptr 3 0),(5,.ptr 5 0),(6,.clo 112 [.d (.pt [(di t12.Variable)]),.ptr 2515 0]),(16,.d (zT eElement a0)),(17,.d (di (a0.length:Int))),(18,.d (di v18)),(24,.d (eA4Int.dv t24.1)),(25,.d (di x.1))],[(3,.box 49 [.d (di t12.Strength),.d (di t12.Variable),.d (db t12.Backward),.d (db t12.Identical)]),(5,.box 118 [.row 4100,.row 4101,.row 4102,.row 4103]),(2515,.box 4 [.d (db t24.2)]),(4100,.row 3 eI.size false (eI.all x.2.1)),(4101,.row 3 eI.size false (eI.all x.2.2.1)),(4102,.row 3 eI.size false (eI.all x.2.2.2.1)),(4103,.row 3 eI.size false (eI.all x.2.2.2.2))]⟩) hy2 (wc) ?_
 rintro ⟨v25,r4100,r4101,r4102,r4103⟩ sy2 p2
 replace p2:jA t24 v25 r4100 r4101 r4102 r4103=some sy2:=p2
 unfold jA at p2
 rcases z4E p2 with ⟨c,p2⟩ | p2
 obtain rfl:v25=0:=c
 refine Q22 ?_
 refine zIC rfl ⟨fun _=>?_,fun c=>(by cases c)⟩
 refine Q5 ?_
 have ⟨y3,hy3,p2⟩:=bE p2
 refine tl .normal ⟨[(3,.ptr 3 0),(5,.ptr 5 0),(6,.clo 112 [.d (.pt [(di t12.Variable)]),.ptr 2515 0]),(16,.d (zT eElement a0)),(17,.d (di (a0.length:Int))),(18,.d (di v18)),(24,.d (eA4Int.dv t24.1)),(25,.d (di (0:Int)))],[(3,.box 49 [.d (di t12.Strength),.d (di t12.Variable),.d (db t12.Backward),.d (db t12.Identical)]),(5,.box 118 [.row 4100,.row 4101,.row 4102,.row 4103]),(2515,.box 4 [.d (db t24.2)]),(4100,.row 3 eI.size false (eI.all y3)),(4101,.row 3 eI.size false (eI.all r4101)),(4102,.row 3 eI.size false (eI.all r4102)),(4103,.row 3 eI.size false (eI.all r4103))]⟩ ?_ ?_
 refine Q80 ?_
 have ⟨t28,ht28,hy3⟩:=bE hy3
 refine yG (zIK (en:=eI) (l:=[t24.1.x0,t24.1.x1,t24.1.x2,t24.1.x3]) (lq rfl) zOX O3 (fun _=>rfl) rfl rfl rfl ht28) ?_
 refine q1 ?_
 refine Q62 ?_
 refine z7 hy3 (fun hy3=>?_) (fun hy3=>?_)
 refine Q66 ?_
 refine q65 zPU ?_
 refine q28 O33 ?_
 refine q0 ?_
 refine q24 yI ?_
 have ⟨r4100_4,hr4100_4,hy3⟩:=bE hy3
 refine yR rfl (kW (en:=eI) (l:=r4100) (m:=[t28]) (lq rfl) yI rfl rfl rfl hr4100_4 (by decide) (by decide) rfl rfl) ?_
 refine q65 zPU ?_
 refine q93 O33 ?_
 refine zJ ?_
 cases hy3
 exact zH (wc)
 refine zM ?_
 cases hy3
 exact zH (wc)
 refine Q24 ?_
 cases p2
 exact wc
 rcases z4E p2 with ⟨c,p2⟩ | p2
 obtain rfl:v25=1:=c
 refine Q22 ?_
 refine zIC rfl ⟨fun _=>?_,fun c=>(by cases c)⟩
 refine Q5 ?_
 have ⟨y5,hy5,p2⟩:=bE p2
 refine tl .normal ⟨[(3,.ptr 3 0),(5,.ptr 5 0),(6,.clo 112 [.d (.pt [(di t12.Variable)]),.ptr 2515 0]),(16,.d (zT eElement a0)),(17,.d (di (a0.length:Int))),(18,.d (di v18)),(24,.d (eA4Int.dv t24.1)),(25,.d (di (1:Int)))],[(3,.box 49 [.d (di t12.Strength),.d (di t12.Variable),.d (db t12.Backward),.d (db t12.Identical)]),(5,.box 118 [.row 4100,.row 4101,.row 4102,.row 4103]),(2515,.box 4 [.d (db t24.2)]),(4100,.row 3 eI.size false (eI.all r4100)),(4101,.row 3 eI.size false (eI.all y5)),(4102,.row 3 eI.size false (eI.all r4102)),(4103,.row 3 eI.size false (eI.all r4103))]⟩ ?_ ?_
 refine Q80 ?_
 have ⟨t28,ht28,hy5⟩:=bE hy5
 refine yG (zIK (en:=eI) (l:=[t24.1.x0,t24.1.x1,t24.1.x2,t24.1.x3]) (lq rfl) zOX O3 (fun _=>rfl) rfl rfl rfl ht28) ?_
 refine q1 ?_
 refine Q62 ?_
 refine z7 hy5 (fun hy5=>?_) (fun hy5=>?_)
 refine Q66 ?_
 refine q65 zPU ?_
 refine q28 O33 ?_
 refine q0 ?_
 refine q24 yI ?_
 have ⟨r4101_6,hr4101_6,hy5⟩:=bE hy5
 refine yR rfl (kW (en:=eI) (l:=r4101) (m:=[t28]) (lq rfl) yI rfl rfl rfl hr4101_6 (by decide) (by decide) rfl rfl) ?_
 refine q65 zPU ?_
 refine q93 O33 ?_
 refine zJ ?_
 cases hy5
 exact zH (wc)
 refine zM ?_
 cases hy5
 exact zH (wc)
 refine Q24 ?_
 cases p2
 exact wc
 rcases z4E p2 with ⟨c,p2⟩ | p2
 obtain rfl:v25=2:=c
 refine Q22 ?_
 refine zIC rfl ⟨fun _=>?_,fun c=>(by cases c)⟩
 refine Q5 ?_
 have ⟨y7,hy7,p2⟩:=bE p2
 refine tl .normal ⟨[(3,.ptr 3 0),(5,.ptr 5 0),(6,.clo 112 [.d (.pt [(di t12.Variable)]),.ptr 2515 0]),(16,.d (zT eElement a0)),(17,.d (di (a0.length:Int))),(18,.d (di v18)),(24,.d (eA4Int.dv t24.1)),(25,.d (di (2:Int)))],[(3,.box 49 [.d (di t12.Strength),.d (di t12.Variable),.d (db t12.Backward),.d (db t12.Identical)]),(5,.box 118 [.row 4100,.row 4101,.row 4102,.row 4103]),(2515,.box 4 [.d (db t24.2)]),(4100,.row 3 eI.size false (eI.all r4100)),(4101,.row 3 eI.size false (eI.all r4101)),(4102,.row 3 eI.size false (eI.all y7)),(4103,.row 3 eI.size false (eI.all r4103))]⟩ ?_ ?_
 refine Q80 ?_
 have ⟨t28,ht28,hy7⟩:=bE hy7
 refine yG (zIK (en:=eI) (l:=[t24.1.x0,t24.1.x1,t24.1.x2,t24.1.x3]) (lq rfl) zOX O3 (fun _=>rfl) rfl rfl rfl ht28) ?_
 refine q1 ?_
 refine Q62 ?_
 refine z7 hy7 (fun hy7=>?_) (fun hy7=>?_)
 refine Q66 ?_
 refine q65 zPU ?_
 refine q28 O33 ?_
 refine q0 ?_
 refine q24 yI ?_
 have ⟨r4102_8,hr4102_8,hy7⟩:=bE hy7
 refine yR rfl (kW (en:=eI) (l:=r4102) (m:=[t28]) (lq rfl) yI rfl rfl rfl hr4102_8 (by decide) (by decide) rfl rfl) ?_
 refine q65 zPU ?_
 refine q93 O33 ?_
 refine zJ ?_
 cases hy7
 exact zH (wc)
 refine zM ?_
 cases hy7
 exact zH (wc)
 refine Q24 ?_
 cases p2
 exact wc
 rcases z4E p2 with ⟨c,p2⟩ | p2
 obtain rfl:v25=3:=c
 refine Q22 ?_
 refine zIC rfl ⟨fun _=>?_,fun c=>(by cases c)⟩
 refine Q5 ?_
 have ⟨y9,hy9,p2⟩:=bE p2
 refine tl .normal ⟨[(3,.ptr 3 0),(5,.ptr 5 0),(6,.clo 112 [.d (.pt [(di t12.Variable)]),.ptr 2515 0]),(16,.d (zT eElement a0)),(17,.d (di (a0.length:Int))),(18,.d (di v18)),(24,.d (eA4Int.dv t24.1)),(25,.d (di (3:Int)))],[(3,.box 49 [.d (di t12.Strength),.d (di t12.Variable),.d (db t12.Backward),.d (db t12.Identical)]),(5,.box 118 [.row 4100,.row 4101,.row 4102,.row 4103]),(2515,.box 4 [.d (db t24.2)]),(4100,.row 3 eI.size false (eI.all r4100)),(4101,.row 3 eI.size false (eI.all r4101)),(4102,.row 3 eI.size false (eI.all r4102)),(4103,.row 3 eI.size false (eI.all y9))]⟩ ?_ ?_
 refine Q80 ?_
 have ⟨t28,ht28,hy9⟩:=bE hy9
 refine yG (zIK (en:=eI) (l:=[t24.1.x0,t24.1.x1,t24.1.x2,t24.1.x3]) (lq rfl) zOX O3 (fun _=>rfl) rfl rfl rfl ht28) ?_
 refine q1 ?_
 refine Q62 ?_
 refine z7 hy9 (fun hy9=>?_) (fun hy9=>?_)
 refine Q66 ?_
 refine q65 zPU ?_
 refine q28 O33 ?_
 refine q0 ?_
 refine q24 yI ?_
 have ⟨r4103_10,hr4103_10,hy9⟩:=bE hy9
 refine yR rfl (kW (en:=eI) (l:=r4103) (m:=[t28]) (lq rfl) yI rfl rfl rfl hr4103_10 (by decide) (by decide) rfl rfl) ?_
 refine q65 zPU ?_
 refine q93 O33 ?_
 refine zJ ?_
 cases hy9
 exact zH (wc)
 refine zM ?_
 cases hy9
 exact zH (wc)
 refine Q24 ?_
 cases p2
 exact wc
 rcases z4E p2 with ⟨c,p2⟩ | p2
 obtain rfl:v25=4:=c
 refine Q22 ?_
 refine zIC rfl ⟨fun c=>(by cases c),fun _=>?_⟩
 refine zF ?_
 cases p2
 intro q;cases q
 exact zH (wc)
 cases p2
 refine Q24 ?_
 cases p1
 exact wc
 refine zF ?_
 cases p1
 intro q;cases q
 exact zH (wc)
 refine Q31 ?_
 refine q51 yE5 ?_
 refine q28 O4 ?_
 refine zJ ?_
 have ⟨y11,hy11,h⟩:=bE h
 refine tl .normal ⟨[(3,.ptr 3 0),(5,.ptr 5 0)],[(3,.box 49 [.d (di t12.Strength),.d (di t12.Variable),.d (db t12.Backward),.d (db t12.Identical)]),(5,.box 118 [.row 4100,.row 4101,.row 4102,.row 4103]),(4100,.row 3 eI.size false (eI.all y1.1)),(4101,.row 3 eI.size false (eI.all y11)),(4102,.row 3 eI.size false (eI.all y1.2.2.1)),(4103,.row 3 eI.size false (eI.all y1.2.2.2))]⟩ ?_ ?_
 refine z7 hy11 (fun hy11=>?_) (fun hy11=>?_)
 refine wC<|q65 zPU ?_
 refine q28 O33 ?_
 have ⟨t45,ht45,hy11⟩:=bE hy11
 refine yR rfl (zC5 [(3000,4101)] (zGM ht45) (lq rfl) (by decide) ⟨rfl,trivial⟩ rfl rfl ⟨rfl,trivial⟩ rfl rfl rfl (fun _=>rfl) rfl) ?_
 refine zJ ?_
 cases hy11
 exact zH (wc)
 refine zM ?_
 cases hy11
 exact zH (wc)
 refine kU ?_
 refine zP (zC3 (bid:=5) (off:=0) rfl rfl rfl) ?_
 refine zP (zC3 (bid:=5) (off:=1) rfl rfl rfl) ?_
 refine zP (zC3 (bid:=5) (off:=2) rfl rfl rfl) ?_
 refine zP (zC3 (bid:=5) (off:=3) rfl rfl rfl) ?_
 refine zP (z0 (t:=5) (lq rfl) rfl rfl rfl) ?_
 refine wC<|q51 z4K ?_
 refine q28 O3 ?_
 have ⟨t48,ht48,h⟩:=bE h
 refine yG (zW9 (en:=(eL eI)) (l:=[({x0:=y1.1,x1:=y11,x2:=y1.2.2.1,x3:=y1.2.2.2}:A4ListInt).x0,({x0:=y1.1,x1:=y11,x2:=y1.2.2.1,x3:=y1.2.2.2}:A4ListInt).x1,({x0:=y1.1,x1:=y11,x2:=y1.2.2.1,x3:=y1.2.2.2}:A4ListInt).x2,({x0:=y1.1,x1:=y11,x2:=y1.2.2.1,x3:=y1.2.2.2}:A4ListInt).x3]) (lq rfl) zPU rfl (by decide) rfl rfl ht48) ?_
 have ⟨r49_12,hr49_12,h⟩:=bE h
 refine yR rfl (z1D (en:=(eL eI)) (m:=t48) (id:=49) (lq rfl) S78 rfl rfl hr49_12 (by decide) (by decide) rfl rfl) ?_
 refine Q13 ?_
 cases h
 refine zB ?_
 exact zI rfl
theorem zGN {a0 a1 a2 a3 r} (h:uT a0 a1 a2 a3=some r):zG Tryz.prog 18 [(eNorm.dv a0),(eCollation.dv a1),(eOptions.dv a2),(zT eI a3)] [(zT eI r)]:=by
 refine co Tryz.func18 ?_;intro _ _ _ _
 unfold uT at h
 refine yFN ?_
 refine q89 ?_
 refine Q39 ?_
 refine yG ((jI (lq rfl) G49 rfl rfl rfl rfl).data rfl) ?_
 have ⟨t15,ht15,h⟩:=bE h
 refine q8 (zEQ ht15) ?_
 refine yC5 ?_
 refine Q3 ?_
 refine zP (uN (t:=9) 1009 3 eI.size (lq rfl) (lq rfl) rfl rfl) ?_
 refine kU<|kU ?_
 refine yD MX rfl ?_
 refine q69 G28 ?_
 refine q69 G32 ?_
 refine q7 ?_
 have ⟨t19,ht19,h⟩:=bE h
 refine q22 (zIT ht19) ?_
 refine u6 ((jI (lq rfl) G49 rfl rfl rfl rfl).data rfl) ?_
 have ⟨t21,ht21,h⟩:=bE h
 refine q22 (zGB ht21) ?_
 refine yCY S78 ?_
 refine q7 ?_
 refine vP<|kA ?_
 have ⟨y1,hy1,h⟩:=bE h
 refine tl (.exit 0) ⟨[(3,.d (zT eI a3)),(4,.d (.pt (eNorm.cells a0))),(6,.ptr 6 0),(9,.row 1009)],[(6,.box 49 [.d (di t15.Strength),.d (di t15.Variable),.d (db t15.Backward),.d (db t15.Identical)]),(1009,.row 3 eI.size false (eI.all y1))]⟩ ?_ ?_
 refine zD (fun x=>⟨[(3,.d (zT eI a3)),(4,.d (.pt (eNorm.cells a0))),(6,.ptr 6 0),(9,.row 1009),(21,.d (zT (eL eI) t21)),(22,.d (di (t21.length:Int))),(23,.d (di x.1))],[(6,.box 49 [.d (di t15.Strength),.d (di t15.Variable),.d (db t15.Backward),.d (db t15.Identical)]),(1009,.row 3 eI.size false (eI.all x.2))]⟩) hy1 (wc) ?_
 rintro ⟨v23,r1009⟩ sy1 p1
 replace p1:zAJ t21 v23 r1009=some sy1:=p1
 unfold zAJ at p1
 refine Q22 ?_
 refine z7 p1 (fun p1=>?_) (fun p1=>?_)
 refine Q8 ?_
 refine Q2 ?_
 have ⟨t26,ht26,p1⟩:=bE p1
 refine q11 S78 ht26 ?_
 refine yFL O33 ht26 ?_
 refine zXT ?_
 refine Q54 ?_
 have ⟨y2,hy2,p1⟩:=bE p1
 refine tl .normal ⟨[(3,.d (zT eI a3)),(4,.d (.pt (eNorm.cells a0))),(6,.ptr 6 0),(9,.row 1009),(11,.d (zT eI t26)),(21,.d (zT (eL eI) t21)),(22,.d (di (t21.length:Int))),(23,.d (di v23))],[(6,.box 49 [.d (di t15.Strength),.d (di t15.Variable),.d (db t15.Backward),.d (db t15.Identical)]),(1009,.row 3 eI.size false (eI.all y2))]⟩ ?_ ?_
 refine z7 hy2 (fun hy2=>?_) (fun hy2=>?_)
 refine Q64 ?_
 refine q24 yI ?_
 have ⟨r1009_3,hr1009_3,hy2⟩:=bE hy2
 refine yR rfl (kW (en:=eI) (l:=r1009) (m:=[0]) (lq rfl) yI rfl rfl rfl hr1009_3 (by decide) (by decide) rfl rfl) ?_
 refine Q13 ?_
 cases hy2
 exact zH (wc)
 refine zM ?_
 cases hy2
 exact zH (wc)
 refine zSM ?_
 have ⟨r1009_4,hr1009_4,p1⟩:=bE p1
 refine yR rfl (kW (en:=eI) (l:=y2) (m:=t26) (lq rfl) yI rfl rfl rfl hr1009_4 (by decide) (by decide) rfl rfl) ?_
 refine Q13 ?_
 refine Q24 ?_
 cases p1
 exact wc
 refine zF ?_
 cases p1
 intro q;cases q
 exact zH (wc)
 refine Q31 ?_
 refine q51 yE6 ?_
 refine q28 O4 ?_
 refine Q42 ?_
 refine z7 h (fun h=>?_) (fun h=>?_)
 refine Q61 ?_
 cases h
 refine zB ?_
 exact zI rfl
 refine zM<|Q43 ?_
 refine q24 yI ?_
 have ⟨r1009_5,hr1009_5,h⟩:=bE h
 refine yR rfl (kW (en:=eI) (l:=y1) (m:=[0]) (lq rfl) yI rfl rfl rfl hr1009_5 (by decide) (by decide) rfl rfl) ?_
 refine Q13 ?_
 refine Q31 ?_
 refine q21 G28 ?_
 refine q0 ?_
 have ⟨t46,ht46,h⟩:=bE h
 refine q8 (zL6 ht46) ?_
 refine Q94 ?_
 have ⟨y6,hy6,h⟩:=bE h
 refine tl (.exit 2) ⟨[(9,.row 1009)],[(1009,.row 3 eI.size false (eI.all y6))]⟩ ?_ ?_
 refine zD (fun x=>⟨[(9,.row 1009),(46,.d (zT eI t46)),(47,.d (di (t46.length:Int))),(48,.d (di x.1))],[(1009,.row 3 eI.size false (eI.all x.2))]⟩) hy6 (wc) ?_
 rintro ⟨v48,r1009⟩ sy6 p6
 replace p6:zAK t46 v48 r1009=some sy6:=p6
 unfold zAK at p6
 refine Q22 ?_
 refine z7 p6 (fun p6=>?_) (fun p6=>?_)
 refine Q5 ?_
 have ⟨y7,hy7,p6⟩:=bE p6
 refine tl .normal ⟨[(9,.row 1009),(46,.d (zT eI t46)),(47,.d (di (t46.length:Int))),(48,.d (di v48))],[(1009,.row 3 eI.size false (eI.all y7))]⟩ ?_ ?_
 refine zVG ?_
 have ⟨t50,ht50,hy7⟩:=bE hy7
 refine q11 yI ht50 ?_
 refine q35 O3 ht50 ?_
 refine Q19 ?_
 refine q44 ?_
 have ⟨b54,hb54,hy7⟩:=bE hy7
 refine yG ((zC (lq rfl) rfl).bool (oi hb54)) ?_
 refine q13 (.d (di t50)) ?_
 refine q55 (.d (db (decide (t50≤1114111)))) ?_
 refine Q36 ?_
 refine z7 hy7 (fun hy7=>?_) (fun hy7=>?_)
 refine zSM ?_
 refine q2 ?_
 refine q24 yI ?_
 have ⟨r1009_8,hr1009_8,hy7⟩:=bE hy7
 refine yR rfl (kW (en:=eI) (l:=r1009) (m:=[wi (t50+1)]) (lq rfl) yI rfl rfl rfl hr1009_8 (by decide) (by decide) rfl rfl) ?_
 refine Q13 ?_
 cases hy7
 exact zH (wc)
 refine zM ?_
 cases hy7
 exact zH (wc)
 refine Q24 ?_
 cases p6
 exact wc
 refine zF ?_
 cases p6
 intro q;cases q
 exact zH (wc)
 refine Q61 ?_
 cases h
 refine zB ?_
 exact zI rfl
theorem zNL {a0 r} (h:zCP a0=some r):zG Tryz.prog 38 [(zT eI a0)] [(ds r)]:=by
 refine co Tryz.func38 ?_;intro _ _ _ _
 unfold zCP at h
 refine z5F ?_
 refine zP (uN (t:=3) 1003 5 e8.size (lq rfl) (lq rfl) rfl rfl) ?_
 refine Q4 ?_
 refine Q94 ?_
 have ⟨y1,hy1,h⟩:=bE h
 refine tl (.exit 0) ⟨[(3,.row 1003)],[(1003,.row 5 e8.size false (e8.all y1))]⟩ ?_ ?_
 refine zD (fun x=>⟨[(3,.row 1003),(7,.d (zT eI a0)),(8,.d (di (a0.length:Int))),(9,.d (di x.1))],[(1003,.row 5 e8.size false (e8.all x.2))]⟩) hy1 (wc) ?_
 rintro ⟨v9,r1003⟩ sy1 p1
 replace p1:zB7 a0 v9 r1003=some sy1:=p1
 unfold zB7 at p1
 refine Q22 ?_
 refine z7 p1 (fun p1=>?_) (fun p1=>?_)
 refine Q29 ?_
 have ⟨t11,ht11,p1⟩:=bE p1
 refine q11 yI ht11 ?_
 refine q35 O3 ht11 ?_
 refine Q19 ?_
 refine q49 Tryz.underlying3 Tryz.underlying124 ?_
 refine Q1 ?_
 refine zSM ?_
 refine q71 ?_
 refine q49 Tryz.underlying124 Tryz.underlying5 ?_
 refine q0 ?_
 refine q71 ?_
 refine q49 Tryz.underlying124 Tryz.underlying5 ?_
 refine q0 ?_
 refine q71 ?_
 refine q49 Tryz.underlying124 Tryz.underlying5 ?_
 refine q0 ?_
 refine q49 Tryz.underlying124 Tryz.underlying5 ?_
 refine q24 yFD ?_
 have ⟨r1003_2,hr1003_2,p1⟩:=bE p1
 refine yR rfl (kW (en:=e8) (l:=r1003) (m:=[(IntKind.u8.wrap) (((IntKind.u32.wrap) t11) / 2 ^ 24),(IntKind.u8.wrap) (((IntKind.u32.wrap) t11) / 2 ^ 16),(IntKind.u8.wrap) (((IntKind.u32.wrap) t11) / 2 ^ 8),(IntKind.u8.wrap) ((IntKind.u32.wrap) t11)]) (lq rfl) yFD rfl rfl rfl hr1003_2 (by decide) (by decide) rfl rfl) ?_
 refine Q13 ?_
 refine Q24 ?_
 cases p1
 exact wc
 refine zF ?_
 cases p1
 intro q;cases q
 exact zH (wc)
 refine Q43 ?_
 refine yG (yCL (lq rfl) Tryz.underlying123 Tryz.underlying9 Tryz.underlying5 rfl rfl) ?_
 refine Q1 ?_
 cases h
 refine zB ?_
 exact zI rfl
set_option maxHeartbeats 8000000 in
set_option maxRecDepth 40000 in
theorem zGO {r} (h:zBZ=some r):zG Tryz.prog 15 [] [(db r)]:=by
 refine co Tryz.func15 ?_;intro _ _ _ _
 unfold zBZ at h
 refine Q3 ?_
 refine Q0 ?_
 refine q48 B64 ?_
 refine q48 B64 ?_
 refine q24 S39 ?_
 refine Q19 ?_
 refine q48 B49 ?_
 have ⟨t10,ht10,h⟩:=bE h
 refine q8 (zGB ht10) ?_
 refine Q16 ?_
 have ⟨t13,ht13,h⟩:=bE h
 have ⟨t17,ht17,h⟩:=bE h
 refine tl .normal ⟨[(2,.d (zT (eL eI) t10)),(3,.ptr 3 0)],[(3,.box 32 [.d (zT eEntry (({Entries:=[({Codes:=[97],Elements:=t13}:Entry),({Codes:=[98],Elements:=t17}:Entry)],Groups:=[],Base:=100,Second:=32,Third:=2}:Collation).Entries)),.d (zT eGroup (({Entries:=[({Codes:=[97],Elements:=t13}:Entry),({Codes:=[98],Elements:=t17}:Entry)],Groups:=[],Base:=100,Second:=32,Third:=2}:Collation).Groups)),.d (di (({Entries:=[({Codes:=[97],Elements:=t13}:Entry),({Codes:=[98],Elements:=t17}:Entry)],Groups:=[],Base:=100,Second:=32,Third:=2}:Collation).Base)),.d (di (({Entries:=[({Codes:=[97],Elements:=t13}:Entry),({Codes:=[98],Elements:=t17}:Entry)],Groups:=[],Base:=100,Second:=32,Third:=2}:Collation).Second)),.d (di (({Entries:=[({Codes:=[97],Elements:=t13}:Entry),({Codes:=[98],Elements:=t17}:Entry)],Groups:=[],Base:=100,Second:=32,Third:=2}:Collation).Third))])]⟩ ?_ ?_
 refine zDY MX ?_
 refine xm 1 ?_
 refine zXA (en:=eElement) (i:=2) rfl (lq rfl) S39 rfl rfl ht13 rfl (by kernel_rfl) (by kernel_rfl) (by kernel_rfl) ?_
 refine xm 5 ?_
 refine zXB (en:=eElement) (i:=6) rfl (lq rfl) S39 rfl rfl ht17 rfl (by kernel_rfl) (by kernel_rfl) (by kernel_rfl) ?_
 refine xn [0,4,10] ?_
 refine zXO yI ?_ ?_
 refine jZ (bs:=eEntry.cells ({Codes:=[97],Elements:=t13}:Entry)) (i:=3) rfl (lq rfl) B41 rfl rfl (nlE (nlE nl0)) rfl (by kernel_rfl) (by kernel_rfl) (by kernel_rfl) ?_
 refine xn [4,10] ?_
 refine zXO yI ?_ ?_
 refine jZ (bs:=eEntry.cells ({Codes:=[98],Elements:=t17}:Entry)) (i:=7) rfl (lq rfl) B41 rfl rfl (nlE (nlE nl0)) rfl (by kernel_rfl) (by kernel_rfl) (by kernel_rfl) ?_
 refine xn [8,10] ?_
 refine zXO S29 ?_ ?_
 refine jZ (bs:=eCollation.cells ({Entries:=[({Codes:=[97],Elements:=t13}:Entry),({Codes:=[98],Elements:=t17}:Entry)],Groups:=[],Base:=100,Second:=32,Third:=2}:Collation)) (i:=9) rfl (lq rfl) B32 rfl rfl (nlE (nlN (nlE (nlE (nlE nl0))))) rfl (by kernel_rfl) (by kernel_rfl) (by kernel_rfl) ?_
 refine xn [10] ?_
 refine q36 ?_
 refine zVI ?_
 exact ae
 refine q36 ?_
 refine xn [8] ?_
 refine q83 S29 ?_
 refine jZ (bs:=eCollation.cells ({Entries:=[({Codes:=[97],Elements:=t13}:Entry),({Codes:=[98],Elements:=t17}:Entry)],Groups:=[],Base:=100,Second:=32,Third:=2}:Collation)) (i:=9) rfl (lq rfl) B32 rfl rfl (nlE (nlN (nlE (nlE (nlE nl0))))) rfl (by kernel_rfl) (by kernel_rfl) (by kernel_rfl) ?_
 refine zVI ?_
 exact ae
 refine q36 ?_
 refine xn [4] ?_
 refine q83 yI ?_
 refine jZ (bs:=eEntry.cells ({Codes:=[98],Elements:=t17}:Entry)) (i:=7) rfl (lq rfl) B41 rfl rfl (nlE (nlE nl0)) rfl (by kernel_rfl) (by kernel_rfl) (by kernel_rfl) ?_
 refine xn [8] ?_
 refine q83 S29 ?_
 refine jZ (bs:=eCollation.cells ({Entries:=[({Codes:=[97],Elements:=t13}:Entry),({Codes:=[98],Elements:=t17}:Entry)],Groups:=[],Base:=100,Second:=32,Third:=2}:Collation)) (i:=9) rfl (lq rfl) B32 rfl rfl (nlE (nlN (nlE (nlE (nlE nl0))))) rfl (by kernel_rfl) (by kernel_rfl) (by kernel_rfl) ?_
 refine zVI ?_
 exact ae
 refine zXO yI ?_ ?_
 refine jZ (bs:=eEntry.cells ({Codes:=[98],Elements:=t17}:Entry)) (i:=7) rfl (lq rfl) B41 rfl rfl (nlE (nlE nl0)) rfl (by kernel_rfl) (by kernel_rfl) (by kernel_rfl) ?_
 refine xn [0,10] ?_
 refine zXO yI ?_ ?_
 refine jZ (bs:=eEntry.cells ({Codes:=[97],Elements:=t13}:Entry)) (i:=3) rfl (lq rfl) B41 rfl rfl (nlE (nlE nl0)) rfl (by kernel_rfl) (by kernel_rfl) (by kernel_rfl) ?_
 refine xn [8,10] ?_
 refine zXO S29 ?_ ?_
 refine jZ (bs:=eCollation.cells ({Entries:=[({Codes:=[97],Elements:=t13}:Entry),({Codes:=[98],Elements:=t17}:Entry)],Groups:=[],Base:=100,Second:=32,Third:=2}:Collation)) (i:=9) rfl (lq rfl) B32 rfl rfl (nlE (nlN (nlE (nlE (nlE nl0))))) rfl (by kernel_rfl) (by kernel_rfl) (by kernel_rfl) ?_
 refine xn [10] ?_
 refine q36 ?_
 refine zVI ?_
 exact ae
 refine q36 ?_
 refine xn [8] ?_
 refine q83 S29 ?_
 refine jZ (bs:=eCollation.cells ({Entries:=[({Codes:=[97],Elements:=t13}:Entry),({Codes:=[98],Elements:=t17}:Entry)],Groups:=[],Base:=100,Second:=32,Third:=2}:Collation)) (i:=9) rfl (lq rfl) B32 rfl rfl (nlE (nlN (nlE (nlE (nlE nl0))))) rfl (by kernel_rfl) (by kernel_rfl) (by kernel_rfl) ?_
 refine zVI ?_
 exact ae
 refine q36 ?_
 refine xn [0] ?_
 refine q83 yI ?_
 refine jZ (bs:=eEntry.cells ({Codes:=[97],Elements:=t13}:Entry)) (i:=3) rfl (lq rfl) B41 rfl rfl (nlE (nlE nl0)) rfl (by kernel_rfl) (by kernel_rfl) (by kernel_rfl) ?_
 refine xn [8] ?_
 refine q83 S29 ?_
 refine jZ (bs:=eCollation.cells ({Entries:=[({Codes:=[97],Elements:=t13}:Entry),({Codes:=[98],Elements:=t17}:Entry)],Groups:=[],Base:=100,Second:=32,Third:=2}:Collation)) (i:=9) rfl (lq rfl) B32 rfl rfl (nlE (nlN (nlE (nlE (nlE nl0))))) rfl (by kernel_rfl) (by kernel_rfl) (by kernel_rfl) ?_
 refine zVI ?_
 exact ae
 refine q36 ?_
 refine xn [0,4] ?_
 refine zXO yI ?_ ?_
 refine jZ (bs:=eEntry.cells ({Codes:=[97],Elements:=t13}:Entry)) (i:=3) rfl (lq rfl) B41 rfl rfl (nlE (nlE nl0)) rfl (by kernel_rfl) (by kernel_rfl) (by kernel_rfl) ?_
 refine xn [4] ?_
 refine q83 yI ?_
 refine jZ (bs:=eEntry.cells ({Codes:=[98],Elements:=t17}:Entry)) (i:=7) rfl (lq rfl) B41 rfl rfl (nlE (nlE nl0)) rfl (by kernel_rfl) (by kernel_rfl) (by kernel_rfl) ?_
 refine xn [8] ?_
 refine q83 S29 ?_
 refine jZ (bs:=eCollation.cells ({Entries:=[({Codes:=[97],Elements:=t13}:Entry),({Codes:=[98],Elements:=t17}:Entry)],Groups:=[],Base:=100,Second:=32,Third:=2}:Collation)) (i:=9) rfl (lq rfl) B32 rfl rfl (nlE (nlN (nlE (nlE (nlE nl0))))) rfl (by kernel_rfl) (by kernel_rfl) (by kernel_rfl) ?_
 refine zVI ?_
 exact ae
 refine q83 yI ?_
 refine jZ (bs:=eEntry.cells ({Codes:=[98],Elements:=t17}:Entry)) (i:=7) rfl (lq rfl) B41 rfl rfl (nlE (nlE nl0)) rfl (by kernel_rfl) (by kernel_rfl) (by kernel_rfl) ?_
 refine xn [0] ?_
 refine q83 yI ?_
 refine jZ (bs:=eEntry.cells ({Codes:=[97],Elements:=t13}:Entry)) (i:=3) rfl (lq rfl) B41 rfl rfl (nlE (nlE nl0)) rfl (by kernel_rfl) (by kernel_rfl) (by kernel_rfl) ?_
 refine xn [8] ?_
 refine q83 S29 ?_
 refine jZ (bs:=eCollation.cells ({Entries:=[({Codes:=[97],Elements:=t13}:Entry),({Codes:=[98],Elements:=t17}:Entry)],Groups:=[],Base:=100,Second:=32,Third:=2}:Collation)) (i:=9) rfl (lq rfl) B32 rfl rfl (nlE (nlN (nlE (nlE (nlE nl0))))) rfl (by kernel_rfl) (by kernel_rfl) (by kernel_rfl) ?_
 refine zVI ?_
 exact ae
 refine zP (z0 (t:=3) (lq rfl) rfl rfl rfl) ?_
 refine Q0 ?_
 refine yG ((zC4 (lq rfl) B28 rfl rfl).nils (bs:=eNorm.cells ({Classes:=[],Decomp:=[],Excluded:=(({Ranges:=[]}):Set)}:Norm)) (nlN (nlN (nlN nl0)))) ?_
 refine q21 G32 ?_
 refine q48 B49 ?_
 refine q24 yI ?_
 have ⟨t25,ht25,h⟩:=bE h
 refine q8 (zGN ht25) ?_
 refine Q19 ?_
 refine q4 S78 ?_
 refine q39 ?_
 have ⟨b29,hb29,h⟩:=bE h
 refine yG ((zC (lq rfl) rfl).bool (oi hb29)) ?_
 refine q13 (.d (zT eI t25)) ?_
 refine sqt (.d (zT eI [16,17,0,32,32])) rfl (fun hb=>by subst hb;exact zQT (lq rfl) yI rfl rfl rfl rfl (by decide) rfl) ?_
 have ⟨t32,ht32,h⟩:=bE h
 refine sqt (.d (db t32)) rfl (fun hb=>by subst hb;exact zBH (lq rfl) rfl (zJV ht32)) ?_
 refine q14 ?_
 have ⟨b34,hb34,h⟩:=bE h
 refine yG ((zC (lq rfl) rfl).bool (oi hb34)) ?_
 refine sqt (.d (zT eI [258])) rfl (fun hb=>by subst hb;exact zQT (lq rfl) yI rfl rfl rfl rfl (by decide) rfl) ?_
 have ⟨t36,ht36,h⟩:=bE h
 refine sqt (.d (ds t36)) rfl (fun hb=>by subst hb;exact zBH (lq rfl) rfl (zNL ht36)) ?_
 refine sqt (.d (db (t36== [0,0,1,2]))) rfl (fun hb=>by subst hb;exact zJ3 (a:=t36) (b:=[0,0,1,2]) (lq rfl) rfl rfl) ?_
 refine q14 ?_
 have ⟨b39,hb39,h⟩:=bE h
 refine yG ((zC (lq rfl) rfl).bool (oi hb39)) ?_
 refine sqt (.d (eOptions.dv ({Strength:=0,Variable:=0,Backward:=false,Identical:=false}:Options))) rfl (fun hb=>by subst hb;exact zC4 (lq rfl) B49 rfl rfl) ?_
 have ⟨t41,ht41,h⟩:=bE h
 refine sqt (.d (di t41)) rfl (fun hb=>by subst hb;exact zBH (lq rfl) rfl (zEP (gT ht41))) ?_
 refine q79 (.d (db (decide (t41=1)))) ?_
 refine q14 ?_
 have ⟨b44,hb44,h⟩:=bE h
 refine yG ((zC (lq rfl) rfl).bool (oi hb44)) ?_
 refine sqt (.d (eOptions.dv ({Strength:=1,Variable:=0,Backward:=false,Identical:=false}:Options))) rfl (fun hb=>by subst hb;exact zC4 (lq rfl) B49 rfl rfl) ?_
 have ⟨t46,ht46,h⟩:=bE h
 refine sqt (.d (di t46)) rfl (fun hb=>by subst hb;exact zBH (lq rfl) rfl (zEP (gT ht46))) ?_
 refine q79 (.d (db (decide (t46=8)))) ?_
 refine Q41 ?_
 cases h
 refine zB ?_
 exact zI rfl
theorem zL8 {a0 a1 a2 a3 r} (h:wK a0 a1 a2 a3=some r):zG Tryz.prog 79 [(zT eMapping a0),(zT (eL eI) a1),(zT eI a2),(db a3)] [(zT eI r)]:=by
 refine co Tryz.func79 ?_;intro _ _ _ _
 unfold wK at h
 refine z5F ?_
 refine zP (uN (t:=9) 1009 3 eI.size (lq rfl) (lq rfl) rfl rfl) ?_
 refine Q32 ?_
 have ⟨y1,hy1,h⟩:=bE h
 refine tl (.exit 0) ⟨[(9,.row 1009)],[(1009,.row 3 eI.size false (eI.all y1))]⟩ ?_ ?_
 refine zD (fun x=>⟨[(0,.d (zT eMapping a0)),(1,.d (zT (eL eI) a1)),(2,.d (zT eI a2)),(3,.d (db a3)),(9,.row 1009),(10,.d (di x.1))],[(1009,.row 3 eI.size false (eI.all x.2))]⟩) hy1 (wc) ?_
 rintro ⟨v10,r1009⟩ sy1 p1
 replace p1:kY a2 a0 a3 a1 v10 r1009=some sy1:=p1
 unfold kY at p1
 refine Q12 ?_
 refine Q83 ?_
 refine z7 p1 (fun p1=>?_) (fun p1=>?_)
 refine Q5 ?_
 have ⟨y2,hy2,p1⟩:=bE p1
 refine tl .normal ⟨[(0,.d (zT eMapping a0)),(1,.d (zT (eL eI) a1)),(2,.d (zT eI a2)),(3,.d (db a3)),(9,.row 1009),(10,.d (di v10))],[(1009,.row 3 eI.size false (eI.all y2))]⟩ ?_ ?_
 refine Q75 ?_
 refine q0 ?_
 have ⟨t21,ht21,hy2⟩:=bE hy2
 refine q11 yI ht21 ?_
 refine q35 O3 ht21 ?_
 refine q0 ?_
 have ⟨t24,ht24,hy2⟩:=bE hy2
 refine q8 (zC8 ht24) ?_
 refine Q19 ?_
 refine Q99 ?_
 refine z7 hy2 (fun hy2=>?_) (fun hy2=>?_)
 refine Q63 ?_
 have ⟨t30,ht30,hy2⟩:=bE hy2
 refine q11 S78 ht30 ?_
 refine yFL O33 ht30 ?_
 have ⟨r1009_3,hr1009_3,hy2⟩:=bE hy2
 refine yR rfl (kW (en:=eI) (l:=r1009) (m:=t30) (lq rfl) yI rfl rfl rfl hr1009_3 (by decide) (by decide) rfl rfl) ?_
 refine Q13 ?_
 cases hy2
 exact zH (wc)
 refine Q63 ?_
 have ⟨t36,ht36,hy2⟩:=bE hy2
 refine q11 yI ht36 ?_
 refine q35 O3 ht36 ?_
 have ⟨t38,ht38,hy2⟩:=bE hy2
 refine q8 (zC9 ht38) ?_
 have ⟨r1009_4,hr1009_4,hy2⟩:=bE hy2
 refine yR rfl (kW (en:=eI) (l:=r1009) (m:=t38) (lq rfl) yI rfl rfl rfl hr1009_4 (by decide) (by decide) rfl rfl) ?_
 refine Q13 ?_
 cases hy2
 exact zH (wc)
 refine Q11 ?_
 cases p1
 exact wc
 refine zF ?_
 cases p1
 intro q;cases q
 exact zH (wc)
 refine Q61 ?_
 cases h
 refine zB ?_
 exact zI rfl
theorem zK9 {a0} {a1} {a2} {a3} {r:(List Int)} (h:wK a0 a1 a2 a3=some r):GC Tryz.prog 79 [.d (zT eMapping a0),.row 3001,.d (zT eI a2),.d (db a3)] [(3001,.row 33 (eL eI).size false ((eL eI).all a1))] [3001] [.d (zT eI r)] [(3001,.row 33 (eL eI).size false ((eL eI).all a1))]:=by
 refine zCE Tryz.func79 (by kernel_rfl) rfl (lq rfl) (lq rfl) fun w0 I0 hG0 p0=>?_
 unfold wK at h
 refine z5F ?_
 refine zP (uN (t:=9) 1009 3 eI.size (lq rfl) (lq rfl) rfl rfl) ?_
 refine Q32 ?_
 have ⟨y1,hy1,h⟩:=bE h
 refine tl (.exit 0) ⟨[(1,.row 3001),(9,.row 1009)],[(1009,.row 3 eI.size false (eI.all y1)),(3001,.row 33 (eL eI).size false ((eL eI).all a1))]⟩ ?_ ?_
 refine zD (fun x=>⟨[(0,.d (zT eMapping a0)),(1,.row 3001),(2,.d (zT eI a2)),(3,.d (db a3)),(9,.row 1009),(10,.d (di x.1))],[(1009,.row 3 eI.size false (eI.all x.2)),(3001,.row 33 (eL eI).size false ((eL eI).all a1))]⟩) hy1 (wc) ?_
 rintro ⟨v10,r1009⟩ sy1 p1
 replace p1:kY a2 a0 a3 a1 v10 r1009=some sy1:=p1
 unfold kY at p1
 refine Q12 ?_
 refine Q83 ?_
 refine z7 p1 (fun p1=>?_) (fun p1=>?_)
 refine Q5 ?_
 have ⟨y2,hy2,p1⟩:=bE p1
 refine tl .normal ⟨[(0,.d (zT eMapping a0)),(1,.row 3001),(2,.d (zT eI a2)),(3,.d (db a3)),(9,.row 1009),(10,.d (di v10))],[(1009,.row 3 eI.size false (eI.all y2)),(3001,.row 33 (eL eI).size false ((eL eI).all a1))]⟩ ?_ ?_
 refine Q75 ?_
 refine q0 ?_
 have ⟨t21,ht21,hy2⟩:=bE hy2
 refine q11 yI ht21 ?_
 refine q35 O3 ht21 ?_
 refine q0 ?_
 have ⟨t24,ht24,hy2⟩:=bE hy2
 refine q8 (zC8 ht24) ?_
 refine Q19 ?_
 refine Q99 ?_
 refine z7 hy2 (fun hy2=>?_) (fun hy2=>?_)
 refine Q64 ?_
 refine Q18 ?_
 have ⟨t30,ht30,hy2⟩:=bE hy2
 refine q80 S78 ht30 ?_
 refine yG (xA (en:=(eL eI)) (l:=a1) (i:=t24) (v:=t30) (off:=0) (lq rfl) O33 rfl rfl ht30 rfl) ?_
 have ⟨r1009_3,hr1009_3,hy2⟩:=bE hy2
 refine yR rfl (kW (en:=eI) (l:=r1009) (m:=t30) (lq rfl) yI rfl rfl rfl hr1009_3 (by decide) (by decide) rfl rfl) ?_
 refine Q13 ?_
 cases hy2
 exact zH (wc)
 refine Q63 ?_
 have ⟨t36,ht36,hy2⟩:=bE hy2
 refine q11 yI ht36 ?_
 refine q35 O3 ht36 ?_
 have ⟨t38,ht38,hy2⟩:=bE hy2
 refine q8 (zC9 ht38) ?_
 have ⟨r1009_4,hr1009_4,hy2⟩:=bE hy2
 refine yR rfl (kW (en:=eI) (l:=r1009) (m:=t38) (lq rfl) yI rfl rfl rfl hr1009_4 (by decide) (by decide) rfl rfl) ?_
 refine Q13 ?_
 cases hy2
 exact zH (wc)
 refine Q11 ?_
 cases p1
 exact wc
 refine zF ?_
 cases p1
 intro q;cases q
 exact zH (wc)
 refine Q61 ?_
 refine zP (zDK (t:=8) (lq rfl) rfl rfl) ?_
 cases h
 refine zB ?_
 exact ⟨⟨_,_,rfl,rfl,rfl⟩,⟨rfl,trivial⟩⟩
theorem zP8 {a0 a1 r} (h:zED a0 a1=some r):zG Tryz.prog 80 [(zT eMapping a0),(db a1)] [(zT (eL eI) r)]:=by
 refine co Tryz.func80 ?_;intro _ _ _ _
 unfold zED at h
 refine Q59 ?_
 refine q4 S23 ?_
 have ⟨r10,hr10,h⟩:=bE h
 refine yR rfl (z8D (en:=(eL eI)) (lq rfl) S78 rfl hr10 (by decide) rfl) ?_
 refine zG7 (zPT (id:=10) rfl (z1C (en:=(eL eI)) (zero:=[]) (nlN nl0) hr10)) ?_ (by simp)
 refine Q13 ?_
 refine Q32 ?_
 have ⟨y1,hy1,h⟩:=bE h
 refine tl (.exit 0) ⟨[(5,.row 10)],[(10,.row 33 (eL eI).size false ((eL eI).all y1))]⟩ ?_ ?_
 refine zD (fun x=>⟨[(0,.d (zT eMapping a0)),(1,.d (db a1)),(5,.row 10),(6,.d (di x.1))],[(10,.row 33 (eL eI).size false ((eL eI).all x.2))]⟩) hy1 (wc) ?_
 rintro ⟨v6,r10⟩ sy1 p1
 replace p1:vW a0 a1 v6 r10=some sy1:=p1
 unfold vW at p1
 refine Q60 ?_
 refine z7 p1 (fun p1=>?_) (fun p1=>?_)
 refine Q8 ?_
 refine Q14 ?_
 have ⟨y2,hy2,p1⟩:=bE p1
 refine tl (.exit 2) ⟨[(0,.d (zT eMapping a0)),(1,.d (db a1)),(5,.row 10),(6,.d (di v6))],[(10,.row 33 (eL eI).size false ((eL eI).all y2))]⟩ ?_ ?_
 refine zD (fun x=>⟨[(0,.d (zT eMapping a0)),(1,.d (db a1)),(5,.row 10),(6,.d (di v6)),(7,.d (di x.1))],[(10,.row 33 (eL eI).size false ((eL eI).all x.2))]⟩) hy2 (wc) ?_
 rintro ⟨v7,r10⟩ sy2 p2
 replace p2:vV a0 a1 v7 r10=some sy2:=p2
 unfold vV at p2
 refine Q60 ?_
 refine z7 p2 (fun p2=>?_) (fun p2=>?_)
 refine Q5 ?_
 have ⟨y3,hy3,p2⟩:=bE p2
 refine tl .normal ⟨[(0,.d (zT eMapping a0)),(1,.d (db a1)),(5,.row 10),(6,.d (di v6)),(7,.d (di v7))],[(10,.row 33 (eL eI).size false ((eL eI).all y3))]⟩ ?_ ?_
 refine Q80 ?_
 have ⟨b24,hb24,hy3⟩:=bE hy3
 refine yG ((zC (lq rfl) rfl).bool (oi hb24)) ?_
 refine q38 (.d (zT eMapping a0)) ?_
 refine q38 (.d (di v7)) ?_
 have ⟨t27,ht27,hy3⟩:=bE hy3
 refine sqf (.ip (eMapping.all a0) (v7.toNat*eMapping.size)) rfl (fun hb=>by subst hb;exact kV (en:=eMapping) (lq rfl) S23 rfl rfl ht27) ?_
 refine z4S (.ip (eMapping.all a0) (v7.toNat*eMapping.size+2)) zAW ?_
 refine sqf (.d (ds t27.Tag)) rfl (fun hb=>by subst hb;exact z9 (en:=eMapping) (l:=a0) (i:=v7) (v:=t27) (off:=2) (lq rfl) O9 rfl ht27 rfl) ?_
 refine sqf (.d (db (t27.Tag== []))) rfl (fun hb=>by subst hb;exact zJ3 (a:=t27.Tag) (b:=[]) (lq rfl) rfl rfl) ?_
 refine Q37 ?_
 refine z7 hy3 (fun hy3=>?_) (fun hy3=>?_)
 refine Q63 ?_
 refine Q34 ?_
 have ⟨t38,ht38,hy3⟩:=bE hy3
 refine q11 S23 ht38 ?_
 refine q46 zB0 ?_
 refine q84 O33 ht38 ?_
 refine q0 ?_
 have ⟨t42,ht42,hy3⟩:=bE hy3
 refine yR rfl (zC5 [(3001,10)] (zK9 ht42) (lq rfl) (by decide) ⟨rfl,rfl,rfl,rfl,trivial⟩ rfl rfl ⟨rfl,trivial⟩ rfl rfl rfl (fun _=>rfl) rfl) ?_
 have ⟨t43,ht43,hy3⟩:=bE hy3
 refine q80 S78 ht43 ?_
 have ⟨r10_4,hr10_4,hy3⟩:=bE hy3
 refine yR rfl (wP (en:=(eL eI)) (l:=r10) (i:=v7) (v:=t43) (off:=0) O33 rfl rfl rfl ht43 rfl (by decide) hr10_4 rfl rfl) ?_
 refine zJ ?_
 cases hy3
 exact zH (wc)
 refine zM ?_
 cases hy3
 exact zH (wc)
 refine Q11 ?_
 cases p2
 exact wc
 refine zF ?_
 cases p2
 intro q;cases q
 exact zH (wc)
 refine Q11 ?_
 cases p1
 exact wc
 refine zF ?_
 cases p1
 intro q;cases q
 exact zH (wc)
 refine Q61 ?_
 cases h
 refine zB ?_
 exact zI rfl
theorem zST {a0 a1 a2 r} (h:zFK a0 a1 a2=some r):zG Tryz.prog 41 [(eNorm.dv a0),(zT eI a1),(db a2)] [(zT eI r)]:=by
 refine co Tryz.func41 ?_;intro _ _ _ _
 unfold zFK at h
 refine Q40 ?_
 refine Q16 ?_
 refine yD MX rfl ?_
 refine q19 zMU ?_
 refine q33 O23 ?_
 refine q19 zMU ?_
 refine q33 O23 ?_
 refine q7 ?_
 have ⟨t12,ht12,h⟩:=bE h
 refine q22 (zP8 ht12) ?_
 refine Q27 ?_
 have ⟨t15,ht15,h⟩:=bE h
 refine q22 (zL8 ht15) ?_
 refine Q51 ?_
 cases h
 refine zB ?_
 exact zI rfl
theorem zSU {a0 a1 r} (h:zDQ a0 a1=some r):zG Tryz.prog 40 [(zT eSpan a0),(zT eI a1)] [(zT eI r)]:=by
 refine co Tryz.func40 ?_;intro _ _ _ _
 unfold zDQ at h
 refine z5F ?_
 refine zP (uN (t:=5) 1005 3 eI.size (lq rfl) (lq rfl) rfl rfl) ?_
 refine Q32 ?_
 have ⟨y1,hy1,h⟩:=bE h
 refine tl (.exit 0) ⟨[(5,.row 1005)],[(1005,.row 3 eI.size false (eI.all y1))]⟩ ?_ ?_
 refine zD (fun x=>⟨[(0,.d (zT eSpan a0)),(1,.d (zT eI a1)),(5,.row 1005),(6,.d (di x.1))],[(1005,.row 3 eI.size false (eI.all x.2))]⟩) hy1 (wc) ?_
 rintro ⟨v6,r1005⟩ sy1 p1
 replace p1:wB a1 a0 v6 r1005=some sy1:=p1
 unfold wB at p1
 refine Q12 ?_
 refine Q83 ?_
 refine z7 p1 (fun p1=>?_) (fun p1=>?_)
 refine Q29 ?_
 refine Q34 ?_
 have ⟨t18,ht18,p1⟩:=bE p1
 refine q11 yI ht18 ?_
 refine q35 O3 ht18 ?_
 refine q24 yI ?_
 have ⟨r1005_2,hr1005_2,p1⟩:=bE p1
 refine yR rfl (kW (en:=eI) (l:=r1005) (m:=[t18]) (lq rfl) yI rfl rfl rfl hr1005_2 (by decide) (by decide) rfl rfl) ?_
 refine Q13 ?_
 refine Q15 ?_
 refine q0 ?_
 have ⟨t25,ht25,p1⟩:=bE p1
 refine q11 yI ht25 ?_
 refine q35 O3 ht25 ?_
 have ⟨t27,ht27,p1⟩:=bE p1
 refine q8 (zGL ht27) ?_
 refine Q39 ?_
 refine q10 ?_
 refine z1L yI ?_
 refine Q73 ?_
 refine kA ?_
 have ⟨y3,hy3,p1⟩:=bE p1
 refine tl (.exit 2) ⟨[(0,.d (zT eSpan a0)),(1,.d (zT eI a1)),(5,.row 1005),(6,.d (di v6))],[(1005,.row 3 eI.size false (eI.all y3))]⟩ ?_ ?_
 refine zD (fun x=>⟨[(0,.d (zT eSpan a0)),(1,.d (zT eI a1)),(5,.row 1005),(6,.d (di v6)),(7,.d (di t27)),(8,.d (di x.1))],[(1005,.row 3 eI.size false (eI.all x.2))]⟩) hy3 (wc) ?_
 rintro ⟨v8,r1005⟩ sy3 p3
 replace p3:vD t27 a0 a1 v6 v8 r1005=some sy3:=p3
 unfold vD at p3
 refine Q4 ?_
 refine q37 ?_
 have ⟨b33,hb33,p3⟩:=bE p3
 refine yG ((zC (lq rfl) rfl).bool (oi hb33)) ?_
 refine q13 (.d (di t27)) ?_
 refine sqt (.d (db (decide (0 < t27)))) rfl (fun hb=>by subst hb;exact zOJ (lq rfl) rfl rfl) ?_
 refine q14 ?_
 have ⟨b37,hb37,p3⟩:=bE p3
 refine yG ((zC (lq rfl) rfl).bool (oi hb37)) ?_
 refine q13 (.d (zT eSpan a0)) ?_
 refine sqt (.row 1005) rfl (fun hb=>by subst hb;exact zFB (lq rfl) rfl) ?_
 refine q13 (.d (di v8)) ?_
 refine sqt (.d (di (wi (v8 - 1)))) rfl (fun hb=>by subst hb;exact zQ4 (lq rfl) rfl rfl) ?_
 have ⟨t42,ht42,p3⟩:=bE p3
 refine sqt (.ptr 1005 ((wi (v8 - 1)).toNat*eI.size)) rfl (fun hb=>by subst hb;exact zCG (en:=eI) (l:=r1005) (lq rfl) yI rfl rfl rfl ht42) ?_
 refine sqt (.d (di t42)) rfl (fun hb=>by subst hb;exact xA (en:=eI) (l:=r1005) (i:=(wi (v8 - 1))) (v:=t42) (off:=0) (lq rfl) O3 rfl rfl ht42 rfl) ?_
 have ⟨t44,ht44,p3⟩:=bE p3
 refine sqt (.d (di t44)) rfl (fun hb=>by subst hb;exact zBH (lq rfl) rfl (zGL ht44)) ?_
 refine q13 (.d (di t27)) ?_
 refine sqt (.d (db (decide (t27 < t44)))) rfl (fun hb=>by subst hb;exact zOJ (lq rfl) rfl rfl) ?_
 refine Q36 ?_
 refine z7 p3 (fun p3=>?_) (fun p3=>?_)
 refine Q29 ?_
 refine Q18 ?_
 refine Q18 ?_
 refine q31 ?_
 have ⟨t55,ht55,p3⟩:=bE p3
 refine q80 yI ht55 ?_
 refine yG (xA (en:=eI) (l:=r1005) (i:=(wi (v8 - 1))) (v:=t55) (off:=0) (lq rfl) O3 rfl rfl ht55 rfl) ?_
 have ⟨t57,ht57,p3⟩:=bE p3
 refine q80 yI ht57 ?_
 have ⟨r1005_4,hr1005_4,p3⟩:=bE p3
 refine yR rfl (wP (en:=eI) (l:=r1005) (i:=v8) (v:=t57) (off:=0) O3 rfl rfl rfl ht57 rfl (by decide) hr1005_4 rfl rfl) ?_
 refine zJ<|zSM ?_
 refine q31 ?_
 refine Q82 ?_
 have ⟨t63,ht63,p3⟩:=bE p3
 refine q11 yI ht63 ?_
 refine q35 O3 ht63 ?_
 have ⟨t65,ht65,p3⟩:=bE p3
 refine q80 yI ht65 ?_
 have ⟨r1005_5,hr1005_5,p3⟩:=bE p3
 refine yR rfl (wP (en:=eI) (l:=r1005_4) (i:=(wi (v8 - 1))) (v:=t65) (off:=0) O3 rfl rfl rfl ht65 rfl (by decide) hr1005_5 rfl rfl) ?_
 refine zJ<|Q7 ?_
 refine Q73 ?_
 cases p3
 exact wc
 refine zF ?_
 cases p3
 intro q;cases q
 exact zH (wc)
 refine Q11 ?_
 cases p1
 exact wc
 refine zF ?_
 cases p1
 intro q;cases q
 exact zH (wc)
 refine Q61 ?_
 cases h
 refine zB ?_
 exact zI rfl
theorem zSV {a0 a1 a2 r} (h:zFL a0 a1 a2=some r):zG Tryz.prog 16 [(eNorm.dv a0),(zT eI a1),(db a2)] [(zT eI r)]:=by
 refine co Tryz.func16 ?_;intro _ _ _ _
 unfold zFL at h
 refine Q40 ?_
 refine Q39 ?_
 refine q21 G28 ?_
 have ⟨t9,ht9,h⟩:=bE h
 refine q8 (zSS ht9) ?_
 refine yC0 ?_
 refine q16 G28 ?_
 refine zJ ?_
 refine zP (z0 (t:=7) (lq rfl) rfl rfl rfl) ?_
 refine kU ?_
 refine yD MX rfl ?_
 refine q19 zK0 ?_
 refine q33 O22 ?_
 refine q69 G28 ?_
 refine Q27 ?_
 have ⟨t15,ht15,h⟩:=bE h
 refine q22 (zST ht15) ?_
 have ⟨t16,ht16,h⟩:=bE h
 refine q22 (zSU ht16) ?_
 refine Q51 ?_
 cases h
 refine zB ?_
 exact zI rfl
set_option maxRecDepth 40000 in
theorem law44_SortkeyEquivalent_c {a0 a1 r} (h:wY a0 a1=some r):zG Tryz.prog 4 [(eUnicodetextlaw44_Data.dv a0),(zT eI a1)] [(db r)]:=by
 refine co Tryz.func4 ?_;intro _ _ _ _
 unfold wY at h
 refine Q0 ?_
 refine yG (zKT (size:=12) (lq rfl) rfl rfl) ?_
 refine Q53 ?_
 refine q21 G51 ?_
 have ⟨t7,ht7,h⟩:=bE h
 refine q8 (zP7 ht7) ?_
 refine q32 ?_
 have ⟨b9,hb9,h⟩:=bE h
 refine yG ((zC (lq rfl) rfl).bool (oi hb9)) ?_
 refine q38 (.d (zT eI a1)) ?_
 refine q64 (.d (di (a1.length:Int))) yI ?_
 refine q43 (.d (db (decide (12 < (a1.length:Int))))) ?_
 refine Q37 ?_
 refine z7 h (fun h=>?_) (fun h=>?_)
 refine Q0 ?_
 have ⟨t14,ht14,h⟩:=bE h
 refine q8 (zGO ht14) ?_
 refine Q1 ?_
 cases h
 refine zB ?_
 exact zI rfl
 refine Q50 ?_
 refine q5 zYZ ?_
 refine q96 G28 ?_
 refine q0 ?_
 have ⟨t18,ht18,h⟩:=bE h
 refine q8 (zSV ht18) ?_
 refine Q1 ?_
 refine Q4 ?_
 refine q4 yI ?_
 refine Q54 ?_
 refine z7 h (fun h=>?_) (fun h=>?_)
 refine Q0 ?_
 have ⟨t22,ht22,h⟩:=bE h
 refine q8 (zGO ht22) ?_
 refine Q1 ?_
 cases h
 refine zB ?_
 exact zI rfl
 refine Q5 ?_
 refine yD MX rfl ?_
 refine q19 zYZ ?_
 refine q61 G28 ?_
 refine q19 z4L ?_
 refine q61 G32 ?_
 refine q19 yA0 ?_
 refine q61 G49 ?_
 refine q7 ?_
 have ⟨t30,ht30,h⟩:=bE h
 refine q22 (zGN ht30) ?_
 refine q19 zYZ ?_
 refine q61 G28 ?_
 refine q19 z4L ?_
 refine q61 G32 ?_
 refine q19 yA0 ?_
 refine q61 G49 ?_
 refine q7 ?_
 have ⟨t38,ht38,h⟩:=bE h
 refine q22 (zGN ht38) ?_
 have ⟨t39,ht39,h⟩:=bE h
 refine q22 (zJV ht39) ?_
 have ⟨b40,hb40,h⟩:=bE h
 refine u6 ((zC (lq rfl) rfl).bool (oi hb40)) ?_
 have ⟨t41,ht41,h⟩:=bE h
 refine dat (.d (db t41)) rfl (fun hb=>by subst hb;exact zBH (lq rfl) rfl (zGO ht41)) ?_
 refine q87 ?_
 refine Q51 ?_
 cases h
 refine zB ?_
 exact zI rfl
end Go.Proofs.YtjcbhabmkcdcnaaGreatDoor.Walk


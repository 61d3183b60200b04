/- Each function of the program answers as its plain counterpart does, where that answers. Conditions: none. -/
import Derived.Test.YtjcbhabmkcdcnaaGreatDoorMir
import Derived.Test.YtjcbhabmkcdcnaaGreatDoorLa3
import Derived.Test.YtjcbhabmkcdcnaaGreatDoorProg
import Derived.Test.YtjcbhabmkcdcnaaGreatDoorWk1
set_option linter.unusedSimpArgs false
set_option linter.unusedVariables false
set_option linter.unnecessarySimpa false
namespace Go.Proofs.YtjcbhabmkcdcnaaGreatDoor.Walk
open Go.AV Go.M Go.RowKit Go.Proofs
theorem zEC:∀(n:Nat) {a0:Int} {a1:(List (Int×(List Int)))} {a2:Norm} {a3:Bool} {r:(List Int)×(List (Int×(List Int)))},kA n a0 a1 a2 a3=some r→GC Tryz.prog 61 [.d (di a0),.ptr 3001 0,.d (.pt (eNorm.cells a2)),.d (.pt [(db a3)]),.ptr 3004 0] [(3001,.box 94 [.row 3120]),(3004,.box 69 [.clo 61 [.ptr 3001 0,.d (.pt (eNorm.cells a2)),.d (.pt [(db a3)]),.ptr 3004 0]]),(3120,.map (wY kI (eL eI) a1))] [3001,3004,3120] [.d (zS eI r.1)] [(3001,.box 94 [.row 3120]),(3004,.box 69 [.clo 61 [.ptr 3001 0,.d (.pt (eNorm.cells a2)),.d (.pt [(db a3)]),.ptr 3004 0]]),(3120,.map (wY kI (eL eI) r.2))]:=by
 intro n
 induction n with
 | zero=>intro a0 a1 a2 a3 r h;cases h
 | succ n ih=>
 intro a0 a1 a2 a3 r h
 replace h:xS (kA n) a0 a1 a2 a3=some r:=h
 generalize kA n=rec at h ih
 refine zC7 Tryz.func61 (by kernel_rfl) rfl (lq rfl) (lq rfl) fun w0 I0 hG0 p0=>?_
 unfold xS at h
 refine Q3 ?_
 refine Q31 ?_
 refine q28 O94 ?_
 refine q0 ?_
 refine z9 (zT7 (kv:=kI) (ev:=(eL eI)) (mp:=a1) (k:=a0) (zero:=[]) (lq rfl) M94 K3 rfl rfl rfl (fun _ _=> .nil _ _ _)) ?_
 refine Q78 ?_
 refine z1L ?_
 refine zK ?_
 refine z1 h (fun h=>?_) (fun h=>?_)
 refine Q35 ?_
 cases h
 refine zB ?_
 exact ⟨⟨_,_,rfl,rfl,rfl⟩,⟨rfl,rfl,rfl,trivial⟩⟩
 refine Q50 ?_
 refine q21 G28 ?_
 refine q0 ?_
 refine q92 O4 ?_
 have ⟨t26,ht26,h⟩:=bE h
 refine q8 (zIN ht26) ?_
 refine Q78 ?_
 refine z1A ?_
 refine Q42 ?_
 refine z1 h (fun h=>?_) (fun h=>?_)
 refine Q2 ?_
 refine q24 yD ?_
 refine Q1 ?_
 cases h
 refine zB ?_
 exact ⟨⟨_,_,rfl,rfl,rfl⟩,⟨rfl,rfl,rfl,trivial⟩⟩
 refine Q58 ?_
 refine zO (xC (t:=11) 1011 3 eI.size (lq rfl) (lq rfl) rfl rfl) ?_
 refine Q4 ?_
 refine Q94 ?_
 have ⟨y1,hy1,h⟩:=bE h
 refine tl (.exit 0) ⟨[(0,.d (di a0)),(1,.ptr 3001 0),(4,.ptr 3004 0),(11,.row 1011)],[(1011,.row 3 eI.size false (eI.all y1.1)),(3001,.box 94 [.row 3120]),(3004,.box 69 [.clo 61 [.ptr 3001 0,.d (.pt (eNorm.cells a2)),.d (.pt [(db a3)]),.ptr 3004 0]]),(3120,.map (wY kI (eL eI) y1.2))]⟩ ?_ ?_
 refine zD (fun x=>⟨[(0,.d (di a0)),(1,.ptr 3001 0),(4,.ptr 3004 0),(11,.row 1011),(33,.d (zS eI t26.1)),(34,.d (di (t26.1.length:Int))),(35,.d (di x.1))],[(1011,.row 3 eI.size false (eI.all x.2.1)),(3001,.box 94 [.row 3120]),(3004,.box 69 [.clo 61 [.ptr 3001 0,.d (.pt (eNorm.cells a2)),.d (.pt [(db a3)]),.ptr 3004 0]]),(3120,.map (wY kI (eL eI) x.2.2))]⟩) hy1 (wc) ?_
 rintro ⟨v35,r1011,r3120⟩ sy1 p1
 replace p1:kV t26 rec a2 a3 v35 r1011 r3120=some sy1:=p1
 unfold kV at p1
 refine Q22 ?_
 refine z1 p1 (fun p1=>?_) (fun p1=>?_)
 refine Q29 ?_
 have ⟨t37,ht37,p1⟩:=bE p1
 refine q11 yD ht37 ?_
 refine q35 O3 ht37 ?_
 refine Q1 ?_
 refine Q64 ?_
 refine q28 O69 ?_
 refine q0 ?_
 have ⟨t42,ht42,p1⟩:=bE p1
 refine yF rfl (zYA [(3001,3001),(3004,3004),(3120,3120)] (ih ht42) (lq rfl) (by decide) rfl ⟨rfl,rfl,rfl,rfl,rfl,trivial⟩ rfl rfl ⟨rfl,rfl,rfl,trivial⟩ rfl rfl rfl rfl) ?_
 have ⟨r1011_2,hr1011_2,p1⟩:=bE p1
 refine yF rfl (yK (en:=eI) (l:=r1011) (m:=t42.1) (lq rfl) yD rfl rfl rfl hr1011_2 (by decide) (by decide) rfl rfl) ?_
 refine Q13 ?_
 refine Q24 ?_
 cases p1
 exact wc
 refine zF ?_
 cases p1
 intro q;cases q
 exact zH (wc)
 refine Q0 ?_
 refine q28 O94 ?_
 refine q0 ?_
 refine q10 ?_
 refine zHK (zCL (t:=47) (lq rfl) rfl rfl) ?_ (by simp)
 refine yCO M94 K3 ?_
 refine zK<|Q61 ?_
 refine zO (zCL (t:=6) (lq rfl) rfl rfl) ?_
 cases h
 refine zB ?_
 exact ⟨⟨_,_,rfl,rfl,rfl⟩,⟨rfl,rfl,rfl,trivial⟩⟩
theorem zFU {a0} {a1} {r:Unit} (h:zBR a0 a1=some r):GCA Tryz.prog 27 [.d (eNorm.dv a0),.d (db a1)] [] [] (.clo 61 [.ptr 5 0,.d (.pt (eNorm.cells a0)),.d (.pt [(db a1)]),.ptr 6 0]) [(5,.box 94 [.row 7]),(6,.box 69 [.clo 61 [.ptr 5 0,.d (.pt (eNorm.cells a0)),.d (.pt [(db a1)]),.ptr 6 0]]),(7,.map (wY kI (eL eI) []))]:=by
 refine z7N Tryz.func27 (by kernel_rfl) rfl (lq rfl) (lq rfl) rfl fun w0 I0 hG0 p0=>?_
 unfold zBR at h
 refine Q40 ?_
 refine q63 ?_
 refine Q39 ?_
 refine z8R ?_
 refine yF rfl (yP (zs:=[(.map none)]) (lq rfl) (by kernel_rfl) rfl rfl) ?_
 refine q93 O94 ?_
 refine Q52 ?_
 refine yF rfl (yP (zs:=[.nilFunc]) (lq rfl) (by kernel_rfl) rfl rfl) ?_
 refine Q52 ?_
 refine z9 (zOC (cs:=[.ptr 5 0,.d (.pt (eNorm.cells a0)),.d (.pt [(db a1)]),.ptr 6 0]) (lq rfl) ⟨_,_,rfl,rfl,⟨_,_,rfl,rfl,⟨_,_,rfl,rfl,⟨_,_,rfl,rfl,rfl⟩⟩⟩⟩) ?_
 refine yF rfl (zKQ O69 rfl rfl (lq rfl) rfl rfl rfl rfl) ?_
 refine Q52 ?_
 refine q28 O69 ?_
 refine z83 ?_
 refine zK ?_
 cases h
 refine zB ?_
 exact ⟨rfl,⟨rfl,rfl,rfl,trivial⟩⟩
theorem zRP {r} (h:zGA=some r):zG Tryz.prog 99 [] [(zS eRange r)]:=by
 refine co Tryz.func99 ?_;intro _ _ _ _
 unfold zGA at h
 refine Q3 ?_
 refine Q0 ?_
 refine q48 zYF ?_
 refine q48 zYF ?_
 refine q48 zYF ?_
 refine q48 zYF ?_
 refine q24 S24 ?_
 refine Q1 ?_
 cases h
 refine zB ?_
 exact zI rfl
theorem zL2 {a0 r} (h:zDY a0=some r):zG Tryz.prog 64 [(zS eSpan a0)] [(di r)]:=by
 refine co Tryz.func64 ?_;intro _ _ _ _
 unfold zDY at h
 refine Q74 ?_
 have ⟨y1,hy1,h⟩:=bE h
 refine zR y1 (.exit 0) (fun y1=>⟨[(0,.d (zS eSpan a0))],[]⟩) .ret (fun y1=>⟨[(2,.d (di y1))],[]⟩) ?_ ?_ ?_
 refine zD (fun x=>⟨[(0,.d (zS eSpan a0)),(3,.d (di x))],[]⟩) hy1 (wc) ?_
 rintro v3 sy1 p1
 replace p1:zBA a0 v3=some sy1:=p1
 unfold zBA at p1
 refine Q12 ?_
 refine q4 S22 ?_
 refine Q6 ?_
 refine z1 p1 (fun p1=>?_) (fun p1=>?_)
 refine Q65 ?_
 refine z3 MX rfl ?_
 refine Q27 ?_
 have ⟨t16,ht16,p1⟩:=bE p1
 refine q23 S22 ht16 ?_
 refine q52 zII ?_
 refine vO (zZ (en:=eSpan) (l:=a0) (i:=v3) (v:=t16) (off:=0) (lq rfl) O3 rfl ht16 rfl) ?_
 have ⟨t19,ht19,p1⟩:=bE p1
 refine q22 (wV ht19) ?_
 refine yCZ ?_
 have ⟨b21,hb21,p1⟩:=bE p1
 refine vO ((zC (lq rfl) rfl).bool (oi hb21)) ?_
 refine q50 (.d (zS eSpan a0)) ?_
 refine q50 (.d (di v3)) ?_
 have ⟨t24,ht24,p1⟩:=bE p1
 refine daf (.ip (eSpan.all a0) (v3.toNat*eSpan.size)) rfl (fun hb=>by subst hb;exact kN (en:=eSpan) (lq rfl) S22 rfl rfl ht24) ?_
 refine q82 (.ip (eSpan.all a0) (v3.toNat*eSpan.size+1)) zIJ ?_
 refine daf (.d (di t24.Hi)) rfl (fun hb=>by subst hb;exact zZ (en:=eSpan) (l:=a0) (i:=v3) (v:=t24) (off:=1) (lq rfl) O3 rfl ht24 rfl) ?_
 have ⟨t27,ht27,p1⟩:=bE p1
 refine daf (.d (db t27)) rfl (fun hb=>by subst hb;exact wD (lq rfl) rfl (wV ht27)) ?_
 refine daf (.d (db (!t27))) rfl (fun hb=>by subst hb;exact zTO (lq rfl) rfl) ?_
 refine q95 ?_
 have ⟨b30,hb30,p1⟩:=bE p1
 refine vO ((zC (lq rfl) rfl).bool (oi hb30)) ?_
 refine q50 (.d (zS eSpan a0)) ?_
 refine q50 (.d (di v3)) ?_
 have ⟨t33,ht33,p1⟩:=bE p1
 refine daf (.ip (eSpan.all a0) (v3.toNat*eSpan.size)) rfl (fun hb=>by subst hb;exact kN (en:=eSpan) (lq rfl) S22 rfl rfl ht33) ?_
 refine q82 (.ip (eSpan.all a0) (v3.toNat*eSpan.size+0)) zII ?_
 refine daf (.d (di t33.Lo)) rfl (fun hb=>by subst hb;exact zZ (en:=eSpan) (l:=a0) (i:=v3) (v:=t33) (off:=0) (lq rfl) O3 rfl ht33 rfl) ?_
 refine q50 (.d (zS eSpan a0)) ?_
 refine q50 (.d (di v3)) ?_
 have ⟨t38,ht38,p1⟩:=bE p1
 refine daf (.ip (eSpan.all a0) (v3.toNat*eSpan.size)) rfl (fun hb=>by subst hb;exact kN (en:=eSpan) (lq rfl) S22 rfl rfl ht38) ?_
 refine q82 (.ip (eSpan.all a0) (v3.toNat*eSpan.size+1)) zIJ ?_
 refine daf (.d (di t38.Hi)) rfl (fun hb=>by subst hb;exact zZ (en:=eSpan) (l:=a0) (i:=v3) (v:=t38) (off:=1) (lq rfl) O3 rfl ht38 rfl) ?_
 refine daf (.d (db (decide (t38.Hi < t33.Lo)))) rfl (fun hb=>by subst hb;exact zO3 (lq rfl) rfl rfl) ?_
 refine q95 ?_
 have ⟨b43,hb43,p1⟩:=bE p1
 refine vO ((zC (lq rfl) rfl).bool (oi hb43)) ?_
 refine q50 (.d (zS eSpan a0)) ?_
 refine q50 (.d (di v3)) ?_
 have ⟨t46,ht46,p1⟩:=bE p1
 refine daf (.ip (eSpan.all a0) (v3.toNat*eSpan.size)) rfl (fun hb=>by subst hb;exact kN (en:=eSpan) (lq rfl) S22 rfl rfl ht46) ?_
 refine q82 (.ip (eSpan.all a0) (v3.toNat*eSpan.size+2)) zJN ?_
 refine daf (.d (di t46.Value)) rfl (fun hb=>by subst hb;exact zZ (en:=eSpan) (l:=a0) (i:=v3) (v:=t46) (off:=2) (lq rfl) O3 rfl ht46 rfl) ?_
 refine daf (.d (db (decide (t46.Value < 1)))) rfl (fun hb=>by subst hb;exact zMW (lq rfl) rfl rfl) ?_
 refine q95 ?_
 have ⟨b51,hb51,p1⟩:=bE p1
 refine vO ((zC (lq rfl) rfl).bool (oi hb51)) ?_
 refine q50 (.d (zS eSpan a0)) ?_
 refine q50 (.d (di v3)) ?_
 have ⟨t54,ht54,p1⟩:=bE p1
 refine daf (.ip (eSpan.all a0) (v3.toNat*eSpan.size)) rfl (fun hb=>by subst hb;exact kN (en:=eSpan) (lq rfl) S22 rfl rfl ht54) ?_
 refine q82 (.ip (eSpan.all a0) (v3.toNat*eSpan.size+2)) zJN ?_
 refine daf (.d (di t54.Value)) rfl (fun hb=>by subst hb;exact zZ (en:=eSpan) (l:=a0) (i:=v3) (v:=t54) (off:=2) (lq rfl) O3 rfl ht54 rfl) ?_
 refine daf (.d (db (decide (254 < t54.Value)))) rfl (fun hb=>by subst hb;exact zO3 (lq rfl) rfl rfl) ?_
 refine q95 ?_
 refine xZ ?_
 refine z1 p1 (fun p1=>?_) (fun p1=>?_)
 refine Q17 ?_
 cases p1
 intro q;cases q
 exact ⟨rfl,wc⟩
 refine Q28 ?_
 cases p1
 exact wc
 refine zF ?_
 cases p1
 intro q;cases q
 exact ⟨rfl,wc⟩
 rintro y1 rfl
 replace h:=eL h
 refine Q32 ?_
 have ⟨y2,hy2,h⟩:=bE h
 refine zR y2 (.exit 2) (fun y2=>⟨[(0,.d (zS eSpan a0))],[]⟩) .ret (fun y2=>⟨[(2,.d (di y2))],[]⟩) ?_ ?_ ?_
 refine zD (fun x=>⟨[(0,.d (zS eSpan a0)),(4,.d (di x))],[]⟩) hy2 (wc) ?_
 rintro v4 sy2 p2
 replace p2:zBB a0 v4=some sy2:=p2
 unfold zBB at p2
 refine Q12 ?_
 refine q4 S22 ?_
 refine Q6 ?_
 refine z1 p2 (fun p2=>?_) (fun p2=>?_)
 refine Q65 ?_
 refine z3 MX rfl ?_
 refine Q27 ?_
 have ⟨t67,ht67,p2⟩:=bE p2
 refine q23 S22 ht67 ?_
 refine q52 zII ?_
 refine vO (zZ (en:=eSpan) (l:=a0) (i:=v4) (v:=t67) (off:=0) (lq rfl) O3 rfl ht67 rfl) ?_
 refine Q27 ?_
 refine zYQ ?_
 have ⟨t73,ht73,p2⟩:=bE p2
 refine q23 S22 ht73 ?_
 refine q52 zIJ ?_
 refine vO (zZ (en:=eSpan) (l:=a0) (i:=(wi (v4 - 1))) (v:=t73) (off:=1) (lq rfl) O3 rfl ht73 rfl) ?_
 refine vO (zID (lq rfl) rfl rfl) ?_
 have ⟨b77,hb77,p2⟩:=bE p2
 refine vO ((zC (lq rfl) rfl).bool (oi hb77)) ?_
 refine q50 (.d (zS eSpan a0)) ?_
 refine q50 (.d (di v4)) ?_
 have ⟨t80,ht80,p2⟩:=bE p2
 refine daf (.ip (eSpan.all a0) (v4.toNat*eSpan.size)) rfl (fun hb=>by subst hb;exact kN (en:=eSpan) (lq rfl) S22 rfl rfl ht80) ?_
 refine q82 (.ip (eSpan.all a0) (v4.toNat*eSpan.size+0)) zII ?_
 refine daf (.d (di t80.Lo)) rfl (fun hb=>by subst hb;exact zZ (en:=eSpan) (l:=a0) (i:=v4) (v:=t80) (off:=0) (lq rfl) O3 rfl ht80 rfl) ?_
 refine q50 (.d (zS eSpan a0)) ?_
 refine q50 (.d (di v4)) ?_
 refine daf (.d (di (wi (v4 - 1)))) rfl (fun hb=>by subst hb;exact zT5 (lq rfl) rfl rfl) ?_
 have ⟨t86,ht86,p2⟩:=bE p2
 refine daf (.ip (eSpan.all a0) ((wi (v4 - 1)).toNat*eSpan.size)) rfl (fun hb=>by subst hb;exact kN (en:=eSpan) (lq rfl) S22 rfl rfl ht86) ?_
 refine q82 (.ip (eSpan.all a0) ((wi (v4 - 1)).toNat*eSpan.size+1)) zIJ ?_
 refine daf (.d (di t86.Hi)) rfl (fun hb=>by subst hb;exact zZ (en:=eSpan) (l:=a0) (i:=(wi (v4 - 1))) (v:=t86) (off:=1) (lq rfl) O3 rfl ht86 rfl) ?_
 refine daf (.d (di (wi (t86.Hi+1)))) rfl (fun hb=>by subst hb;exact zT4 (lq rfl) rfl rfl) ?_
 refine daf (.d (db (decide (t80.Lo=(wi (t86.Hi+1)))))) rfl (fun hb=>by subst hb;exact zJL (lq rfl) rfl rfl) ?_
 have ⟨b91,hb91,p2⟩:=bE p2
 refine daf (.d (db b91)) rfl (fun hb=>by subst hb;exact (zC (lq rfl) rfl).bool (oi hb91)) ?_
 refine zDA (x:= .d (zS eSpan a0)) rfl rfl rfl (lq rfl) (lq rfl) rfl (fun hb=>by obtain ⟨hb,hb1⟩:=zQ hb;obtain rfl:=gF hb;obtain rfl:b91=true:=hb1;exact zC (lq rfl) rfl) ?_
 refine zDA (x:= .d (di v4)) rfl rfl rfl (lq rfl) (lq rfl) rfl (fun hb=>by obtain ⟨hb,hb1⟩:=zQ hb;obtain rfl:=gF hb;obtain rfl:b91=true:=hb1;exact zC (lq rfl) rfl) ?_
 have ⟨t94,ht94,p2⟩:=bE p2
 refine zDA (x:= .ip (eSpan.all a0) (v4.toNat*eSpan.size)) rfl rfl rfl (lq rfl) (lq rfl) rfl (fun hb=>by obtain ⟨hb,hb1⟩:=zQ hb;obtain rfl:=gF hb;obtain rfl:b91=true:=hb1;exact kN (en:=eSpan) (lq rfl) S22 rfl rfl ht94) ?_
 refine zDA (x:= .ip (eSpan.all a0) (v4.toNat*eSpan.size+2)) rfl rfl rfl (lq rfl) (lq rfl) rfl (fun hb=>by obtain ⟨hb,hb1⟩:=zQ hb;obtain rfl:=gF hb;obtain rfl:b91=true:=hb1;exact xD (lq rfl) zJN rfl) ?_
 refine zDA (x:= .d (di t94.Value)) rfl rfl rfl (lq rfl) (lq rfl) rfl (fun hb=>by obtain ⟨hb,hb1⟩:=zQ hb;obtain rfl:=gF hb;obtain rfl:b91=true:=hb1;exact zZ (en:=eSpan) (l:=a0) (i:=v4) (v:=t94) (off:=2) (lq rfl) O3 rfl ht94 rfl) ?_
 refine zDA (x:= .d (zS eSpan a0)) rfl rfl rfl (lq rfl) (lq rfl) rfl (fun hb=>by obtain ⟨hb,hb1⟩:=zQ hb;obtain rfl:=gF hb;obtain rfl:b91=true:=hb1;exact zC (lq rfl) rfl) ?_
 refine zDA (x:= .d (di v4)) rfl rfl rfl (lq rfl) (lq rfl) rfl (fun hb=>by obtain ⟨hb,hb1⟩:=zQ hb;obtain rfl:=gF hb;obtain rfl:b91=true:=hb1;exact zC (lq rfl) rfl) ?_
 refine zDA (x:= .d (di (wi (v4 - 1)))) rfl rfl rfl (lq rfl) (lq rfl) rfl (fun hb=>by obtain ⟨hb,hb1⟩:=zQ hb;obtain rfl:=gF hb;obtain rfl:b91=true:=hb1;exact zT5 (lq rfl) rfl rfl) ?_
 have ⟨t100,ht100,p2⟩:=bE p2
 refine zDA (x:= .ip (eSpan.all a0) ((wi (v4 - 1)).toNat*eSpan.size)) rfl rfl rfl (lq rfl) (lq rfl) rfl (fun hb=>by obtain ⟨hb,hb1⟩:=zQ hb;obtain rfl:=gF hb;obtain rfl:b91=true:=hb1;exact kN (en:=eSpan) (lq rfl) S22 rfl rfl ht100) ?_
 refine zDA (x:= .ip (eSpan.all a0) ((wi (v4 - 1)).toNat*eSpan.size+2)) rfl rfl rfl (lq rfl) (lq rfl) rfl (fun hb=>by obtain ⟨hb,hb1⟩:=zQ hb;obtain rfl:=gF hb;obtain rfl:b91=true:=hb1;exact xD (lq rfl) zJN rfl) ?_
 refine zDA (x:= .d (di t100.Value)) rfl rfl rfl (lq rfl) (lq rfl) rfl (fun hb=>by obtain ⟨hb,hb1⟩:=zQ hb;obtain rfl:=gF hb;obtain rfl:b91=true:=hb1;exact zZ (en:=eSpan) (l:=a0) (i:=(wi (v4 - 1))) (v:=t100) (off:=2) (lq rfl) O3 rfl ht100 rfl) ?_
 refine zDA (x:= .d (db (decide (t94.Value=t100.Value)))) rfl rfl rfl (lq rfl) (lq rfl) rfl (fun hb=>by obtain ⟨hb,hb1⟩:=zQ hb;obtain rfl:=gF hb;obtain rfl:b91=true:=hb1;exact zJL (lq rfl) rfl rfl) ?_
 refine daf (.d (db (b91&&(decide (t94.Value=t100.Value))))) rfl (fun hb=>by subst hb;exact zEN (lq rfl) rfl rfl) ?_
 refine q95 ?_
 refine xZ ?_
 refine z1 p2 (fun p2=>?_) (fun p2=>?_)
 refine Q17 ?_
 cases p2
 intro q;cases q
 exact ⟨rfl,wc⟩
 refine Q28 ?_
 cases p2
 exact wc
 refine zF ?_
 cases p2
 intro q;cases q
 exact ⟨rfl,wc⟩
 rintro y2 rfl
 replace h:=eL h
 refine Q0 ?_
 have ⟨t106,ht106,h⟩:=bE h
 refine q8 (zRP ht106) ?_
 refine Q96 ?_
 have ⟨y3,hy3,h⟩:=bE h
 refine zR y3 (.exit 4) (fun y3=>⟨[],[]⟩) .ret (fun y3=>⟨[(2,.d (di y3))],[]⟩) ?_ ?_ ?_
 refine zD (fun x=>⟨[(0,.d (zS eSpan a0)),(5,.d (zS eRange t106)),(6,.d (di x))],[]⟩) hy3 (wc) ?_
 rintro v6 sy3 p3
 replace p3:zBC a0 t106 v6=some sy3:=p3
 unfold zBC at p3
 refine Q12 ?_
 refine q4 S22 ?_
 refine Q6 ?_
 refine z1 p3 (fun p3=>?_) (fun p3=>?_)
 refine Q8 ?_
 refine Q14 ?_
 have ⟨y4,hy4,p3⟩:=bE p3
 refine zR y4 (.exit 6) (fun y4=>⟨[(0,.d (zS eSpan a0)),(5,.d (zS eRange t106)),(6,.d (di v6))],[]⟩) .ret (fun y4=>⟨[(2,.d (di y4))],[]⟩) ?_ ?_ ?_
 refine zD (fun x=>⟨[(0,.d (zS eSpan a0)),(5,.d (zS eRange t106)),(6,.d (di v6)),(7,.d (di x))],[]⟩) hy4 (wc) ?_
 rintro v7 sy4 p4
 replace p4:w8 t106 a0 v6 v7=some sy4:=p4
 unfold w8 at p4
 refine Q12 ?_
 refine q4 S24 ?_
 refine Q6 ?_
 refine z1 p4 (fun p4=>?_) (fun p4=>?_)
 refine Q65 ?_
 refine z3 MX rfl ?_
 refine Q27 ?_
 have ⟨t121,ht121,p4⟩:=bE p4
 refine q23 S22 ht121 ?_
 refine q52 zII ?_
 refine vO (zZ (en:=eSpan) (l:=a0) (i:=v6) (v:=t121) (off:=0) (lq rfl) O3 rfl ht121 rfl) ?_
 refine Q27 ?_
 have ⟨t126,ht126,p4⟩:=bE p4
 refine q23 S24 ht126 ?_
 refine q52 zEB ?_
 refine vO (zZ (en:=eRange) (l:=t106) (i:=v7) (v:=t126) (off:=1) (lq rfl) O3 rfl ht126 rfl) ?_
 refine vO (zID (lq rfl) rfl rfl) ?_
 have ⟨b130,hb130,p4⟩:=bE p4
 refine vO ((zC (lq rfl) rfl).bool (oi hb130)) ?_
 refine q59 (.d (zS eRange t106)) ?_
 refine q59 (.d (di v7)) ?_
 have ⟨t133,ht133,p4⟩:=bE p4
 refine dat (.ip (eRange.all t106) (v7.toNat*eRange.size)) rfl (fun hb=>by subst hb;exact kN (en:=eRange) (lq rfl) S24 rfl rfl ht133) ?_
 refine q99 (.ip (eRange.all t106) (v7.toNat*eRange.size+0)) zH4 ?_
 refine dat (.d (di t133.Lo)) rfl (fun hb=>by subst hb;exact zZ (en:=eRange) (l:=t106) (i:=v7) (v:=t133) (off:=0) (lq rfl) O3 rfl ht133 rfl) ?_
 refine q59 (.d (zS eSpan a0)) ?_
 refine q59 (.d (di v6)) ?_
 have ⟨t138,ht138,p4⟩:=bE p4
 refine dat (.ip (eSpan.all a0) (v6.toNat*eSpan.size)) rfl (fun hb=>by subst hb;exact kN (en:=eSpan) (lq rfl) S22 rfl rfl ht138) ?_
 refine q99 (.ip (eSpan.all a0) (v6.toNat*eSpan.size+1)) zIJ ?_
 refine dat (.d (di t138.Hi)) rfl (fun hb=>by subst hb;exact zZ (en:=eSpan) (l:=a0) (i:=v6) (v:=t138) (off:=1) (lq rfl) O3 rfl ht138 rfl) ?_
 refine dat (.d (db (decide (t133.Lo≤t138.Hi)))) rfl (fun hb=>by subst hb;exact zID (lq rfl) rfl rfl) ?_
 refine Q98 ?_
 refine z1 p4 (fun p4=>?_) (fun p4=>?_)
 refine Q17 ?_
 cases p4
 intro q;cases q
 exact ⟨rfl,wc⟩
 refine Q28 ?_
 cases p4
 exact wc
 refine zF ?_
 cases p4
 intro q;cases q
 exact ⟨rfl,wc⟩
 rintro y4 rfl
 replace p3:=eL p3
 refine Q11 ?_
 cases p3
 exact wc
 rintro y4 rfl
 replace p3:=eR p3
 cases p3
 intro q;cases q
 exact ⟨rfl,wc⟩
 refine zF ?_
 cases p3
 intro q;cases q
 exact ⟨rfl,wc⟩
 rintro y3 rfl
 replace h:=eL h
 refine Q3 ?_
 cases h
 refine zB ?_
 exact zI rfl
 rintro y3 rfl
 replace h:=eR h
 cases h
 exact zI rfl
 rintro y2 rfl
 replace h:=eR h
 cases h
 exact zI rfl
 rintro y1 rfl
 replace h:=eR h
 cases h
 exact zI rfl
theorem zSY {a0 r} (h:zFI a0=some r):zG Tryz.prog 125 [(eMapping.dv a0)] [(db r)]:=by
 refine co Tryz.func125 ?_;intro _ _ _ _
 unfold zFI at h
 refine Q40 ?_
 refine Q96 ?_
 have ⟨y1,hy1,h⟩:=bE h
 refine zR y1 (.exit 0) (fun y1=>⟨[(1,.d (.pt (eMapping.cells a0)))],[]⟩) .ret (fun y1=>⟨[(2,.d (db y1))],[]⟩) ?_ ?_ ?_
 refine zD (fun x=>⟨[(1,.d (.pt (eMapping.cells a0))),(3,.d (di x))],[]⟩) hy1 (wc) ?_
 rintro v3 sy1 p1
 replace p1:zBD a0 v3=some sy1:=p1
 unfold zBD at p1
 refine Q4 ?_
 refine q5 zCW ?_
 refine q6 O33 ?_
 refine Q83 ?_
 refine z1 p1 (fun p1=>?_) (fun p1=>?_)
 refine Q29 ?_
 refine q5 zCW ?_
 refine q6 O33 ?_
 refine q0 ?_
 have ⟨t14,ht14,p1⟩:=bE p1
 refine q11 yD ht14 ?_
 refine q35 O3 ht14 ?_
 have ⟨t16,ht16,p1⟩:=bE p1
 refine q8 (wV ht16) ?_
 refine Q42 ?_
 refine z1 p1 (fun p1=>?_) (fun p1=>?_)
 refine Q17 ?_
 cases p1
 intro q;cases q
 exact ⟨rfl,wc⟩
 refine Q28 ?_
 cases p1
 exact wc
 refine zF ?_
 cases p1
 intro q;cases q
 exact ⟨rfl,wc⟩
 rintro y1 rfl
 replace h:=eL h
 refine Q0 ?_
 refine zVU ?_
 have ⟨t20,ht20,h⟩:=bE h
 refine q8 (wV ht20) ?_
 refine Q1 ?_
 cases h
 refine zB ?_
 exact zI rfl
 rintro y1 rfl
 replace h:=eR h
 cases h
 exact zI rfl
theorem zSZ {a0 r} (h:zFJ a0=some r):zG Tryz.prog 126 [(zS eMapping a0)] [(db r)]:=by
 refine co Tryz.func126 ?_;intro _ _ _ _
 unfold zFJ at h
 refine Q74 ?_
 have ⟨y1,hy1,h⟩:=bE h
 refine zR y1 (.exit 0) (fun y1=>⟨[],[]⟩) .ret (fun y1=>⟨[(2,.d (db y1))],[]⟩) ?_ ?_ ?_
 refine zD (fun x=>⟨[(0,.d (zS eMapping a0)),(3,.d (di x))],[]⟩) hy1 (wc) ?_
 rintro v3 sy1 p1
 replace p1:zBE a0 v3=some sy1:=p1
 unfold zBE at p1
 refine Q60 ?_
 refine z1 p1 (fun p1=>?_) (fun p1=>?_)
 refine Q8 ?_
 refine Q14 ?_
 have ⟨y2,hy2,p1⟩:=bE p1
 refine zR y2 (.exit 2) (fun y2=>⟨[(0,.d (zS eMapping a0)),(3,.d (di v3))],[]⟩) .ret (fun y2=>⟨[(2,.d (db y2))],[]⟩) ?_ ?_ ?_
 refine zD (fun x=>⟨[(0,.d (zS eMapping a0)),(3,.d (di v3)),(4,.d (di x))],[]⟩) hy2 (wc) ?_
 rintro v4 sy2 p2
 replace p2:w9 v3 a0 v4=some sy2:=p2
 unfold w9 at p2
 refine Q72 ?_
 refine z1 p2 (fun p2=>?_) (fun p2=>?_)
 refine Q65 ?_
 refine z3 MX rfl ?_
 refine Q27 ?_
 have ⟨t18,ht18,p2⟩:=bE p2
 refine q23 S23 ht18 ?_
 refine q52 zEZ ?_
 refine z8Z O3 ht18 ?_
 refine Q27 ?_
 have ⟨t23,ht23,p2⟩:=bE p2
 refine q23 S23 ht23 ?_
 refine q52 zEZ ?_
 refine z8Z O3 ht23 ?_
 refine vO (zJL (lq rfl) rfl rfl) ?_
 have ⟨b27,hb27,p2⟩:=bE p2
 refine vO ((zC (lq rfl) rfl).bool (oi hb27)) ?_
 refine q59 (.d (zS eMapping a0)) ?_
 refine q59 (.d (di v3)) ?_
 have ⟨t30,ht30,p2⟩:=bE p2
 refine dat (.ip (eMapping.all a0) (v3.toNat*eMapping.size)) rfl (fun hb=>by subst hb;exact kN (en:=eMapping) (lq rfl) S23 rfl rfl ht30) ?_
 refine q99 (.ip (eMapping.all a0) (v3.toNat*eMapping.size+2)) zBO ?_
 refine dat (.d (ds t30.Tag)) rfl (fun hb=>by subst hb;exact zZ (en:=eMapping) (l:=a0) (i:=v3) (v:=t30) (off:=2) (lq rfl) O9 rfl ht30 rfl) ?_
 refine q59 (.d (zS eMapping a0)) ?_
 refine q59 (.d (di v4)) ?_
 have ⟨t35,ht35,p2⟩:=bE p2
 refine dat (.ip (eMapping.all a0) (v4.toNat*eMapping.size)) rfl (fun hb=>by subst hb;exact kN (en:=eMapping) (lq rfl) S23 rfl rfl ht35) ?_
 refine q99 (.ip (eMapping.all a0) (v4.toNat*eMapping.size+2)) zBO ?_
 refine dat (.d (ds t35.Tag)) rfl (fun hb=>by subst hb;exact zZ (en:=eMapping) (l:=a0) (i:=v4) (v:=t35) (off:=2) (lq rfl) O9 rfl ht35 rfl) ?_
 refine dat (.d (db (t30.Tag==t35.Tag))) rfl (fun hb=>by subst hb;exact zKK (a:=t30.Tag) (b:=t35.Tag) (lq rfl) rfl rfl) ?_
 refine Q98 ?_
 refine z1 p2 (fun p2=>?_) (fun p2=>?_)
 refine Q17 ?_
 cases p2
 intro q;cases q
 exact ⟨rfl,wc⟩
 refine Q28 ?_
 cases p2
 exact wc
 refine zF ?_
 cases p2
 intro q;cases q
 exact ⟨rfl,wc⟩
 rintro y2 rfl
 replace p1:=eL p1
 refine Q11 ?_
 cases p1
 exact wc
 rintro y2 rfl
 replace p1:=eR p1
 cases p1
 intro q;cases q
 exact ⟨rfl,wc⟩
 refine zF ?_
 cases p1
 intro q;cases q
 exact ⟨rfl,wc⟩
 rintro y1 rfl
 replace h:=eL h
 refine Q3 ?_
 cases h
 refine zB ?_
 exact zI rfl
 rintro y1 rfl
 replace h:=eR h
 cases h
 exact zI rfl
theorem zOJ {a0 r} (h:zCQ a0=some r):zG Tryz.prog 100 [(zS eMapping a0)] [(di r)]:=by
 refine co Tryz.func100 ?_;intro _ _ _ _
 unfold zCQ at h
 refine Q74 ?_
 have ⟨y1,hy1,h⟩:=bE h
 refine zR y1 (.exit 0) (fun y1=>⟨[(0,.d (zS eMapping a0))],[]⟩) .ret (fun y1=>⟨[(2,.d (di y1))],[]⟩) ?_ ?_ ?_
 refine zD (fun x=>⟨[(0,.d (zS eMapping a0)),(3,.d (di x))],[]⟩) hy1 (wc) ?_
 rintro v3 sy1 p1
 replace p1:vL a0 v3=some sy1:=p1
 unfold vL at p1
 refine Q60 ?_
 refine z1 p1 (fun p1=>?_) (fun p1=>?_)
 refine Q69 ?_
 have ⟨t14,ht14,p1⟩:=bE p1
 refine q11 S23 ht14 ?_
 refine q90 zKT ht14 ?_
 have ⟨t16,ht16,p1⟩:=bE p1
 refine q8 (zSY ht16) ?_
 refine Q42 ?_
 refine z1 p1 (fun p1=>?_) (fun p1=>?_)
 refine Q17 ?_
 cases p1
 intro q;cases q
 exact ⟨rfl,wc⟩
 refine Q28 ?_
 cases p1
 exact wc
 refine zF ?_
 cases p1
 intro q;cases q
 exact ⟨rfl,wc⟩
 rintro y1 rfl
 replace h:=eL h
 refine Q32 ?_
 have ⟨y2,hy2,h⟩:=bE h
 refine zR y2 (.exit 2) (fun y2=>⟨[(0,.d (zS eMapping a0))],[]⟩) .ret (fun y2=>⟨[(2,.d (di y2))],[]⟩) ?_ ?_ ?_
 refine zD (fun x=>⟨[(0,.d (zS eMapping a0)),(4,.d (di x))],[]⟩) hy2 (wc) ?_
 rintro v4 sy2 p2
 replace p2:vM a0 v4=some sy2:=p2
 unfold vM at p2
 refine Q60 ?_
 refine z1 p2 (fun p2=>?_) (fun p2=>?_)
 refine Q69 ?_
 have ⟨t26,ht26,p2⟩:=bE p2
 refine q11 S23 ht26 ?_
 refine q46 zCW ?_
 refine q84 O33 ht26 ?_
 refine q4 yD ?_
 refine Q54 ?_
 refine z1 p2 (fun p2=>?_) (fun p2=>?_)
 refine Q17 ?_
 cases p2
 intro q;cases q
 exact ⟨rfl,wc⟩
 refine Q28 ?_
 cases p2
 exact wc
 refine zF ?_
 cases p2
 intro q;cases q
 exact ⟨rfl,wc⟩
 rintro y2 rfl
 replace h:=eL h
 refine Q32 ?_
 have ⟨y3,hy3,h⟩:=bE h
 refine zR y3 (.exit 4) (fun y3=>⟨[(0,.d (zS eMapping a0))],[]⟩) .ret (fun y3=>⟨[(2,.d (di y3))],[]⟩) ?_ ?_ ?_
 refine zD (fun x=>⟨[(0,.d (zS eMapping a0)),(5,.d (di x))],[]⟩) hy3 (wc) ?_
 rintro v5 sy3 p3
 replace p3:vN a0 v5=some sy3:=p3
 unfold vN at p3
 refine Q60 ?_
 refine z1 p3 (fun p3=>?_) (fun p3=>?_)
 refine Q69 ?_
 have ⟨t39,ht39,p3⟩:=bE p3
 refine q11 S23 ht39 ?_
 refine q46 zBO ?_
 refine z9 (zZ (en:=eMapping) (l:=a0) (i:=v5) (v:=t39) (off:=2) (lq rfl) O9 rfl ht39 rfl) ?_
 refine z5E ?_
 have ⟨b43,hb43,p3⟩:=bE p3
 refine z9 ((zC (lq rfl) rfl).bool (oi hb43)) ?_
 refine q13 (.d (zS eMapping a0)) ?_
 refine q13 (.d (di v5)) ?_
 have ⟨t46,ht46,p3⟩:=bE p3
 refine sqt (.ip (eMapping.all a0) (v5.toNat*eMapping.size)) rfl (fun hb=>by subst hb;exact kN (en:=eMapping) (lq rfl) S23 rfl rfl ht46) ?_
 refine z5O (.ip (eMapping.all a0) (v5.toNat*eMapping.size+2)) zBO ?_
 refine sqt (.d (ds t46.Tag)) rfl (fun hb=>by subst hb;exact zZ (en:=eMapping) (l:=a0) (i:=v5) (v:=t46) (off:=2) (lq rfl) O9 rfl ht46 rfl) ?_
 have ⟨t49,ht49,p3⟩:=bE p3
 refine sqt (.d (db t49)) rfl (fun hb=>by subst hb;exact wD (lq rfl) rfl (zNG ht49)) ?_
 refine zYP (.d (db (!t49))) ?_
 refine Q36 ?_
 refine z1 p3 (fun p3=>?_) (fun p3=>?_)
 refine Q17 ?_
 cases p3
 intro q;cases q
 exact ⟨rfl,wc⟩
 refine Q28 ?_
 cases p3
 exact wc
 refine zF ?_
 cases p3
 intro q;cases q
 exact ⟨rfl,wc⟩
 rintro y3 rfl
 replace h:=eL h
 refine Q4 ?_
 have ⟨t53,ht53,h⟩:=bE h
 refine q8 (zSZ ht53) ?_
 refine zK ?_
 refine z1 h (fun h=>?_) (fun h=>?_)
 refine Q3 ?_
 cases h
 refine zB ?_
 exact zI rfl
 refine Q58 ?_
 cases h
 refine zB ?_
 exact zI rfl
 rintro y3 rfl
 replace h:=eR h
 cases h
 exact zI rfl
 rintro y2 rfl
 replace h:=eR h
 cases h
 exact zI rfl
 rintro y1 rfl
 replace h:=eR h
 cases h
 exact zI rfl
theorem zRQ {a0 a1 r} (h:zGB a0 a1=some r):zG Tryz.prog 101 [(eMapping.dv a0),(eMapping.dv a1)] [(db r)]:=by
 refine co Tryz.func101 ?_;intro _ _ _ _
 unfold zGB at h
 refine Q40 ?_
 refine q40 ?_
 refine Q39 ?_
 refine zVU ?_
 refine zVU ?_
 refine q3 ?_
 have ⟨b10,hb10,h⟩:=bE h
 refine z9 ((zC (lq rfl) rfl).bool (oi hb10)) ?_
 refine q25 (.ip (eMapping.cells a0) (0+0)) zEZ ?_
 refine q26 (.d (di a0.From)) O3 ?_
 refine q25 (.ip (eMapping.cells a1) (0+0)) zEZ ?_
 refine q26 (.d (di a1.From)) O3 ?_
 refine z5D (.d (db (decide (a0.From=a1.From)))) ?_
 have ⟨b16,hb16,h⟩:=bE h
 refine sqf (.d (db b16)) rfl (fun hb=>by subst hb;exact (zC (lq rfl) rfl).bool (oi hb16)) ?_
 refine jW (x:= .ip (eMapping.cells a0) (0+2)) rfl rfl rfl (lq rfl) (lq rfl) rfl (fun hb=>by obtain ⟨hb,hb1⟩:=zQ hb;obtain rfl:=gF hb;obtain rfl:b16=true:=hb1;exact wF (lq rfl) zBO rfl) ?_
 refine jW (x:= .d (ds a0.Tag)) rfl rfl rfl (lq rfl) (lq rfl) rfl (fun hb=>by obtain ⟨hb,hb1⟩:=zQ hb;obtain rfl:=gF hb;obtain rfl:b16=true:=hb1;exact xI (lq rfl) O9 rfl rfl) ?_
 refine jW (x:= .ip (eMapping.cells a1) (0+2)) rfl rfl rfl (lq rfl) (lq rfl) rfl (fun hb=>by obtain ⟨hb,hb1⟩:=zQ hb;obtain rfl:=gF hb;obtain rfl:b16=true:=hb1;exact wF (lq rfl) zBO rfl) ?_
 refine jW (x:= .d (ds a1.Tag)) rfl rfl rfl (lq rfl) (lq rfl) rfl (fun hb=>by obtain ⟨hb,hb1⟩:=zQ hb;obtain rfl:=gF hb;obtain rfl:b16=true:=hb1;exact xI (lq rfl) O9 rfl rfl) ?_
 refine jW (x:= .d (db (Op.bytesLess a0.Tag a1.Tag))) rfl rfl rfl (lq rfl) (lq rfl) rfl (fun hb=>by obtain ⟨hb,hb1⟩:=zQ hb;obtain rfl:=gF hb;obtain rfl:b16=true:=hb1;exact z7Q (a:=a0.Tag) (b:=a1.Tag) (lq rfl) rfl rfl) ?_
 refine q86 (.d (db (b16&&(Op.bytesLess a0.Tag a1.Tag)))) ?_
 refine q18 ?_
 refine Q1 ?_
 cases h
 refine zB ?_
 exact zI rfl
theorem zS0 {a0 r} (h:zFK a0=some r):zG Tryz.prog 65 [(zS eMapping a0)] [(di r)]:=by
 refine co Tryz.func65 ?_;intro _ _ _ _
 unfold zFK at h
 refine Q47 ?_
 have ⟨t6,ht6,h⟩:=bE h
 refine q8 (zOJ ht6) ?_
 refine Q62 ?_
 refine z1 h (fun h=>?_) (fun h=>?_)
 refine Q35 ?_
 cases h
 refine zB ?_
 exact zI rfl
 refine Q93 ?_
 have ⟨y1,hy1,h⟩:=bE h
 refine zR y1 (.exit 0) (fun y1=>⟨[],[]⟩) .ret (fun y1=>⟨[(2,.d (di y1))],[]⟩) ?_ ?_ ?_
 refine zD (fun x=>⟨[(0,.d (zS eMapping a0)),(4,.d (di x))],[]⟩) hy1 (wc) ?_
 rintro v4 sy1 p1
 replace p1:zBF a0 v4=some sy1:=p1
 unfold zBF at p1
 refine Q60 ?_
 refine z1 p1 (fun p1=>?_) (fun p1=>?_)
 refine Q65 ?_
 refine z3 MX rfl ?_
 refine Q27 ?_
 refine zYQ ?_
 have ⟨t19,ht19,p1⟩:=bE p1
 refine q23 S23 ht19 ?_
 refine yCV zKT ht19 ?_
 refine Q27 ?_
 have ⟨t23,ht23,p1⟩:=bE p1
 refine q23 S23 ht23 ?_
 refine yCV zKT ht23 ?_
 have ⟨t25,ht25,p1⟩:=bE p1
 refine q22 (zRQ ht25) ?_
 refine yCZ ?_
 refine xZ ?_
 refine z1 p1 (fun p1=>?_) (fun p1=>?_)
 refine Q17 ?_
 cases p1
 intro q;cases q
 exact ⟨rfl,wc⟩
 refine Q28 ?_
 cases p1
 exact wc
 refine zF ?_
 cases p1
 intro q;cases q
 exact ⟨rfl,wc⟩
 rintro y1 rfl
 replace h:=eL h
 refine Q3 ?_
 cases h
 refine zB ?_
 exact zI rfl
 rintro y1 rfl
 replace h:=eR h
 cases h
 exact zI rfl
theorem zH8 {a0 a1 r} (h:zCR a0 a1=some r):zG Tryz.prog 147 [(zS eI a0),(di a1)] [(zS eI r)]:=by
 refine co Tryz.func147 ?_;intro _ _ _ _
 unfold zCR at h
 refine z1C ?_
 refine zO (xC (t:=5) 1005 3 eI.size (lq rfl) (lq rfl) rfl rfl) ?_
 refine Q74 ?_
 have ⟨y1,hy1,h⟩:=bE h
 refine tl (.exit 0) ⟨[(1,.d (di a1)),(5,.row 1005),(6,.d (db y1.1))],[(1005,.row 3 eI.size false (eI.all y1.2))]⟩ ?_ ?_
 refine zD (fun x=>⟨[(0,.d (zS eI a0)),(1,.d (di a1)),(5,.row 1005),(6,.d (db x.1)),(7,.d (di x.2.1))],[(1005,.row 3 eI.size false (eI.all x.2.2))]⟩) hy1 (wc) ?_
 rintro ⟨v6,v7,r1005⟩ sy1 p1
 replace p1:jB a0 a1 v6 v7 r1005=some sy1:=p1
 unfold jB at p1
 refine Q12 ?_
 refine Q83 ?_
 refine z1 p1 (fun p1=>?_) (fun p1=>?_)
 refine Q8 ?_
 refine Q4 ?_
 refine q32 ?_
 have ⟨b16,hb16,p1⟩:=bE p1
 refine z9 ((zC (lq rfl) rfl).bool (oi hb16)) ?_
 refine q13 (.d (zS eI a0)) ?_
 refine q13 (.d (di v7)) ?_
 have ⟨t19,ht19,p1⟩:=bE p1
 refine sqt (.ip (eI.all a0) (v7.toNat*eI.size)) rfl (fun hb=>by subst hb;exact kN (en:=eI) (lq rfl) yD rfl rfl ht19) ?_
 refine sqt (.d (di t19)) rfl (fun hb=>by subst hb;exact zZ (en:=eI) (l:=a0) (i:=v7) (v:=t19) (off:=0) (lq rfl) O3 rfl ht19 rfl) ?_
 refine q13 (.d (di a1)) ?_
 refine sqt (.d (db (decide (a1≤t19)))) rfl (fun hb=>by subst hb;exact zKC (lq rfl) rfl rfl) ?_
 refine Q36 ?_
 have ⟨y2,hy2,p1⟩:=bE p1
 refine tl .normal ⟨[(0,.d (zS eI a0)),(1,.d (di a1)),(5,.row 1005),(6,.d (db y2.1)),(7,.d (di v7))],[(1005,.row 3 eI.size false (eI.all y2.2))]⟩ ?_ ?_
 refine z1 hy2 (fun hy2=>?_) (fun hy2=>?_)
 refine Q3 ?_
 refine Q15 ?_
 have ⟨t26,ht26,hy2⟩:=bE hy2
 refine q11 yD ht26 ?_
 refine q35 O3 ht26 ?_
 refine q0 ?_
 refine Q54 ?_
 refine z1 hy2 (fun hy2=>?_) (fun hy2=>?_)
 refine zVV ?_
 refine q24 yD ?_
 have ⟨r1005_3,hr1005_3,hy2⟩:=bE hy2
 refine yF rfl (yK (en:=eI) (l:=r1005) (m:=[a1]) (lq rfl) yD rfl rfl rfl hr1005_3 (by decide) (by decide) rfl rfl) ?_
 refine Q13 ?_
 cases hy2
 exact zH (wc)
 refine zL ?_
 cases hy2
 exact zH (wc)
 refine zL ?_
 cases hy2
 exact zH (wc)
 refine Q63 ?_
 have ⟨t37,ht37,p1⟩:=bE p1
 refine q11 yD ht37 ?_
 refine q35 O3 ht37 ?_
 refine q24 yD ?_
 have ⟨r1005_4,hr1005_4,p1⟩:=bE p1
 refine yF rfl (yK (en:=eI) (l:=y2.2) (m:=[t37]) (lq rfl) yD rfl rfl rfl hr1005_4 (by decide) (by decide) rfl rfl) ?_
 refine Q13 ?_
 refine Q11 ?_
 cases p1
 exact wc
 refine zF ?_
 cases p1
 intro q;cases q
 exact zH (wc)
 refine Q4 ?_
 refine Q42 ?_
 have ⟨y5,hy5,h⟩:=bE h
 refine tl .normal ⟨[(5,.row 1005)],[(1005,.row 3 eI.size false (eI.all y5))]⟩ ?_ ?_
 refine z1 hy5 (fun hy5=>?_) (fun hy5=>?_)
 refine zVV ?_
 refine q24 yD ?_
 have ⟨r1005_6,hr1005_6,hy5⟩:=bE hy5
 refine yF rfl (yK (en:=eI) (l:=y1.2) (m:=[a1]) (lq rfl) yD rfl rfl rfl hr1005_6 (by decide) (by decide) rfl rfl) ?_
 refine Q13 ?_
 cases hy5
 exact zH (wc)
 refine zL ?_
 cases hy5
 exact zH (wc)
 refine Q61 ?_
 cases h
 refine zB ?_
 exact zI rfl
theorem zNH {a0 a1 r} (h:zER a0 a1=some r):zG Tryz.prog 139 [(zS eI a0),(eSet.dv a1)] [(zS eI r)]:=by
 refine co Tryz.func139 ?_;intro _ _ _ _
 unfold zER at h
 refine Q91 ?_
 refine Q96 ?_
 have ⟨y1,hy1,h⟩:=bE h
 refine tl (.exit 0) ⟨[(0,.d (zS eI y1))],[]⟩ ?_ ?_
 refine zD (fun x=>⟨[(0,.d (zS eI x.1)),(3,.d (.pt (eSet.cells a1))),(5,.d (di x.2))],[]⟩) hy1 (wc) ?_
 rintro ⟨v0,v5⟩ sy1 p1
 replace p1:wR a1 v0 v5=some sy1:=p1
 unfold wR at p1
 refine Q4 ?_
 refine Q97 ?_
 refine Q6 ?_
 refine z1 p1 (fun p1=>?_) (fun p1=>?_)
 refine Q5 ?_
 have ⟨y2,hy2,p1⟩:=bE p1
 refine tl .normal ⟨[(0,.d (zS eI y2)),(3,.d (.pt (eSet.cells a1))),(5,.d (di v5))],[]⟩ ?_ ?_
 refine yY<|kF ?_
 refine z3 MX rfl ?_
 refine q19 zHS ?_
 refine q33 O24 ?_
 refine q7 ?_
 have ⟨t18,ht18,hy2⟩:=bE hy2
 refine q23 S24 ht18 ?_
 refine q52 zH4 ?_
 refine vO (zZ (en:=eRange) (l:=a1.Ranges) (i:=v5) (v:=t18) (off:=0) (lq rfl) O3 rfl ht18 rfl) ?_
 refine q19 zHS ?_
 refine q33 O24 ?_
 refine q7 ?_
 have ⟨t24,ht24,hy2⟩:=bE hy2
 refine q23 S24 ht24 ?_
 refine q52 zEB ?_
 refine vO (zZ (en:=eRange) (l:=a1.Ranges) (i:=v5) (v:=t24) (off:=1) (lq rfl) O3 rfl ht24 rfl) ?_
 refine z1N ?_
 refine Q4 ?_
 have ⟨t28,ht28,hy2⟩:=bE hy2
 refine q8 (wV ht28) ?_
 refine zK ?_
 have ⟨y3,hy3,hy2⟩:=bE hy2
 refine tl .normal ⟨[(0,.d (zS eI y3)),(3,.d (.pt (eSet.cells a1))),(5,.d (di v5)),(7,.d (di t24.Hi))],[]⟩ ?_ ?_
 refine z1 hy3 (fun hy3=>?_) (fun hy3=>?_)
 refine Q66 ?_
 have ⟨t31,ht31,hy3⟩:=bE hy3
 refine q8 (zH8 ht31) ?_
 refine Q1 ?_
 cases hy3
 exact zH (wc)
 refine zL ?_
 cases hy3
 exact zH (wc)
 refine Q2 ?_
 refine q44 ?_
 have ⟨b34,hb34,hy2⟩:=bE hy2
 refine z9 ((zC (lq rfl) rfl).bool (oi hb34)) ?_
 refine q13 (.d (di t24.Hi)) ?_
 refine q73 (.d (db (decide (t24.Hi < 1114111)))) ?_
 refine Q36 ?_
 refine z1 hy2 (fun hy2=>?_) (fun hy2=>?_)
 refine Q66 ?_
 refine q2 ?_
 have ⟨t41,ht41,hy2⟩:=bE hy2
 refine q8 (zH8 ht41) ?_
 refine Q1 ?_
 cases hy2
 exact zH (wc)
 refine zL ?_
 cases hy2
 exact zH (wc)
 refine Q11 ?_
 cases p1
 exact wc
 refine zF ?_
 cases p1
 intro q;cases q
 exact zH (wc)
 refine Q2 ?_
 have ⟨t43,ht43,h⟩:=bE h
 refine q8 (zH8 ht43) ?_
 refine Q1 ?_
 cases h
 refine zB ?_
 exact zI rfl
theorem zPF {a0 a1 r} (h:zES a0 a1=some r):zG Tryz.prog 141 [(eSet.dv a0),(di a1)] [(db r)]:=by
 refine co Tryz.func141 ?_;intro _ _ _ _
 unfold zES at h
 refine Q91 ?_
 refine Q96 ?_
 have ⟨y1,hy1,h⟩:=bE h
 refine zR y1 (.exit 0) (fun y1=>⟨[],[]⟩) .ret (fun y1=>⟨[(4,.d (db y1))],[]⟩) ?_ ?_ ?_
 refine zD (fun x=>⟨[(1,.d (di a1)),(2,.d (.pt (eSet.cells a0))),(5,.d (di x))],[]⟩) hy1 (wc) ?_
 rintro v5 sy1 p1
 replace p1:zC0 a0 a1 v5=some sy1:=p1
 unfold zC0 at p1
 refine Q4 ?_
 refine Q97 ?_
 refine Q6 ?_
 refine z1 p1 (fun p1=>?_) (fun p1=>?_)
 refine Q8 ?_
 refine Q2 ?_
 have ⟨t14,ht14,p1⟩:=bE p1
 refine q8 (wV ht14) ?_
 have ⟨b15,hb15,p1⟩:=bE p1
 refine z9 ((zC (lq rfl) rfl).bool (oi hb15)) ?_
 refine q54 (.ip (eSet.cells a0) (0+0)) zHS ?_
 refine q62 (.d (zS eRange a0.Ranges)) O24 ?_
 refine q13 (.d (di v5)) ?_
 have ⟨t19,ht19,p1⟩:=bE p1
 refine sqt (.ip (eRange.all a0.Ranges) (v5.toNat*eRange.size)) rfl (fun hb=>by subst hb;exact kN (en:=eRange) (lq rfl) S24 rfl rfl ht19) ?_
 refine z5O (.ip (eRange.all a0.Ranges) (v5.toNat*eRange.size+0)) zH4 ?_
 refine sqt (.d (di t19.Lo)) rfl (fun hb=>by subst hb;exact zZ (en:=eRange) (l:=a0.Ranges) (i:=v5) (v:=t19) (off:=0) (lq rfl) O3 rfl ht19 rfl) ?_
 refine q13 (.d (di a1)) ?_
 refine q55 (.d (db (decide (t19.Lo≤a1)))) ?_
 refine q14 ?_
 have ⟨b25,hb25,p1⟩:=bE p1
 refine z9 ((zC (lq rfl) rfl).bool (oi hb25)) ?_
 refine q13 (.d (di a1)) ?_
 refine q54 (.ip (eSet.cells a0) (0+0)) zHS ?_
 refine q62 (.d (zS eRange a0.Ranges)) O24 ?_
 refine q13 (.d (di v5)) ?_
 have ⟨t30,ht30,p1⟩:=bE p1
 refine sqt (.ip (eRange.all a0.Ranges) (v5.toNat*eRange.size)) rfl (fun hb=>by subst hb;exact kN (en:=eRange) (lq rfl) S24 rfl rfl ht30) ?_
 refine z5O (.ip (eRange.all a0.Ranges) (v5.toNat*eRange.size+1)) zEB ?_
 refine sqt (.d (di t30.Hi)) rfl (fun hb=>by subst hb;exact zZ (en:=eRange) (l:=a0.Ranges) (i:=v5) (v:=t30) (off:=1) (lq rfl) O3 rfl ht30 rfl) ?_
 refine q55 (.d (db (decide (a1≤t30.Hi)))) ?_
 refine Q36 ?_
 refine z1 p1 (fun p1=>?_) (fun p1=>?_)
 refine Q17 ?_
 cases p1
 intro q;cases q
 exact ⟨rfl,wc⟩
 refine Q28 ?_
 cases p1
 exact wc
 refine zF ?_
 cases p1
 intro q;cases q
 exact ⟨rfl,wc⟩
 rintro y1 rfl
 replace h:=eL h
 refine Q3 ?_
 cases h
 refine zB ?_
 exact zI rfl
 rintro y1 rfl
 replace h:=eR h
 cases h
 exact zI rfl
theorem zS1 {a0 a1 a2 r} (h:zHR a0 a1 a2=some r):zG Tryz.prog 140 [(di a0),(db a1),(db a2)] [(db r)]:=by
 refine co Tryz.func140 ?_;intro _ _ _ _
 unfold zHR at h
 refine Q47 ?_
 refine zK<|zYW ?_
 refine Q88 ?_
 refine z1 h (fun h=>?_) (fun h=>?_)
 refine Q2 ?_
 have ⟨b11,hb11,h⟩:=bE h
 refine z9 ((zC (lq rfl) rfl).bool (oi hb11)) ?_
 refine q38 (.d (db a2)) ?_
 refine q18 ?_
 refine Q1 ?_
 cases h
 refine zB ?_
 exact zI rfl
 refine Q0 ?_
 refine Q88 ?_
 refine z1 h (fun h=>?_) (fun h=>?_)
 refine Q2 ?_
 have ⟨b17,hb17,h⟩:=bE h
 refine z9 ((zC (lq rfl) rfl).bool (oi hb17)) ?_
 refine q13 (.d (db a2)) ?_
 refine Q41 ?_
 cases h
 refine zB ?_
 exact zI rfl
 refine zL<|Q2 ?_
 have ⟨b21,hb21,h⟩:=bE h
 refine z9 ((zC (lq rfl) rfl).bool (oi hb21)) ?_
 refine q13 (.d (db a2)) ?_
 refine zYP (.d (db (!a2))) ?_
 refine Q41 ?_
 cases h
 refine zB ?_
 exact zI rfl
theorem zPZ {a0 a1 a2 r} (h:zE8 a0 a1 a2=some r):zG Tryz.prog 127 [(eSet.dv a0),(eSet.dv a1),(di a2)] [(eSet.dv r)]:=by
 refine co Tryz.func127 ?_;intro _ _ _ _
 unfold zE8 at h
 refine Q91 ?_
 refine q63 ?_
 refine z5I ?_
 refine zK<|kF ?_
 refine z3 MX rfl ?_
 refine q69 G26 ?_
 have ⟨t14,ht14,h⟩:=bE h
 refine q22 (yBW (zNH ht14) (nlN (nlE nl0))) ?_
 refine q69 G26 ?_
 have ⟨t16,ht16,h⟩:=bE h
 refine q22 (zNH ht16) ?_
 refine Q51 ?_
 refine Q0 ?_
 refine z5I ?_
 refine zK ?_
 refine zO (zCY (bid:=8) (off:=0) 4160 143 eRange.size (lq rfl) (by decide) rfl rfl rfl) ?_
 refine Q74 ?_
 have ⟨y1,hy1,h⟩:=bE h
 refine tl (.exit 0) ⟨[(6,.ptr 6 0),(8,.ptr 8 0)],[(6,.box 26 [.d (.v (.slice none 0 0))]),(8,.box 26 [.row 4160]),(4160,.row 143 eRange.size false (eRange.all y1))]⟩ ?_ ?_
 refine zD (fun x=>⟨[(2,.d (di a2)),(3,.d (.pt (eSet.cells a0))),(4,.d (.pt (eSet.cells a1))),(6,.ptr 6 0),(7,.d (zS eI t16)),(8,.ptr 8 0),(9,.d (db x.1)),(10,.d (di x.2.1))],[(6,.box 26 [.d (.v (.slice none 0 0))]),(8,.box 26 [.row 4160]),(4160,.row 143 eRange.size false (eRange.all x.2.2))]⟩) hy1 (wc) ?_
 rintro ⟨v9,v10,r4160⟩ sy1 p1
 replace p1:kY t16 a0 a1 a2 v9 v10 r4160=some sy1:=p1
 unfold kY at p1
 refine Q12 ?_
 refine Q83 ?_
 refine z1 p1 (fun p1=>?_) (fun p1=>?_)
 refine Q8 ?_
 refine Q47 ?_
 refine q2 ?_
 refine q0 ?_
 refine Q83 ?_
 have ⟨y2,hy2,p1⟩:=bE p1
 refine tl .normal ⟨[(2,.d (di a2)),(3,.d (.pt (eSet.cells a0))),(4,.d (.pt (eSet.cells a1))),(6,.ptr 6 0),(7,.d (zS eI t16)),(8,.ptr 8 0),(9,.d (db v9)),(10,.d (di v10)),(11,.d (di y2))],[(6,.box 26 [.d (.v (.slice none 0 0))]),(8,.box 26 [.row 4160]),(4160,.row 143 eRange.size false (eRange.all r4160))]⟩ ?_ ?_
 refine z1 hy2 (fun hy2=>?_) (fun hy2=>?_)
 refine Q66 ?_
 refine q2 ?_
 have ⟨t31,ht31,hy2⟩:=bE hy2
 refine q11 yD ht31 ?_
 refine q35 O3 ht31 ?_
 refine Q73 ?_
 cases hy2
 exact zH (wc)
 refine zL ?_
 cases hy2
 exact zH (wc)
 refine kF ?_
 refine z3 MX rfl ?_
 refine q7 ?_
 refine q69 G26 ?_
 refine Q27 ?_
 have ⟨t38,ht38,p1⟩:=bE p1
 refine q23 yD ht38 ?_
 refine q67 O3 ht38 ?_
 have ⟨t40,ht40,p1⟩:=bE p1
 refine q22 (zPF ht40) ?_
 refine q69 G26 ?_
 refine Q27 ?_
 have ⟨t44,ht44,p1⟩:=bE p1
 refine q23 yD ht44 ?_
 refine q67 O3 ht44 ?_
 have ⟨t46,ht46,p1⟩:=bE p1
 refine q22 (zPF ht46) ?_
 have ⟨t47,ht47,p1⟩:=bE p1
 refine q22 (zS1 ht47) ?_
 refine Q51 ?_
 refine Q4 ?_
 have ⟨b49,hb49,p1⟩:=bE p1
 refine z9 ((zC (lq rfl) rfl).bool (oi hb49)) ?_
 refine q13 (.d (db v9)) ?_
 refine Q36 ?_
 have ⟨y3,hy3,p1⟩:=bE p1
 refine tl .normal ⟨[(2,.d (di a2)),(3,.d (.pt (eSet.cells a0))),(4,.d (.pt (eSet.cells a1))),(6,.ptr 6 0),(7,.d (zS eI t16)),(8,.ptr 8 0),(9,.d (db v9)),(10,.d (di v10)),(11,.d (di y2)),(12,.d (db t47))],[(6,.box 26 [.d (.v (.slice none 0 0))]),(8,.box 26 [.row 4160]),(4160,.row 143 eRange.size false (eRange.all y3))]⟩ ?_ ?_
 refine z1 hy3 (fun hy3=>?_) (fun hy3=>?_)
 refine xG<|q51 zHS ?_
 refine q28 O24 ?_
 refine q51 zHS ?_
 refine q28 O24 ?_
 refine z5H S24 ?_
 refine q31 ?_
 refine q0 ?_
 have ⟨t59,ht59,hy3⟩:=bE hy3
 refine q80 S24 ht59 ?_
 refine q51 zEB ?_
 have ⟨r4160_4,hr4160_4,hy3⟩:=bE hy3
 refine yF rfl (vF (en:=eRange) (l:=r4160) (i:=(wi ((r4160.length:Int) - 1))) (v:=t59) (off:=1) O3 rfl rfl rfl ht59 rfl (by decide) hr4160_4 rfl rfl) ?_
 refine zK ?_
 cases hy3
 exact zH (wc)
 refine zL ?_
 cases hy3
 exact zH (wc)
 refine Q4 ?_
 have ⟨b62,hb62,p1⟩:=bE p1
 refine z9 ((zC (lq rfl) rfl).bool (oi hb62)) ?_
 refine q13 (.d (db v9)) ?_
 refine zYP (.d (db (!v9))) ?_
 refine Q36 ?_
 have ⟨y5,hy5,p1⟩:=bE p1
 refine tl .normal ⟨[(2,.d (di a2)),(3,.d (.pt (eSet.cells a0))),(4,.d (.pt (eSet.cells a1))),(6,.ptr 6 0),(7,.d (zS eI t16)),(8,.ptr 8 0),(10,.d (di v10)),(12,.d (db t47))],[(6,.box 26 [.d (.v (.slice none 0 0))]),(8,.box 26 [.row 4160]),(4160,.row 143 eRange.size false (eRange.all y5))]⟩ ?_ ?_
 refine z1 hy5 (fun hy5=>?_) (fun hy5=>?_)
 refine zFE 9 MX rfl ?_
 refine zYO zHS ?_
 refine yCR O24 ?_
 refine Q27 ?_
 have ⟨t70,ht70,hy5⟩:=bE hy5
 refine q23 yD ht70 ?_
 refine q67 O3 ht70 ?_
 refine q7 ?_
 refine vO (zDR (lq rfl) zYF rfl rfl) ?_
 refine yCU S24 ?_
 refine xZ ?_
 have ⟨r4160_6,hr4160_6,hy5⟩:=bE hy5
 refine yF rfl (yK (en:=eRange) (l:=y3) (m:=[({Lo:=t70,Hi:=y2}:Range)]) (lq rfl) S24 rfl rfl rfl hr4160_6 (by decide) (by decide) rfl rfl) ?_
 refine q51 zHS ?_
 refine q93 O24 ?_
 refine zK ?_
 cases hy5
 exact zH (wc)
 refine zL ?_
 cases hy5
 exact zH (wc)
 refine Q81 ?_
 refine Q11 ?_
 cases p1
 exact wc
 refine zF ?_
 cases p1
 intro q;cases q
 exact zH (wc)
 refine kF ?_
 refine zO (zD3 (bid:=8) (off:=0) rfl rfl rfl) ?_
 refine xG ?_
 refine z9 ((kM (lq rfl) G26 rfl rfl rfl rfl).data rfl) ?_
 refine q16 G26 ?_
 refine zK ?_
 cases h
 refine zB ?_
 exact xJ rfl rfl G26 rfl
theorem zVX {a0 r} (h:zGV a0=some r):zG Tryz.prog 103 [(zS eRange a0)] [(eSet.dv r)]:=by
 refine co Tryz.func103 ?_;intro _ _ _ _
 unfold zGV at h
 refine Q0 ?_
 refine z5I ?_
 refine zK<|Q2 ?_
 refine q48 B26 ?_
 refine z9 ((zDR (lq rfl) B26 rfl rfl).nils (bs:=eSet.cells ({Ranges:=[]}:Set)) (nlN nl0)) ?_
 have ⟨t6,ht6,h⟩:=bE h
 refine q8 (zPZ ht6) ?_
 refine q16 G26 ?_
 refine zK ?_
 cases h
 refine zB ?_
 exact xJ rfl rfl G26 rfl
theorem zVY {a0 a1 r} (h:zGW a0 a1=some r):zG Tryz.prog 102 [(eSet.dv a0),(eSet.dv a1)] [(db r)]:=by
 refine co Tryz.func102 ?_;intro _ _ _ _
 unfold zGW at h
 refine Q91 ?_
 refine q63 ?_
 refine Q53 ?_
 refine Q97 ?_
 refine Q97 ?_
 refine Q33 ?_
 refine z1 h (fun h=>?_) (fun h=>?_)
 refine Q3 ?_
 cases h
 refine zB ?_
 exact zI rfl
 refine Q93 ?_
 have ⟨y1,hy1,h⟩:=bE h
 refine zR y1 (.exit 0) (fun y1=>⟨[],[]⟩) .ret (fun y1=>⟨[(4,.d (db y1))],[]⟩) ?_ ?_ ?_
 refine zD (fun x=>⟨[(2,.d (.pt (eSet.cells a0))),(3,.d (.pt (eSet.cells a1))),(5,.d (di x))],[]⟩) hy1 (wc) ?_
 rintro v5 sy1 p1
 replace p1:zB7 a0 a1 v5=some sy1:=p1
 unfold zB7 at p1
 refine Q4 ?_
 refine Q97 ?_
 refine Q6 ?_
 refine z1 p1 (fun p1=>?_) (fun p1=>?_)
 refine Q65 ?_
 refine z3 MX rfl ?_
 refine q19 zHS ?_
 refine q33 O24 ?_
 refine q7 ?_
 have ⟨t23,ht23,p1⟩:=bE p1
 refine q23 S24 ht23 ?_
 refine vO (wX (en:=eRange) (l:=a0.Ranges) (i:=v5) (v:=t23) (off:=0) (lq rfl) zB1 rfl ht23 rfl rfl (by decide)) ?_
 refine q19 zHS ?_
 refine q33 O24 ?_
 refine q7 ?_
 have ⟨t28,ht28,p1⟩:=bE p1
 refine q23 S24 ht28 ?_
 refine vO (wX (en:=eRange) (l:=a1.Ranges) (i:=v5) (v:=t28) (off:=0) (lq rfl) zB1 rfl ht28 rfl rfl (by decide)) ?_
 refine vO (zVC (en:=eRange) (a:=t23) (b:=t28) (lq rfl) yIM rfl rfl) ?_
 refine xZ ?_
 refine z1 p1 (fun p1=>?_) (fun p1=>?_)
 refine Q17 ?_
 cases p1
 intro q;cases q
 exact ⟨rfl,wc⟩
 refine Q28 ?_
 cases p1
 exact wc
 refine zF ?_
 cases p1
 intro q;cases q
 exact ⟨rfl,wc⟩
 rintro y1 rfl
 replace h:=eL h
 refine Q3 ?_
 cases h
 refine zB ?_
 exact zI rfl
 rintro y1 rfl
 replace h:=eR h
 cases h
 exact zI rfl
theorem zS2 {a0 r} (h:zFL a0=some r):zG Tryz.prog 66 [(eSet.dv a0)] [(db r)]:=by
 refine co Tryz.func66 ?_;intro _ _ _ _
 unfold zFL at h
 refine Q91 ?_
 refine Q16 ?_
 refine z3 MX rfl ?_
 refine q69 G26 ?_
 refine q19 zHS ?_
 refine q33 O24 ?_
 have ⟨t6,ht6,h⟩:=bE h
 refine q22 (zVX ht6) ?_
 have ⟨t7,ht7,h⟩:=bE h
 refine q22 (zVY ht7) ?_
 refine Q51 ?_
 cases h
 refine zB ?_
 exact zI rfl
theorem zED {a0 a1 a2 r} (h:zCS a0 a1 a2=some r):zG Tryz.prog 67 [(zS eMapping a0),(di a1),(db a2)] [(di r)]:=by
 refine co Tryz.func67 ?_;intro _ _ _ _
 unfold zCS at h
 refine Q74 ?_
 have ⟨y1,hy1,h⟩:=bE h
 refine zR y1 (.exit 0) (fun y1=>⟨[],[]⟩) .ret (fun y1=>⟨[(6,.d (di y1))],[]⟩) ?_ ?_ ?_
 refine zD (fun x=>⟨[(0,.d (zS eMapping a0)),(1,.d (di a1)),(2,.d (db a2)),(7,.d (di x))],[]⟩) hy1 (wc) ?_
 rintro v7 sy1 p1
 replace p1:zB8 a0 a1 a2 v7=some sy1:=p1
 unfold zB8 at p1
 refine Q60 ?_
 refine z1 p1 (fun p1=>?_) (fun p1=>?_)
 refine Q69 ?_
 have ⟨t16,ht16,p1⟩:=bE p1
 refine q11 S23 ht16 ?_
 refine q46 zEZ ?_
 refine z9 (zZ (en:=eMapping) (l:=a0) (i:=v7) (v:=t16) (off:=0) (lq rfl) O3 rfl ht16 rfl) ?_
 refine q0 ?_
 refine q39 ?_
 have ⟨b21,hb21,p1⟩:=bE p1
 refine z9 ((zC (lq rfl) rfl).bool (oi hb21)) ?_
 refine q13 (.d (db a2)) ?_
 have ⟨b23,hb23,p1⟩:=bE p1
 refine sqt (.d (db b23)) rfl (fun hb=>by subst hb;exact (zC (lq rfl) rfl).bool (oi hb23)) ?_
 refine jW (x:= .d (zS eMapping a0)) rfl rfl rfl (lq rfl) (lq rfl) rfl (fun hb=>by obtain ⟨hb,hb1⟩:=zQ hb;obtain rfl:b21=true:=hb;obtain rfl:=gF hb1;exact zC (lq rfl) rfl) ?_
 refine jW (x:= .d (di v7)) rfl rfl rfl (lq rfl) (lq rfl) rfl (fun hb=>by obtain ⟨hb,hb1⟩:=zQ hb;obtain rfl:b21=true:=hb;obtain rfl:=gF hb1;exact zC (lq rfl) rfl) ?_
 have ⟨t26,ht26,p1⟩:=bE p1
 refine jW (x:= .ip (eMapping.all a0) (v7.toNat*eMapping.size)) rfl rfl rfl (lq rfl) (lq rfl) rfl (fun hb=>by obtain ⟨hb,hb1⟩:=zQ hb;obtain rfl:b21=true:=hb;obtain rfl:=gF hb1;exact kN (en:=eMapping) (lq rfl) S23 rfl rfl ht26) ?_
 refine jW (x:= .ip (eMapping.all a0) (v7.toNat*eMapping.size+2)) rfl rfl rfl (lq rfl) (lq rfl) rfl (fun hb=>by obtain ⟨hb,hb1⟩:=zQ hb;obtain rfl:b21=true:=hb;obtain rfl:=gF hb1;exact xD (lq rfl) zBO rfl) ?_
 refine jW (x:= .d (ds t26.Tag)) rfl rfl rfl (lq rfl) (lq rfl) rfl (fun hb=>by obtain ⟨hb,hb1⟩:=zQ hb;obtain rfl:b21=true:=hb;obtain rfl:=gF hb1;exact zZ (en:=eMapping) (l:=a0) (i:=v7) (v:=t26) (off:=2) (lq rfl) O9 rfl ht26 rfl) ?_
 refine jW (x:= .d (db (t26.Tag== []))) rfl rfl rfl (lq rfl) (lq rfl) rfl (fun hb=>by obtain ⟨hb,hb1⟩:=zQ hb;obtain rfl:b21=true:=hb;obtain rfl:=gF hb1;exact zKK (a:=t26.Tag) (b:=[]) (lq rfl) rfl rfl) ?_
 refine yCP (.d (db (b23 ||(t26.Tag== [])))) ?_
 refine Q36 ?_
 refine z1 p1 (fun p1=>?_) (fun p1=>?_)
 refine Q35 ?_
 refine zB ?_
 cases p1
 intro q;cases q
 exact ⟨rfl,wc⟩
 refine Q28 ?_
 cases p1
 exact wc
 refine zF ?_
 cases p1
 intro q;cases q
 exact ⟨rfl,wc⟩
 rintro y1 rfl
 replace h:=eL h
 refine Q3 ?_
 cases h
 refine zB ?_
 exact zI rfl
 rintro y1 rfl
 replace h:=eR h
 cases h
 exact zI rfl
theorem zNI {a0 r} (h:zET a0=some r):zG Tryz.prog 68 [(di a0)] [(di r)]:=by
 refine co Tryz.func68 ?_;intro _ _ _ _
 unfold zET at h
 refine Q47 ?_
 refine q44 ?_
 have ⟨b5,hb5,h⟩:=bE h
 refine z9 ((zC (lq rfl) rfl).bool (oi hb5)) ?_
 refine q13 (.d (di a0)) ?_
 refine q55 (.d (db (decide (a0≤4370)))) ?_
 refine Q36 ?_
 refine z1 h (fun h=>?_) (fun h=>?_)
 refine Q3 ?_
 cases h
 refine zB ?_
 exact zI rfl
 refine Q95 ?_
 refine q44 ?_
 have ⟨b11,hb11,h⟩:=bE h
 refine z9 ((zC (lq rfl) rfl).bool (oi hb11)) ?_
 refine q13 (.d (di a0)) ?_
 refine q55 (.d (db (decide (a0≤4469)))) ?_
 refine Q36 ?_
 refine z1 h (fun h=>?_) (fun h=>?_)
 refine Q3 ?_
 cases h
 refine zB ?_
 exact zI rfl
 refine Q95 ?_
 refine q44 ?_
 have ⟨b17,hb17,h⟩:=bE h
 refine z9 ((zC (lq rfl) rfl).bool (oi hb17)) ?_
 refine q13 (.d (di a0)) ?_
 refine q55 (.d (db (decide (a0≤4546)))) ?_
 refine Q36 ?_
 refine z1 h (fun h=>?_) (fun h=>?_)
 refine Q3 ?_
 cases h
 refine zB ?_
 exact zI rfl
 refine Q95 ?_
 refine q44 ?_
 have ⟨b23,hb23,h⟩:=bE h
 refine z9 ((zC (lq rfl) rfl).bool (oi hb23)) ?_
 refine q13 (.d (di a0)) ?_
 refine q55 (.d (db (decide (a0≤55203)))) ?_
 refine Q36 ?_
 refine z1 h (fun h=>?_) (fun h=>?_)
 refine Q4 ?_
 refine q31 ?_
 have ⟨t29,ht29,h⟩:=bE h
 refine q91 ht29 ?_
 refine Q87 ?_
 refine z1 h (fun h=>?_) (fun h=>?_)
 refine Q3 ?_
 cases h
 refine zB ?_
 exact zI rfl
 refine Q58 ?_
 cases h
 refine zB ?_
 exact zI rfl
 refine Q58 ?_
 cases h
 refine zB ?_
 exact zI rfl
theorem zDP {a0 a1 r} (h:zAN a0 a1=some r):zG Tryz.prog 29 [(zS eSpan a0),(di a1)] [(di r)]:=by
 refine co Tryz.func29 ?_;intro _ _ _ _
 unfold zAN at h
 refine Q47 ?_
 have ⟨t7,ht7,h⟩:=bE h
 refine q8 (zL2 ht7) ?_
 refine Q33 ?_
 refine z1 h (fun h=>?_) (fun h=>?_)
 refine Q3 ?_
 cases h
 refine zB ?_
 exact zI rfl
 refine Q93 ?_
 have ⟨y1,hy1,h⟩:=bE h
 refine zR y1 (.exit 0) (fun y1=>⟨[],[]⟩) .ret (fun y1=>⟨[(4,.d (di y1))],[]⟩) ?_ ?_ ?_
 refine zD (fun x=>⟨[(0,.d (zS eSpan a0)),(1,.d (di a1)),(5,.d (di x))],[]⟩) hy1 (wc) ?_
 rintro v5 sy1 p1
 replace p1:xU a0 a1 v5=some sy1:=p1
 unfold xU at p1
 refine Q12 ?_
 refine q4 S22 ?_
 refine Q6 ?_
 refine z1 p1 (fun p1=>?_) (fun p1=>?_)
 refine Q69 ?_
 have ⟨t17,ht17,p1⟩:=bE p1
 refine q11 S22 ht17 ?_
 refine q46 zII ?_
 refine z9 (zZ (en:=eSpan) (l:=a0) (i:=v5) (v:=t17) (off:=0) (lq rfl) O3 rfl ht17 rfl) ?_
 refine q0 ?_
 refine q70 ?_
 have ⟨b22,hb22,p1⟩:=bE p1
 refine z9 ((zC (lq rfl) rfl).bool (oi hb22)) ?_
 refine q13 (.d (di a1)) ?_
 refine q13 (.d (zS eSpan a0)) ?_
 refine q13 (.d (di v5)) ?_
 have ⟨t26,ht26,p1⟩:=bE p1
 refine sqt (.ip (eSpan.all a0) (v5.toNat*eSpan.size)) rfl (fun hb=>by subst hb;exact kN (en:=eSpan) (lq rfl) S22 rfl rfl ht26) ?_
 refine z5O (.ip (eSpan.all a0) (v5.toNat*eSpan.size+1)) zIJ ?_
 refine sqt (.d (di t26.Hi)) rfl (fun hb=>by subst hb;exact zZ (en:=eSpan) (l:=a0) (i:=v5) (v:=t26) (off:=1) (lq rfl) O3 rfl ht26 rfl) ?_
 refine q55 (.d (db (decide (a1≤t26.Hi)))) ?_
 refine Q36 ?_
 refine z1 p1 (fun p1=>?_) (fun p1=>?_)
 refine Q15 ?_
 have ⟨t33,ht33,p1⟩:=bE p1
 refine q11 S22 ht33 ?_
 refine q46 zJN ?_
 refine z9 (zZ (en:=eSpan) (l:=a0) (i:=v5) (v:=t33) (off:=2) (lq rfl) O3 rfl ht33 rfl) ?_
 refine Q1 ?_
 refine zB ?_
 cases p1
 intro q;cases q
 exact ⟨rfl,wc⟩
 refine Q28 ?_
 cases p1
 exact wc
 refine zF ?_
 cases p1
 intro q;cases q
 exact ⟨rfl,wc⟩
 rintro y1 rfl
 replace h:=eL h
 refine Q3 ?_
 cases h
 refine zB ?_
 exact zI rfl
 rintro y1 rfl
 replace h:=eR h
 cases h
 exact zI rfl
theorem zVZ {a0 r} (h:zGX a0=some r):zG Tryz.prog 69 [(zS eMapping a0)] [(zS eB r)]:=by
 refine co Tryz.func69 ?_;intro _ _ _ _
 unfold zGX at h
 refine Q59 ?_
 refine q4 S23 ?_
 have ⟨r11,hr11,h⟩:=bE h
 refine yF rfl (z7U (en:=eB) (lq rfl) yCD rfl rfl hr11 (by decide) rfl) ?_
 refine Q13 ?_
 refine Q32 ?_
 have ⟨y1,hy1,h⟩:=bE h
 refine tl (.exit 0) ⟨[(3,.row 11)],[(11,.row 4 eB.size false (eB.all y1))]⟩ ?_ ?_
 refine zD (fun x=>⟨[(0,.d (zS eMapping a0)),(3,.row 11),(4,.d (di x.1))],[(11,.row 4 eB.size false (eB.all x.2))]⟩) hy1 (wc) ?_
 rintro ⟨v4,r11⟩ sy1 p1
 replace p1:zAV a0 v4 r11=some sy1:=p1
 unfold zAV at p1
 refine Q60 ?_
 refine z1 p1 (fun p1=>?_) (fun p1=>?_)
 refine Q8 ?_
 refine Q14 ?_
 have ⟨y2,hy2,p1⟩:=bE p1
 refine tl (.exit 2) ⟨[(0,.d (zS eMapping a0)),(3,.row 11),(4,.d (di v4))],[(11,.row 4 eB.size false (eB.all y2))]⟩ ?_ ?_
 refine zD (fun x=>⟨[(0,.d (zS eMapping a0)),(3,.row 11),(4,.d (di v4)),(5,.d (di x.1))],[(11,.row 4 eB.size false (eB.all x.2))]⟩) hy2 (wc) ?_
 rintro ⟨v5,r11⟩ sy2 p2
 replace p2:zAU a0 v5 r11=some sy2:=p2
 unfold zAU at p2
 refine Q60 ?_
 refine z1 p2 (fun p2=>?_) (fun p2=>?_)
 refine Q8 ?_
 refine Q74 ?_
 have ⟨y3,hy3,p2⟩:=bE p2
 refine tl (.exit 4) ⟨[(0,.d (zS eMapping a0)),(3,.row 11),(4,.d (di v4)),(5,.d (di v5)),(6,.d (db y3))],[(11,.row 4 eB.size false (eB.all r11))]⟩ ?_ ?_
 refine zD (fun x=>⟨[(0,.d (zS eMapping a0)),(3,.row 11),(4,.d (di v4)),(5,.d (di v5)),(6,.d (db x.1)),(7,.d (di x.2))],[(11,.row 4 eB.size false (eB.all r11))]⟩) hy3 (wc) ?_
 rintro ⟨v6,v7⟩ sy3 p3
 replace p3:wS a0 v5 r11 v6 v7=some sy3:=p3
 unfold wS at p3
 refine Q12 ?_
 refine q0 ?_
 have ⟨t27,ht27,p3⟩:=bE p3
 refine q11 S23 ht27 ?_
 refine q46 zCW ?_
 refine q84 O33 ht27 ?_
 refine Q83 ?_
 refine z1 p3 (fun p3=>?_) (fun p3=>?_)
 refine Q69 ?_
 refine q0 ?_
 have ⟨t37,ht37,p3⟩:=bE p3
 refine q11 S23 ht37 ?_
 refine q46 zCW ?_
 refine q84 O33 ht37 ?_
 refine q0 ?_
 have ⟨t41,ht41,p3⟩:=bE p3
 refine q11 yD ht41 ?_
 refine q35 O3 ht41 ?_
 have ⟨t43,ht43,p3⟩:=bE p3
 refine q8 (zED ht43) ?_
 refine Q1 ?_
 refine Q7 ?_
 have ⟨b45,hb45,p3⟩:=bE p3
 refine z9 ((zC (lq rfl) rfl).bool (oi hb45)) ?_
 refine q13 (.d (di t43)) ?_
 refine q73 (.d (db (decide (t43 < 0)))) ?_
 have ⟨b48,hb48,p3⟩:=bE p3
 refine sqt (.d (db b48)) rfl (fun hb=>by subst hb;exact (zC (lq rfl) rfl).bool (oi hb48)) ?_
 refine jW (x:= .row 11) rfl rfl rfl (lq rfl) (lq rfl) rfl (fun hb=>by obtain ⟨hb,hb1⟩:=zQ hb;obtain rfl:b45=true:=hb;obtain rfl:=gF hb1;exact zGP (lq rfl) rfl) ?_
 refine jW (x:= .d (di t43)) rfl rfl rfl (lq rfl) (lq rfl) rfl (fun hb=>by obtain ⟨hb,hb1⟩:=zQ hb;obtain rfl:b45=true:=hb;obtain rfl:=gF hb1;exact zC (lq rfl) rfl) ?_
 have ⟨t51,ht51,p3⟩:=bE p3
 refine jW (x:= .ptr 11 (t43.toNat*eB.size)) rfl rfl rfl (lq rfl) (lq rfl) rfl (fun hb=>by obtain ⟨hb,hb1⟩:=zQ hb;obtain rfl:b45=true:=hb;obtain rfl:=gF hb1;exact zDC (en:=eB) (l:=r11) (lq rfl) yCD rfl rfl rfl ht51) ?_
 refine jW (x:= .d (db t51)) rfl rfl rfl (lq rfl) (lq rfl) rfl (fun hb=>by obtain ⟨hb,hb1⟩:=zQ hb;obtain rfl:b45=true:=hb;obtain rfl:=gF hb1;exact xR (en:=eB) (l:=r11) (i:=t43) (v:=t51) (off:=0) (lq rfl) O4 rfl rfl ht51 rfl) ?_
 refine yCP (.d (db (b48 ||t51))) ?_
 refine Q41 ?_
 refine Q11 ?_
 cases p3
 exact wc
 refine zF ?_
 cases p3
 intro q;cases q
 exact zH (wc)
 refine Q63 ?_
 have ⟨t58,ht58,p2⟩:=bE p2
 refine q80 yCD ht58 ?_
 have ⟨r11_4,hr11_4,p2⟩:=bE p2
 refine yF rfl (vF (en:=eB) (l:=r11) (i:=v5) (v:=t58) (off:=0) O4 rfl rfl rfl ht58 rfl (by decide) hr11_4 rfl rfl) ?_
 refine zK<|Q11 ?_
 cases p2
 exact wc
 refine zF ?_
 cases p2
 intro q;cases q
 exact zH (wc)
 refine Q11 ?_
 cases p1
 exact wc
 refine zF ?_
 cases p1
 intro q;cases q
 exact zH (wc)
 refine Q61 ?_
 cases h
 refine zB ?_
 exact zI rfl
theorem zEE {a0 r} (h:u7 a0=some r):zG Tryz.prog 104 [(di a0)] [(zS eI r)]:=by
 refine co Tryz.func104 ?_;intro _ _ _ _
 unfold u7 at h
 refine Q47 ?_
 have ⟨t6,ht6,h⟩:=bE h
 refine q8 (zNI ht6) ?_
 refine Q6 ?_
 refine z1 h (fun h=>?_) (fun h=>?_)
 refine Q2 ?_
 refine q85 yD ?_
 refine Q13 ?_
 cases h
 refine zB ?_
 exact zI rfl
 refine zL<|Q2 ?_
 refine q31 ?_
 refine Q19 ?_
 have ⟨t13,ht13,h⟩:=bE h
 refine z05 ht13 ?_
 have ⟨t14,ht14,h⟩:=bE h
 refine z05 ht14 ?_
 refine q2 ?_
 refine q0 ?_
 have ⟨t17,ht17,h⟩:=bE h
 refine z05 ht17 ?_
 have ⟨t18,ht18,h⟩:=bE h
 refine q91 ht18 ?_
 refine q2 ?_
 refine q85 yD ?_
 refine Q13 ?_
 refine Q4 ?_
 have ⟨t22,ht22,h⟩:=bE h
 refine q91 ht22 ?_
 refine Q54 ?_
 have ⟨y1,hy1,h⟩:=bE h
 refine tl .normal ⟨[(4,.row 20)],[(20,.row 3 eI.size false (eI.all y1))]⟩ ?_ ?_
 refine z1 hy1 (fun hy1=>?_) (fun hy1=>?_)
 refine zVV ?_
 have ⟨t26,ht26,hy1⟩:=bE hy1
 refine q91 ht26 ?_
 refine q2 ?_
 refine q31 ?_
 refine q24 yD ?_
 have ⟨r20_2,hr20_2,hy1⟩:=bE hy1
 refine yF rfl (yK (en:=eI) (l:=[wi (4352+t14),wi (4449+t18)]) (m:=[wi ((wi (4520+t26)) - 1)]) (lq rfl) yD rfl rfl rfl hr20_2 (by decide) (by decide) rfl rfl) ?_
 refine Q13 ?_
 cases hy1
 exact zH (wc)
 refine zL ?_
 cases hy1
 exact zH (wc)
 refine Q61 ?_
 cases h
 refine zB ?_
 exact zI rfl
theorem zJW {a0 a1 r} (h:zB9 a0 a1=some r):zG Tryz.prog 70 [(zS eMapping a0),(db a1)] [(zS eI r)]:=by
 refine co Tryz.func70 ?_;intro _ _ _ _
 unfold zB9 at h
 refine Q59 ?_
 refine q4 S23 ?_
 have ⟨r13,hr13,h⟩:=bE h
 refine yF rfl (z7U (en:=eI) (lq rfl) yD rfl rfl hr13 (by decide) rfl) ?_
 refine Q13 ?_
 refine Q32 ?_
 have ⟨y1,hy1,h⟩:=bE h
 refine tl (.exit 0) ⟨[(5,.row 13)],[(13,.row 3 eI.size false (eI.all y1))]⟩ ?_ ?_
 refine zD (fun x=>⟨[(0,.d (zS eMapping a0)),(1,.d (db a1)),(5,.row 13),(6,.d (di x.1))],[(13,.row 3 eI.size false (eI.all x.2))]⟩) hy1 (wc) ?_
 rintro ⟨v6,r13⟩ sy1 p1
 replace p1:wO a0 a1 v6 r13=some sy1:=p1
 unfold wO at p1
 refine Q60 ?_
 refine z1 p1 (fun p1=>?_) (fun p1=>?_)
 refine Q8 ?_
 refine Q14 ?_
 have ⟨y2,hy2,p1⟩:=bE p1
 refine tl (.exit 2) ⟨[(0,.d (zS eMapping a0)),(1,.d (db a1)),(5,.row 13),(6,.d (di v6))],[(13,.row 3 eI.size false (eI.all y2))]⟩ ?_ ?_
 refine zD (fun x=>⟨[(0,.d (zS eMapping a0)),(1,.d (db a1)),(5,.row 13),(6,.d (di v6)),(7,.d (di x.1))],[(13,.row 3 eI.size false (eI.all x.2))]⟩) hy2 (wc) ?_
 rintro ⟨v7,r13⟩ sy2 p2
 replace p2:wN a0 a1 v7 r13=some sy2:=p2
 unfold wN at p2
 refine Q60 ?_
 refine z1 p2 (fun p2=>?_) (fun p2=>?_)
 refine Q5 ?_
 have ⟨y3,hy3,p2⟩:=bE p2
 refine tl .normal ⟨[(0,.d (zS eMapping a0)),(1,.d (db a1)),(5,.row 13),(6,.d (di v6)),(7,.d (di v7))],[(13,.row 3 eI.size false (eI.all y3))]⟩ ?_ ?_
 refine yY<|Q74 ?_
 have ⟨y4,hy4,hy3⟩:=bE hy3
 refine tl (.exit 4) ⟨[(0,.d (zS eMapping a0)),(1,.d (db a1)),(5,.row 13),(6,.d (di v6)),(7,.d (di v7)),(8,.d (di y4))],[(13,.row 3 eI.size false (eI.all r13))]⟩ ?_ ?_
 refine zD (fun x=>⟨[(0,.d (zS eMapping a0)),(1,.d (db a1)),(5,.row 13),(6,.d (di v6)),(7,.d (di v7)),(8,.d (di x.1)),(9,.d (di x.2))],[(13,.row 3 eI.size false (eI.all r13))]⟩) hy4 (wc) ?_
 rintro ⟨v8,v9⟩ sy4 p4
 replace p4:jY a0 v7 a1 r13 v8 v9=some sy4:=p4
 unfold jY at p4
 refine Q12 ?_
 refine q0 ?_
 have ⟨t29,ht29,p4⟩:=bE p4
 refine q11 S23 ht29 ?_
 refine q46 zCW ?_
 refine q84 O33 ht29 ?_
 refine Q83 ?_
 refine z1 p4 (fun p4=>?_) (fun p4=>?_)
 refine Q5 ?_
 have ⟨y5,hy5,p4⟩:=bE p4
 refine tl .normal ⟨[(0,.d (zS eMapping a0)),(1,.d (db a1)),(5,.row 13),(6,.d (di v6)),(7,.d (di v7)),(8,.d (di y5)),(9,.d (di v9))],[(13,.row 3 eI.size false (eI.all r13))]⟩ ?_ ?_
 refine Q75 ?_
 refine q0 ?_
 have ⟨t39,ht39,hy5⟩:=bE hy5
 refine q11 S23 ht39 ?_
 refine q46 zCW ?_
 refine q84 O33 ht39 ?_
 refine q0 ?_
 have ⟨t43,ht43,hy5⟩:=bE hy5
 refine q11 yD ht43 ?_
 refine q35 O3 ht43 ?_
 refine q0 ?_
 have ⟨t46,ht46,hy5⟩:=bE hy5
 refine q8 (zED ht46) ?_
 refine Q19 ?_
 refine Q99 ?_
 refine z1 hy5 (fun hy5=>?_) (fun hy5=>?_)
 refine Q7 ?_
 refine Q18 ?_
 have ⟨t52,ht52,hy5⟩:=bE hy5
 refine q80 yD ht52 ?_
 refine z9 (xR (en:=eI) (l:=r13) (i:=t46) (v:=t52) (off:=0) (lq rfl) O3 rfl rfl ht52 rfl) ?_
 refine Q9 ?_
 cases hy5
 exact zH (wc)
 refine Q66 ?_
 refine q0 ?_
 have ⟨t58,ht58,hy5⟩:=bE hy5
 refine q11 S23 ht58 ?_
 refine q46 zCW ?_
 refine q84 O33 ht58 ?_
 refine q0 ?_
 have ⟨t62,ht62,hy5⟩:=bE hy5
 refine q11 yD ht62 ?_
 refine q35 O3 ht62 ?_
 have ⟨t64,ht64,hy5⟩:=bE hy5
 refine q8 (zEE ht64) ?_
 refine q4 yD ?_
 refine Q9 ?_
 cases hy5
 exact zH (wc)
 refine Q11 ?_
 cases p4
 exact wc
 refine zF ?_
 cases p4
 intro q;cases q
 exact zH (wc)
 refine Q86 ?_
 refine yCX ?_
 refine z8T ?_
 have ⟨t72,ht72,hy3⟩:=bE hy3
 refine q80 yD ht72 ?_
 have ⟨r13_6,hr13_6,hy3⟩:=bE hy3
 refine yF rfl (vF (en:=eI) (l:=r13) (i:=v7) (v:=t72) (off:=0) O3 rfl rfl rfl ht72 rfl (by decide) hr13_6 rfl rfl) ?_
 refine zK<|Q15 ?_
 have ⟨t75,ht75,hy3⟩:=bE hy3
 refine q11 S23 ht75 ?_
 refine q46 zBO ?_
 refine z9 (zZ (en:=eMapping) (l:=a0) (i:=v7) (v:=t75) (off:=2) (lq rfl) O9 rfl ht75 rfl) ?_
 refine z5E ?_
 have ⟨b79,hb79,hy3⟩:=bE hy3
 refine z9 ((zC (lq rfl) rfl).bool (oi hb79)) ?_
 refine q13 (.d (db a1)) ?_
 refine zYP (.d (db (!a1))) ?_
 refine Q36 ?_
 refine z1 hy3 (fun hy3=>?_) (fun hy3=>?_)
 refine zVV ?_
 have ⟨t85,ht85,hy3⟩:=bE hy3
 refine q80 yD ht85 ?_
 have ⟨r13_7,hr13_7,hy3⟩:=bE hy3
 refine yF rfl (vF (en:=eI) (l:=r13_6) (i:=v7) (v:=t85) (off:=0) O3 rfl rfl rfl ht85 rfl (by decide) hr13_7 rfl rfl) ?_
 refine zK ?_
 cases hy3
 exact zH (wc)
 refine zL ?_
 cases hy3
 exact zH (wc)
 refine Q11 ?_
 cases p2
 exact wc
 refine zF ?_
 cases p2
 intro q;cases q
 exact zH (wc)
 refine Q11 ?_
 cases p1
 exact wc
 refine zF ?_
 cases p1
 intro q;cases q
 exact zH (wc)
 refine Q61 ?_
 cases h
 refine zB ?_
 exact zI rfl
theorem zS3 {a0 r} (h:zFM a0=some r):zG Tryz.prog 30 [(eNorm.dv a0)] [(di r)]:=by
 refine co Tryz.func30 ?_;intro _ _ _ _
 unfold zFM at h
 refine Q40 ?_
 refine Q53 ?_
 refine q5 vZ ?_
 refine q6 O22 ?_
 have ⟨t16,ht16,h⟩:=bE h
 refine q8 (zL2 ht16) ?_
 refine Q62 ?_
 refine z1 h (fun h=>?_) (fun h=>?_)
 refine Q35 ?_
 cases h
 refine zB ?_
 exact zI rfl
 refine Q71 ?_
 refine Q89 ?_
 have ⟨t22,ht22,h⟩:=bE h
 refine q8 (zS0 ht22) ?_
 refine Q62 ?_
 refine z1 h (fun h=>?_) (fun h=>?_)
 refine Q35 ?_
 cases h
 refine zB ?_
 exact zI rfl
 refine Q71 ?_
 refine q5 z8F ?_
 refine q96 G26 ?_
 have ⟨t28,ht28,h⟩:=bE h
 refine q8 (zS2 ht28) ?_
 refine Q42 ?_
 refine z1 h (fun h=>?_) (fun h=>?_)
 refine Q3 ?_
 cases h
 refine zB ?_
 exact zI rfl
 refine Q50 ?_
 refine Q89 ?_
 refine Q96 ?_
 have ⟨y1,hy1,h⟩:=bE h
 refine zR y1 (.exit 0) (fun y1=>⟨[(1,.d (.pt (eNorm.cells a0))),(5,.d (zS eMapping a0.Decomp))],[]⟩) .ret (fun y1=>⟨[(2,.d (di y1))],[]⟩) ?_ ?_ ?_
 refine zD (fun x=>⟨[(1,.d (.pt (eNorm.cells a0))),(5,.d (zS eMapping a0.Decomp)),(6,.d (di x))],[]⟩) hy1 (wc) ?_
 rintro v6 sy1 p1
 replace p1:zBG a0 v6=some sy1:=p1
 unfold zBG at p1
 refine Q60 ?_
 refine z1 p1 (fun p1=>?_) (fun p1=>?_)
 refine Q69 ?_
 refine q0 ?_
 have ⟨t41,ht41,p1⟩:=bE p1
 refine q11 S23 ht41 ?_
 refine q46 zEZ ?_
 refine z9 (zZ (en:=eMapping) (l:=a0.Decomp) (i:=v6) (v:=t41) (off:=0) (lq rfl) O3 rfl ht41 rfl) ?_
 have ⟨t44,ht44,p1⟩:=bE p1
 refine q8 (zED ht44) ?_
 refine q0 ?_
 refine Q6 ?_
 refine z1 p1 (fun p1=>?_) (fun p1=>?_)
 refine Q17 ?_
 cases p1
 intro q;cases q
 exact ⟨rfl,wc⟩
 refine Q28 ?_
 cases p1
 exact wc
 refine zF ?_
 cases p1
 intro q;cases q
 exact ⟨rfl,wc⟩
 rintro y1 rfl
 replace h:=eL h
 refine Q32 ?_
 have ⟨y2,hy2,h⟩:=bE h
 refine zR y2 (.exit 2) (fun y2=>⟨[(1,.d (.pt (eNorm.cells a0))),(5,.d (zS eMapping a0.Decomp))],[]⟩) .ret (fun y2=>⟨[(2,.d (di y2))],[]⟩) ?_ ?_ ?_
 refine zD (fun x=>⟨[(1,.d (.pt (eNorm.cells a0))),(5,.d (zS eMapping a0.Decomp)),(7,.d (di x))],[]⟩) hy2 (wc) ?_
 rintro v7 sy2 p2
 replace p2:zBH a0 v7=some sy2:=p2
 unfold zBH at p2
 refine Q60 ?_
 refine z1 p2 (fun p2=>?_) (fun p2=>?_)
 refine Q69 ?_
 have ⟨t55,ht55,p2⟩:=bE p2
 refine q11 S23 ht55 ?_
 refine q46 zBO ?_
 refine z9 (zZ (en:=eMapping) (l:=a0.Decomp) (i:=v7) (v:=t55) (off:=2) (lq rfl) O9 rfl ht55 rfl) ?_
 refine z9 (zKK (a:=t55.Tag) (b:=[]) (lq rfl) rfl rfl) ?_
 have ⟨b59,hb59,p2⟩:=bE p2
 refine z9 ((zC (lq rfl) rfl).bool (oi hb59)) ?_
 refine q13 (.d (zS eMapping a0.Decomp)) ?_
 refine q13 (.d (di v7)) ?_
 have ⟨t62,ht62,p2⟩:=bE p2
 refine sqt (.ip (eMapping.all a0.Decomp) (v7.toNat*eMapping.size)) rfl (fun hb=>by subst hb;exact kN (en:=eMapping) (lq rfl) S23 rfl rfl ht62) ?_
 refine z5O (.ip (eMapping.all a0.Decomp) (v7.toNat*eMapping.size+1)) zCW ?_
 refine sqt (.d (zS eI t62.To)) rfl (fun hb=>by subst hb;exact zZ (en:=eMapping) (l:=a0.Decomp) (i:=v7) (v:=t62) (off:=1) (lq rfl) O33 rfl ht62 rfl) ?_
 refine z8P (.d (di (t62.To.length:Int))) yD ?_
 refine z8X (.d (db (!decide ((t62.To.length:Int)=1)))) ?_
 refine q14 ?_
 have ⟨b68,hb68,p2⟩:=bE p2
 refine z9 ((zC (lq rfl) rfl).bool (oi hb68)) ?_
 refine q13 (.d (zS eMapping a0.Decomp)) ?_
 refine q13 (.d (di v7)) ?_
 have ⟨t71,ht71,p2⟩:=bE p2
 refine sqt (.ip (eMapping.all a0.Decomp) (v7.toNat*eMapping.size)) rfl (fun hb=>by subst hb;exact kN (en:=eMapping) (lq rfl) S23 rfl rfl ht71) ?_
 refine z5O (.ip (eMapping.all a0.Decomp) (v7.toNat*eMapping.size+1)) zCW ?_
 refine sqt (.d (zS eI t71.To)) rfl (fun hb=>by subst hb;exact zZ (en:=eMapping) (l:=a0.Decomp) (i:=v7) (v:=t71) (off:=1) (lq rfl) O33 rfl ht71 rfl) ?_
 refine z8P (.d (di (t71.To.length:Int))) yD ?_
 refine z8X (.d (db (!decide ((t71.To.length:Int)=2)))) ?_
 refine Q36 ?_
 refine z1 p2 (fun p2=>?_) (fun p2=>?_)
 refine Q17 ?_
 cases p2
 intro q;cases q
 exact ⟨rfl,wc⟩
 refine Q28 ?_
 cases p2
 exact wc
 refine zF ?_
 cases p2
 intro q;cases q
 exact ⟨rfl,wc⟩
 rintro y2 rfl
 replace h:=eL h
 refine Q32 ?_
 have ⟨y3,hy3,h⟩:=bE h
 refine zR y3 (.exit 4) (fun y3=>⟨[(5,.d (zS eMapping a0.Decomp))],[]⟩) .ret (fun y3=>⟨[(2,.d (di y3))],[]⟩) ?_ ?_ ?_
 refine zD (fun x=>⟨[(1,.d (.pt (eNorm.cells a0))),(5,.d (zS eMapping a0.Decomp)),(8,.d (di x))],[]⟩) hy3 (wc) ?_
 rintro v8 sy3 p3
 replace p3:zBI a0 v8=some sy3:=p3
 unfold zBI at p3
 refine Q60 ?_
 refine z1 p3 (fun p3=>?_) (fun p3=>?_)
 refine Q65 ?_
 refine z3 MX rfl ?_
 refine Q27 ?_
 have ⟨t85,ht85,p3⟩:=bE p3
 refine q23 S23 ht85 ?_
 refine q52 zEZ ?_
 refine z8Z O3 ht85 ?_
 have ⟨t88,ht88,p3⟩:=bE p3
 refine q22 (zNI ht88) ?_
 refine vO (zMX (lq rfl) rfl rfl) ?_
 have ⟨b90,hb90,p3⟩:=bE p3
 refine vO ((zC (lq rfl) rfl).bool (oi hb90)) ?_
 refine q50 (.d (zS eMapping a0.Decomp)) ?_
 refine q50 (.d (di v8)) ?_
 have ⟨t93,ht93,p3⟩:=bE p3
 refine daf (.ip (eMapping.all a0.Decomp) (v8.toNat*eMapping.size)) rfl (fun hb=>by subst hb;exact kN (en:=eMapping) (lq rfl) S23 rfl rfl ht93) ?_
 refine q82 (.ip (eMapping.all a0.Decomp) (v8.toNat*eMapping.size+2)) zBO ?_
 refine daf (.d (ds t93.Tag)) rfl (fun hb=>by subst hb;exact zZ (en:=eMapping) (l:=a0.Decomp) (i:=v8) (v:=t93) (off:=2) (lq rfl) O9 rfl ht93 rfl) ?_
 refine daf (.d (db (!(t93.Tag== [])))) rfl (fun hb=>by subst hb;exact z0H (a:=t93.Tag) (b:=[]) (lq rfl) rfl rfl) ?_
 have ⟨b97,hb97,p3⟩:=bE p3
 refine daf (.d (db b97)) rfl (fun hb=>by subst hb;exact (zC (lq rfl) rfl).bool (oi hb97)) ?_
 refine zDA (x:= .ip (eNorm.cells a0) (0+0)) rfl rfl rfl (lq rfl) (lq rfl) rfl (fun hb=>by obtain ⟨hb,hb1⟩:=zQ hb;obtain rfl:=gF hb;obtain rfl:b97=true:=hb1;exact wF (lq rfl) vZ rfl) ?_
 refine zDA (x:= .d (zS eSpan a0.Classes)) rfl rfl rfl (lq rfl) (lq rfl) rfl (fun hb=>by obtain ⟨hb,hb1⟩:=zQ hb;obtain rfl:=gF hb;obtain rfl:b97=true:=hb1;exact xI (lq rfl) O22 rfl rfl) ?_
 refine zDA (x:= .d (zS eMapping a0.Decomp)) rfl rfl rfl (lq rfl) (lq rfl) rfl (fun hb=>by obtain ⟨hb,hb1⟩:=zQ hb;obtain rfl:=gF hb;obtain rfl:b97=true:=hb1;exact zC (lq rfl) rfl) ?_
 refine zDA (x:= .d (di v8)) rfl rfl rfl (lq rfl) (lq rfl) rfl (fun hb=>by obtain ⟨hb,hb1⟩:=zQ hb;obtain rfl:=gF hb;obtain rfl:b97=true:=hb1;exact zC (lq rfl) rfl) ?_
 have ⟨t102,ht102,p3⟩:=bE p3
 refine zDA (x:= .ip (eMapping.all a0.Decomp) (v8.toNat*eMapping.size)) rfl rfl rfl (lq rfl) (lq rfl) rfl (fun hb=>by obtain ⟨hb,hb1⟩:=zQ hb;obtain rfl:=gF hb;obtain rfl:b97=true:=hb1;exact kN (en:=eMapping) (lq rfl) S23 rfl rfl ht102) ?_
 refine zDA (x:= .ip (eMapping.all a0.Decomp) (v8.toNat*eMapping.size+0)) rfl rfl rfl (lq rfl) (lq rfl) rfl (fun hb=>by obtain ⟨hb,hb1⟩:=zQ hb;obtain rfl:=gF hb;obtain rfl:b97=true:=hb1;exact xD (lq rfl) zEZ rfl) ?_
 refine zDA (x:= .d (di t102.From)) rfl rfl rfl (lq rfl) (lq rfl) rfl (fun hb=>by obtain ⟨hb,hb1⟩:=zQ hb;obtain rfl:=gF hb;obtain rfl:b97=true:=hb1;exact zZ (en:=eMapping) (l:=a0.Decomp) (i:=v8) (v:=t102) (off:=0) (lq rfl) O3 rfl ht102 rfl) ?_
 have ⟨t105,ht105,p3⟩:=bE p3
 refine zDA (x:= .d (di t105)) rfl rfl rfl (lq rfl) (lq rfl) rfl (fun hb=>by obtain ⟨hb,hb1⟩:=zQ hb;obtain rfl:=gF hb;obtain rfl:b97=true:=hb1;exact wD (lq rfl) rfl (zDP ht105)) ?_
 refine zDA (x:= .d (db (!decide (t105=0)))) rfl rfl rfl (lq rfl) (lq rfl) rfl (fun hb=>by obtain ⟨hb,hb1⟩:=zQ hb;obtain rfl:=gF hb;obtain rfl:b97=true:=hb1;exact zMX (lq rfl) rfl rfl) ?_
 refine daf (.d (db (b97&&(!decide (t105=0))))) rfl (fun hb=>by subst hb;exact zEN (lq rfl) rfl rfl) ?_
 refine q95 ?_
 refine xZ ?_
 refine z1 p3 (fun p3=>?_) (fun p3=>?_)
 refine Q17 ?_
 cases p3
 intro q;cases q
 exact ⟨rfl,wc⟩
 refine Q28 ?_
 cases p3
 exact wc
 refine zF ?_
 cases p3
 intro q;cases q
 exact ⟨rfl,wc⟩
 rintro y3 rfl
 replace h:=eL h
 refine Q2 ?_
 have ⟨t110,ht110,h⟩:=bE h
 refine q8 (zVZ ht110) ?_
 refine Q96 ?_
 have ⟨y4,hy4,h⟩:=bE h
 refine zR y4 (.exit 6) (fun y4=>⟨[(5,.d (zS eMapping a0.Decomp))],[]⟩) .ret (fun y4=>⟨[(2,.d (di y4))],[]⟩) ?_ ?_ ?_
 refine zD (fun x=>⟨[(5,.d (zS eMapping a0.Decomp)),(9,.d (zS eB t110)),(10,.d (di x))],[]⟩) hy4 (wc) ?_
 rintro v10 sy4 p4
 replace p4:zBJ a0 t110 v10=some sy4:=p4
 unfold zBJ at p4
 refine Q60 ?_
 refine z1 p4 (fun p4=>?_) (fun p4=>?_)
 refine Q69 ?_
 have ⟨t119,ht119,p4⟩:=bE p4
 refine q11 yCD ht119 ?_
 refine z9 (zZ (en:=eB) (l:=t110) (i:=v10) (v:=t119) (off:=0) (lq rfl) O4 rfl ht119 rfl) ?_
 refine Q42 ?_
 refine z1 p4 (fun p4=>?_) (fun p4=>?_)
 refine Q17 ?_
 cases p4
 intro q;cases q
 exact ⟨rfl,wc⟩
 refine Q28 ?_
 cases p4
 exact wc
 refine zF ?_
 cases p4
 intro q;cases q
 exact ⟨rfl,wc⟩
 rintro y4 rfl
 replace h:=eL h
 refine Q2 ?_
 have ⟨t123,ht123,h⟩:=bE h
 refine q8 (zJW ht123) ?_
 refine q0 ?_
 have ⟨t125,ht125,h⟩:=bE h
 refine q8 (zJW ht125) ?_
 refine q1 ?_
 refine Q96 ?_
 have ⟨y5,hy5,h⟩:=bE h
 refine zR y5 (.exit 8) (fun y5=>⟨[],[]⟩) .ret (fun y5=>⟨[(2,.d (di y5))],[]⟩) ?_ ?_ ?_
 refine zD (fun x=>⟨[(5,.d (zS eMapping a0.Decomp)),(11,.d (zS eI t123)),(12,.d (zS eI t125)),(13,.d (di x))],[]⟩) hy5 (wc) ?_
 rintro v13 sy5 p5
 replace p5:zBK a0 t123 t125 v13=some sy5:=p5
 unfold zBK at p5
 refine Q60 ?_
 refine z1 p5 (fun p5=>?_) (fun p5=>?_)
 refine Q69 ?_
 have ⟨t134,ht134,p5⟩:=bE p5
 refine q11 yD ht134 ?_
 refine q35 O3 ht134 ?_
 refine q37 ?_
 have ⟨b137,hb137,p5⟩:=bE p5
 refine z9 ((zC (lq rfl) rfl).bool (oi hb137)) ?_
 refine q38 (.d (zS eI t125)) ?_
 refine q38 (.d (di v13)) ?_
 have ⟨t140,ht140,p5⟩:=bE p5
 refine sqf (.ip (eI.all t125) (v13.toNat*eI.size)) rfl (fun hb=>by subst hb;exact kN (en:=eI) (lq rfl) yD rfl rfl ht140) ?_
 refine sqf (.d (di t140)) rfl (fun hb=>by subst hb;exact zZ (en:=eI) (l:=t125) (i:=v13) (v:=t140) (off:=0) (lq rfl) O3 rfl ht140 rfl) ?_
 refine q43 (.d (db (decide (64 < t140)))) ?_
 refine Q37 ?_
 refine z1 p5 (fun p5=>?_) (fun p5=>?_)
 refine Q17 ?_
 cases p5
 intro q;cases q
 exact ⟨rfl,wc⟩
 refine Q28 ?_
 cases p5
 exact wc
 refine zF ?_
 cases p5
 intro q;cases q
 exact ⟨rfl,wc⟩
 rintro y5 rfl
 replace h:=eL h
 refine Q3 ?_
 cases h
 refine zB ?_
 exact zI rfl
 rintro y5 rfl
 replace h:=eR h
 cases h
 exact zI rfl
 rintro y4 rfl
 replace h:=eR h
 cases h
 exact zI rfl
 rintro y3 rfl
 replace h:=eR h
 cases h
 exact zI rfl
 rintro y2 rfl
 replace h:=eR h
 cases h
 exact zI rfl
 rintro y1 rfl
 replace h:=eR h
 cases h
 exact zI rfl
theorem xF {a0 r} (h:zEU a0=some r):zG Tryz.prog 11 [(eNorm.dv a0)] [(eNorm.dv r)]:=by
 refine co Tryz.func11 ?_;intro _ _ _ _
 unfold zEU at h
 refine Q40 ?_
 refine yGJ ?_
 refine zVT ?_
 refine q21 G28 ?_
 have ⟨t4,ht4,h⟩:=bE h
 refine q8 (zS3 ht4) ?_
 refine Q33 ?_
 refine z1 h (fun h=>?_) (fun h=>?_)
 refine Q0 ?_
 refine z9 ((zDR (lq rfl) B28 rfl rfl).nils (bs:=eNorm.cells ({Classes:=[],Decomp:=[],Excluded:=(({Ranges:=[]}):Set)}:Norm)) (nlN (nlN (nlN nl0)))) ?_
 refine q16 G28 ?_
 refine zK ?_
 cases h
 refine zB ?_
 exact xJ rfl rfl G28 rfl
 refine Q50 ?_
 refine q21 G28 ?_
 refine q16 G28 ?_
 refine zK ?_
 cases h
 refine zB ?_
 exact xJ rfl rfl G28 rfl
theorem zP0 {a0 a1 r} (h:zDK a0 a1=some r):zG Tryz.prog 10 [(zS eSpan a0),(di a1)] [(db r)]:=by
 refine co Tryz.func10 ?_;intro _ _ _ _
 unfold zDK at h
 refine Q3 ?_
 refine Q15 ?_
 have ⟨t7,ht7,h⟩:=bE h
 refine q8 (zDP ht7) ?_
 refine Q88 ?_
 cases h
 refine zB ?_
 exact zI rfl
theorem zNJ {a0 a1 a2 r} (h:xY a0 a1 a2=some r):zG Tryz.prog 108 [(di a0),(di a1),(.pt [(zS eSpan a2)])] [(di r)]:=by
 refine co Tryz.func108 ?_;intro _ _ _ _
 unfold xY at h
 refine Q3 ?_
 refine kF ?_
 refine z3 MX rfl ?_
 refine z81 O22 ?_
 refine q7 ?_
 have ⟨t8,ht8,h⟩:=bE h
 refine q22 (zE1 ht8) ?_
 refine z81 O22 ?_
 refine q7 ?_
 have ⟨t11,ht11,h⟩:=bE h
 refine q22 (zE1 ht11) ?_
 have ⟨t12,ht12,h⟩:=bE h
 refine q22 (xV ht12) ?_
 refine Q51 ?_
 cases h
 refine zB ?_
 exact zI rfl
set_option maxHeartbeats 8000000 in
theorem uW {fv3:DV} {a0:(List Int)} {a1:Int} {a2:Int} {a3:Int→Int→Option (Int)} (hf3:∀x0 x1 y,a3 x0 x1=some y→FnC Tryz.prog fv3 [(di x0),(di x1)] [(di y)]) {r:(List Int)} (h:kB a0 a1 a2 a3=some r):GC Tryz.prog 142 [.row 3000,.d (di a1),.d (di a2),.d fv3] [(3000,.win 3 eI.size 0 (eI.all a0))] [3000] [] [(3000,.win 3 eI.size 0 (eI.all r))]:=by
 refine zC7 Tryz.func142 (by kernel_rfl) rfl (lq rfl) (lq rfl) fun w0 I0 hG0 p0=>?_
 unfold kB at h
 refine Q2 ?_
 refine Q9 ?_
 refine yY ?_
 have ⟨y1,hy1,h⟩:=bE h
 refine tl (.exit 0) ⟨[(0,.row 3000)],[(3000,.win 3 eI.size 0 (eI.all y1))]⟩ ?_ ?_
 refine zD (fun x=>⟨[(0,.row 3000),(1,.d (di a1)),(2,.d (di a2)),(3,.d fv3),(8,.d (di x.1))],[(3000,.win 3 eI.size 0 (eI.all x.2))]⟩) hy1 (wc) ?_
 rintro ⟨v8,r3000⟩ sy1 p1
 replace p1:zV a2 a1 a3 v8 r3000=some sy1:=p1
 unfold zV at p1
 refine Q72 ?_
 refine z1 p1 (fun p1=>?_) (fun p1=>?_)
 refine Q8 ?_
 refine Q35 ?_
 refine yY ?_
 have ⟨y2,hy2,p1⟩:=bE p1
 refine tl (.exit 2) ⟨[(0,.row 3000),(1,.d (di a1)),(2,.d (di a2)),(3,.d fv3),(8,.d (di v8))],[(3000,.win 3 eI.size 0 (eI.all y2))]⟩ ?_ ?_
 refine zD (fun x=>⟨[(0,.row 3000),(1,.d (di a1)),(2,.d (di a2)),(3,.d fv3),(8,.d (di v8)),(9,.d (di x.1))],[(3000,.win 3 eI.size 0 (eI.all x.2))]⟩) hy2 (wc) ?_
 rintro ⟨v9,r3000⟩ sy2 p2
 replace p2:zY a1 a3 v9 r3000=some sy2:=p2
 unfold zY at p2
 refine kF<|kF ?_
 refine z3 MX rfl ?_
 refine Q27 ?_
 refine z02 ?_
 have ⟨b21,hb21,p2⟩:=bE p2
 refine vO ((zC (lq rfl) rfl).bool (oi hb21)) ?_
 refine q59 (.d fv3) ?_
 refine z8Y (.row 3000) ?_
 refine q59 (.d (di v9)) ?_
 have ⟨t25,ht25,p2⟩:=bE p2
 refine dat (.wp 3000 (v9.toNat*eI.size)) rfl (fun hb=>by subst hb;exact zFF (en:=eI) (l:=r3000) (lq rfl) yD rfl rfl rfl ht25) ?_
 refine dat (.d (di t25)) rfl (fun hb=>by subst hb;exact zI6 (en:=eI) (l:=r3000) (i:=v9) (v:=t25) (lq rfl) O3 rfl rfl ht25 rfl) ?_
 refine z8Y (.row 3000) ?_
 refine q59 (.d (di v9)) ?_
 refine z5F (.d (di (wi (v9 - 1)))) ?_
 have ⟨t30,ht30,p2⟩:=bE p2
 refine dat (.wp 3000 ((wi (v9 - 1)).toNat*eI.size)) rfl (fun hb=>by subst hb;exact zFF (en:=eI) (l:=r3000) (lq rfl) yD rfl rfl rfl ht30) ?_
 refine dat (.d (di t30)) rfl (fun hb=>by subst hb;exact zI6 (en:=eI) (l:=r3000) (i:=(wi (v9 - 1))) (v:=t30) (lq rfl) O3 rfl rfl ht30 rfl) ?_
 have ⟨t32,ht32,p2⟩:=bE p2
 refine dat (.d (di t32)) rfl (fun hb=>by subst hb;exact zE6 (lq rfl) rfl rfl (hf3 _ _ _ ht32)) ?_
 refine dat (.d (db (decide (t32 < 0)))) rfl (fun hb=>by subst hb;exact zMW (lq rfl) rfl rfl) ?_
 refine Q98 ?_
 refine z1 p2 (fun p2=>?_) (fun p2=>?_)
 refine Q8 ?_
 have ⟨t45,ht45,p2⟩:=bE p2
 have ⟨t49,ht49,p2⟩:=bE p2
 have ⟨t51,ht51,p2⟩:=bE p2
 have ⟨r3000_6x15,hr3000_6x15,p2⟩:=bE p2
 have ⟨t52,ht52,p2⟩:=bE p2
 have ⟨r3000_6x17,hr3000_6x17,p2⟩:=bE p2
 refine tl .normal ⟨[(0,.row 3000),(1,.d (di a1)),(2,.d (di a2)),(3,.d fv3),(8,.d (di v8)),(9,.d (di v9))],[(3000,.win 3 eI.size 0 (eI.all r3000_6x17))]⟩ ?_ ?_
 refine zD6 MX ?_
 refine z5W ?_
 refine xm 3 ?_
 refine zI7 (i:=4) rfl (lq rfl) rfl rfl rfl rfl rfl rfl ?_
 refine xm 5 ?_
 refine xm 6 ?_
 refine zI7 (i:=7) rfl (lq rfl) rfl rfl rfl rfl rfl rfl ?_
 refine xm 10 ?_
 refine xm 11 ?_
 refine xn [8,12] ?_
 refine zYR yD ht45 ?_ ?_
 refine xn [9,12] ?_
 refine q76 O3 ht45 ?_ ?_
 refine xn [12] ?_
 refine q17 yD ht49 ?_
 refine xn [13] ?_
 refine q30 O3 ht49 ?_
 refine xn [14] ?_
 refine q17 yD ht51 ?_
 refine xn [15] ?_
 refine q20 O3 ht51 hr3000_6x15 ?_
 refine xn [16] ?_
 refine q17 yD ht52 ?_
 refine xn [17] ?_
 refine q20 O3 ht52 hr3000_6x17 ?_
 exact ae
 refine q17 yD ht49 ?_
 refine xn [9,13] ?_
 refine q76 O3 ht45 ?_ ?_
 refine xn [13] ?_
 refine q30 O3 ht49 ?_
 refine xn [14] ?_
 refine q17 yD ht51 ?_
 refine xn [15] ?_
 refine q20 O3 ht51 hr3000_6x15 ?_
 refine xn [16] ?_
 refine q17 yD ht52 ?_
 refine xn [17] ?_
 refine q20 O3 ht52 hr3000_6x17 ?_
 exact ae
 refine q30 O3 ht49 ?_
 refine xn [9] ?_
 refine q30 O3 ht45 ?_
 refine xn [14] ?_
 refine q17 yD ht51 ?_
 refine xn [15] ?_
 refine q20 O3 ht51 hr3000_6x15 ?_
 refine xn [16] ?_
 refine q17 yD ht52 ?_
 refine xn [17] ?_
 refine q20 O3 ht52 hr3000_6x17 ?_
 exact ae
 refine q17 yD ht49 ?_
 refine xn [8,13] ?_
 refine zYR yD ht45 ?_ ?_
 refine xn [9,13] ?_
 refine q76 O3 ht45 ?_ ?_
 refine xn [13] ?_
 refine q30 O3 ht49 ?_
 refine xn [14] ?_
 refine q17 yD ht51 ?_
 refine xn [15] ?_
 refine q20 O3 ht51 hr3000_6x15 ?_
 refine xn [16] ?_
 refine q17 yD ht52 ?_
 refine xn [17] ?_
 refine q20 O3 ht52 hr3000_6x17 ?_
 exact ae
 refine q30 O3 ht49 ?_
 refine xn [9] ?_
 refine q30 O3 ht45 ?_
 refine xn [14] ?_
 refine q17 yD ht51 ?_
 refine xn [15] ?_
 refine q20 O3 ht51 hr3000_6x15 ?_
 refine xn [16] ?_
 refine q17 yD ht52 ?_
 refine xn [17] ?_
 refine q20 O3 ht52 hr3000_6x17 ?_
 exact ae
 refine q30 O3 ht49 ?_
 refine xn [8] ?_
 refine q17 yD ht45 ?_
 refine xn [9] ?_
 refine q30 O3 ht45 ?_
 refine xn [14] ?_
 refine q17 yD ht51 ?_
 refine xn [15] ?_
 refine q20 O3 ht51 hr3000_6x15 ?_
 refine xn [16] ?_
 refine q17 yD ht52 ?_
 refine xn [17] ?_
 refine q20 O3 ht52 hr3000_6x17 ?_
 exact ae
 refine Q7 ?_
 refine Q73 ?_
 cases p2
 exact wc
 refine zF ?_
 cases p2
 intro q;cases q
 exact zH (wc)
 refine Q11 ?_
 cases p1
 exact wc
 refine zF ?_
 cases p1
 intro q;cases q
 exact zH (wc)
 cases h
 exact ⟨rfl,⟨rfl,trivial⟩⟩
set_option maxHeartbeats 8000000 in
theorem vC {fv4:DV} {a0:(List Int)} {a1:Int} {a2:Int} {a3:Int} {a4:Int→Int→Option (Int)} (hf4:∀x0 x1 y,a4 x0 x1=some y→FnC Tryz.prog fv4 [(di x0),(di x1)] [(di y)]) {r:(List Int)} (h:kC a0 a1 a2 a3 a4=some r):GC Tryz.prog 159 [.row 3000,.d (di a1),.d (di a2),.d (di a3),.d fv4] [(3000,.win 3 eI.size 0 (eI.all a0))] [3000] [] [(3000,.win 3 eI.size 0 (eI.all r))]:=by
 refine zC7 Tryz.func159 (by kernel_rfl) rfl (lq rfl) (lq rfl) fun w0 I0 hG0 p0=>?_
 unfold kC at h
 refine Q14 ?_
 have ⟨y1,hy1,h⟩:=bE h
 refine tl (.exit 0) ⟨[(0,.row 3000)],[(3000,.win 3 eI.size 0 (eI.all y1))]⟩ ?_ ?_
 refine zD (fun x=>⟨[(0,.row 3000),(1,.d (di a1)),(2,.d (di a2)),(3,.d (di a3)),(10,.d (di x.1))],[(3000,.win 3 eI.size 0 (eI.all x.2))]⟩) hy1 (wc) ?_
 rintro ⟨v10,r3000⟩ sy1 p1
 replace p1:yO a3 a2 a1 v10 r3000=some sy1:=p1
 unfold yO at p1
 refine Q72 ?_
 refine z1 p1 (fun p1=>?_) (fun p1=>?_)
 refine Q8 ?_
 have ⟨t28,ht28,p1⟩:=bE p1
 have ⟨t34,ht34,p1⟩:=bE p1
 have ⟨t36,ht36,p1⟩:=bE p1
 have ⟨r3000_3x21,hr3000_3x21,p1⟩:=bE p1
 have ⟨t37,ht37,p1⟩:=bE p1
 have ⟨r3000_3x23,hr3000_3x23,p1⟩:=bE p1
 refine tl .normal ⟨[(0,.row 3000),(1,.d (di a1)),(2,.d (di a2)),(3,.d (di a3)),(10,.d (di v10))],[(3000,.win 3 eI.size 0 (eI.all r3000_3x23))]⟩ ?_ ?_
 refine zD6 MX ?_
 refine z5W ?_
 refine zK8 (i:=3) rfl (lq rfl) rfl rfl rfl rfl rfl rfl ?_
 refine xm 4 ?_
 refine xm 5 ?_
 refine xm 6 ?_
 refine zK8 (i:=7) rfl (lq rfl) rfl rfl rfl rfl rfl rfl ?_
 refine xm 8 ?_
 refine xm 9 ?_
 refine xm 10 ?_
 refine zK8 (i:=11) rfl (lq rfl) rfl rfl rfl rfl rfl rfl ?_
 refine xm 14 ?_
 refine xm 15 ?_
 refine xm 16 ?_
 refine zK8 (i:=17) rfl (lq rfl) rfl rfl rfl rfl rfl rfl ?_
 refine xn [12,18] ?_
 refine zYR yD ht28 ?_ ?_
 refine xn [13,18] ?_
 refine q76 O3 ht28 ?_ ?_
 refine xn [18] ?_
 refine q17 yD ht34 ?_
 refine xn [19] ?_
 refine q30 O3 ht34 ?_
 refine xn [20] ?_
 refine q17 yD ht36 ?_
 refine xn [21] ?_
 refine q20 O3 ht36 hr3000_3x21 ?_
 refine xn [22] ?_
 refine q17 yD ht37 ?_
 refine xn [23] ?_
 refine q20 O3 ht37 hr3000_3x23 ?_
 exact ae
 refine q17 yD ht34 ?_
 refine xn [13,19] ?_
 refine q76 O3 ht28 ?_ ?_
 refine xn [19] ?_
 refine q30 O3 ht34 ?_
 refine xn [20] ?_
 refine q17 yD ht36 ?_
 refine xn [21] ?_
 refine q20 O3 ht36 hr3000_3x21 ?_
 refine xn [22] ?_
 refine q17 yD ht37 ?_
 refine xn [23] ?_
 refine q20 O3 ht37 hr3000_3x23 ?_
 exact ae
 refine q30 O3 ht34 ?_
 refine xn [13] ?_
 refine q30 O3 ht28 ?_
 refine xn [20] ?_
 refine q17 yD ht36 ?_
 refine xn [21] ?_
 refine q20 O3 ht36 hr3000_3x21 ?_
 refine xn [22] ?_
 refine q17 yD ht37 ?_
 refine xn [23] ?_
 refine q20 O3 ht37 hr3000_3x23 ?_
 exact ae
 refine q17 yD ht34 ?_
 refine xn [12,19] ?_
 refine zYR yD ht28 ?_ ?_
 refine xn [13,19] ?_
 refine q76 O3 ht28 ?_ ?_
 refine xn [19] ?_
 refine q30 O3 ht34 ?_
 refine xn [20] ?_
 refine q17 yD ht36 ?_
 refine xn [21] ?_
 refine q20 O3 ht36 hr3000_3x21 ?_
 refine xn [22] ?_
 refine q17 yD ht37 ?_
 refine xn [23] ?_
 refine q20 O3 ht37 hr3000_3x23 ?_
 exact ae
 refine q30 O3 ht34 ?_
 refine xn [13] ?_
 refine q30 O3 ht28 ?_
 refine xn [20] ?_
 refine q17 yD ht36 ?_
 refine xn [21] ?_
 refine q20 O3 ht36 hr3000_3x21 ?_
 refine xn [22] ?_
 refine q17 yD ht37 ?_
 refine xn [23] ?_
 refine q20 O3 ht37 hr3000_3x23 ?_
 exact ae
 refine q30 O3 ht34 ?_
 refine xn [12] ?_
 refine q17 yD ht28 ?_
 refine xn [13] ?_
 refine q30 O3 ht28 ?_
 refine xn [20] ?_
 refine q17 yD ht36 ?_
 refine xn [21] ?_
 refine q20 O3 ht36 hr3000_3x21 ?_
 refine xn [22] ?_
 refine q17 yD ht37 ?_
 refine xn [23] ?_
 refine q20 O3 ht37 hr3000_3x23 ?_
 exact ae
 refine Q11 ?_
 cases p1
 exact wc
 refine zF ?_
 cases p1
 intro q;cases q
 exact zH (wc)
 cases h
 exact ⟨rfl,⟨rfl,trivial⟩⟩
theorem zG7 {fv4:DV} {a0:(List Int)} {a1:Int} {a2:Int} {a3:Int} {a4:Int→Int→Option (Int)} (hf4:∀x0 x1 y,a4 x0 x1=some y→FnC Tryz.prog fv4 [(di x0),(di x1)] [(di y)]) {r:(List Int)} (h:jL a0 a1 a2 a3 a4=some r):GC Tryz.prog 148 [.row 3000,.d (di a1),.d (di a2),.d (di a3),.d fv4] [(3000,.win 3 eI.size 0 (eI.all a0))] [3000] [] [(3000,.win 3 eI.size 0 (eI.all r))]:=by
 refine zC7 Tryz.func148 (by kernel_rfl) rfl (lq rfl) (lq rfl) fun w0 I0 hG0 p0=>?_
 unfold jL at h
 refine Q15 ?_
 refine Q73 ?_
 refine Q15 ?_
 refine q31 ?_
 refine Q76 ?_
 have ⟨y1,hy1,h⟩:=bE h
 refine tl (.exit 0) ⟨[(0,.row 3000),(2,.d (di a2)),(4,.d fv4),(10,.d (di y1.1))],[(3000,.win 3 eI.size 0 (eI.all y1.2))]⟩ ?_ ?_
 refine zD (fun x=>⟨[(0,.row 3000),(2,.d (di a2)),(4,.d fv4),(10,.d (di x.1)),(11,.d (di x.2.1))],[(3000,.win 3 eI.size 0 (eI.all x.2.2))]⟩) hy1 (wc) ?_
 rintro ⟨v10,v11,r3000⟩ sy1 p1
 replace p1:yG a2 a4 v10 v11 r3000=some sy1:=p1
 unfold yG at p1
 refine Q12 ?_
 refine Q33 ?_
 refine z1 p1 (fun p1=>?_) (fun p1=>?_)
 refine zL ?_
 have ⟨y2,hy2,p1⟩:=bE p1
 refine tl .normal ⟨[(0,.row 3000),(2,.d (di a2)),(4,.d fv4),(10,.d (di y2.1)),(11,.d (di y2.2.1))],[(3000,.win 3 eI.size 0 (eI.all y2.2.2))]⟩ ?_ ?_
 refine Q75 ?_
 refine Q54 ?_
 refine z1 hy2 (fun hy2=>?_) (fun hy2=>?_)
 refine Q86 ?_
 refine q31 ?_
 refine Q82 ?_
 refine q0 ?_
 have ⟨t31,ht31,hy2⟩:=bE hy2
 refine yF rfl (zCZ [(3000,3000)] (vC hf4 ht31) (lq rfl) (by decide) ⟨rfl,rfl,rfl,rfl,rfl,trivial⟩ rfl rfl ⟨rfl,trivial⟩ rfl rfl rfl rfl) ?_
 refine zK<|Q66 ?_
 refine Q73 ?_
 cases hy2
 exact zH (wc)
 refine Q86 ?_
 refine q31 ?_
 refine Q82 ?_
 refine q2 ?_
 refine q0 ?_
 refine q31 ?_
 refine Q82 ?_
 have ⟨t46,ht46,hy2⟩:=bE hy2
 refine yF rfl (zCZ [(3000,3000)] (vC hf4 ht46) (lq rfl) (by decide) ⟨rfl,rfl,rfl,rfl,rfl,trivial⟩ rfl rfl ⟨rfl,trivial⟩ rfl rfl rfl rfl) ?_
 refine zK<|Q66 ?_
 refine Q73 ?_
 cases hy2
 exact zH (wc)
 cases p1
 exact wc
 refine zF ?_
 cases p1
 intro q;cases q
 exact zH (wc)
 refine Q63 ?_
 refine q31 ?_
 refine Q82 ?_
 refine q0 ?_
 have ⟨t57,ht57,h⟩:=bE h
 refine yF rfl (zCZ [(3000,3000)] (vC hf4 ht57) (lq rfl) (by decide) ⟨rfl,rfl,rfl,rfl,rfl,trivial⟩ rfl rfl ⟨rfl,trivial⟩ rfl rfl rfl rfl) ?_
 refine zK ?_
 cases h
 exact ⟨rfl,⟨rfl,trivial⟩⟩
set_option maxHeartbeats 8000000 in
theorem zB2:∀(n:Nat) {fv4:DV} {a0:(List Int)} {a1:Int} {a2:Int} {a3:Int} {a4:Int→Int→Option (Int)} (hf4:∀x0 x1 y,a4 x0 x1=some y→FnC Tryz.prog fv4 [(di x0),(di x1)] [(di y)]) {r:(List Int)} (h:yX n a0 a1 a2 a3 a4=some r),GC Tryz.prog 143 [.row 3000,.d (di a1),.d (di a2),.d (di a3),.d fv4] [(3000,.win 3 eI.size 0 (eI.all a0))] [3000] [] [(3000,.win 3 eI.size 0 (eI.all r))]:=by
 intro n
 induction n with
 | zero=>intro fv4 a0 a1 a2 a3 a4 hf4 r h;cases h
 | succ n ih=>
 intro fv4 a0 a1 a2 a3 a4 hf4 r h
 replace h:yE (yX n) a0 a1 a2 a3 a4=some r:=h
 generalize yX n=rec at h ih
 refine zC7 Tryz.func143 (by kernel_rfl) rfl (lq rfl) (lq rfl) fun w0 I0 hG0 p0=>?_
 unfold yE at h
 refine Q12 ?_
 refine q31 ?_
 refine Q87 ?_
 refine z1 h (fun h=>?_) (fun h=>?_)
 refine Q2 ?_
 refine Q19 ?_
 refine Q76 ?_
 have ⟨y1,hy1,h⟩:=bE h
 refine tl (.exit 0) ⟨[(0,.row 3000),(1,.d (di a1)),(10,.d (di y1))],[(3000,.win 3 eI.size 0 (eI.all a0))]⟩ ?_ ?_
 refine zD (fun x=>⟨[(0,.row 3000),(1,.d (di a1)),(4,.d fv4),(10,.d (di x.1)),(11,.d (di x.2))],[(3000,.win 3 eI.size 0 (eI.all a0))]⟩) hy1 (wc) ?_
 rintro ⟨v10,v11⟩ sy1 p1
 replace p1:yR a0 a1 a4 v10 v11=some sy1:=p1
 unfold yR at p1
 refine Q72 ?_
 refine z1 p1 (fun p1=>?_) (fun p1=>?_)
 refine zL ?_
 have ⟨y2,hy2,p1⟩:=bE p1
 refine tl .normal ⟨[(0,.row 3000),(1,.d (di a1)),(4,.d fv4),(10,.d (di y2.1)),(11,.d (di y2.2))],[(3000,.win 3 eI.size 0 (eI.all a0))]⟩ ?_ ?_
 refine Q75 ?_
 refine z1M ?_
 refine Q16 ?_
 refine z3 MX rfl ?_
 refine q7 ?_
 refine zYY ?_
 have ⟨t43,ht43,hy2⟩:=bE hy2
 refine z5P yD ht43 ?_
 refine z5Q O3 ht43 ?_
 refine zYY ?_
 have ⟨t47,ht47,hy2⟩:=bE hy2
 refine z5P yD ht47 ?_
 refine z5Q O3 ht47 ?_
 have ⟨t49,ht49,hy2⟩:=bE hy2
 refine vO (zE6 (lq rfl) rfl rfl (hf4 _ _ _ ht49)) ?_
 refine z5N ?_
 refine xZ ?_
 refine z1 hy2 (fun hy2=>?_) (fun hy2=>?_)
 refine Q11 ?_
 cases hy2
 exact zH (wc)
 refine Q81 ?_
 cases hy2
 exact zH (wc)
 cases p1
 exact wc
 refine zF ?_
 cases p1
 intro q;cases q
 exact zH (wc)
 refine Q4 ?_
 refine Q1 ?_
 refine yY ?_
 have ⟨y3,hy3,h⟩:=bE h
 refine tl (.exit 2) ⟨[(0,.row 3000)],[(3000,.win 3 eI.size 0 (eI.all y3))]⟩ ?_ ?_
 refine zD (fun x=>⟨[(0,.row 3000),(10,.d (di y1)),(13,.d (di x.1))],[(3000,.win 3 eI.size 0 (eI.all x.2))]⟩) hy3 (wc) ?_
 rintro ⟨v13,r3000⟩ sy3 p3
 replace p3:yS y1 v13 r3000=some sy3:=p3
 unfold yS at p3
 refine Q12 ?_
 refine q31 ?_
 refine Q6 ?_
 refine z1 p3 (fun p3=>?_) (fun p3=>?_)
 refine Q8 ?_
 have ⟨t69,ht69,p3⟩:=bE p3
 have ⟨t73,ht73,p3⟩:=bE p3
 have ⟨t75,ht75,p3⟩:=bE p3
 have ⟨r3000_11x15,hr3000_11x15,p3⟩:=bE p3
 have ⟨t76,ht76,p3⟩:=bE p3
 have ⟨r3000_11x17,hr3000_11x17,p3⟩:=bE p3
 refine tl .normal ⟨[(0,.row 3000),(10,.d (di y1)),(13,.d (di v13))],[(3000,.win 3 eI.size 0 (eI.all r3000_11x17))]⟩ ?_ ?_
 refine zD6 MX ?_
 refine z5W ?_
 refine xm 3 ?_
 refine zK8 (i:=4) rfl (lq rfl) rfl rfl rfl rfl rfl rfl ?_
 refine xm 5 ?_
 refine xm 6 ?_
 refine zK8 (i:=7) rfl (lq rfl) rfl rfl rfl rfl rfl rfl ?_
 refine xm 10 ?_
 refine xm 11 ?_
 refine xn [8,12] ?_
 refine zYR yD ht69 ?_ ?_
 refine xn [9,12] ?_
 refine q76 O3 ht69 ?_ ?_
 refine xn [12] ?_
 refine q17 yD ht73 ?_
 refine xn [13] ?_
 refine q30 O3 ht73 ?_
 refine xn [14] ?_
 refine q17 yD ht75 ?_
 refine xn [15] ?_
 refine q20 O3 ht75 hr3000_11x15 ?_
 refine xn [16] ?_
 refine q17 yD ht76 ?_
 refine xn [17] ?_
 refine q20 O3 ht76 hr3000_11x17 ?_
 exact ae
 refine q17 yD ht73 ?_
 refine xn [9,13] ?_
 refine q76 O3 ht69 ?_ ?_
 refine xn [13] ?_
 refine q30 O3 ht73 ?_
 refine xn [14] ?_
 refine q17 yD ht75 ?_
 refine xn [15] ?_
 refine q20 O3 ht75 hr3000_11x15 ?_
 refine xn [16] ?_
 refine q17 yD ht76 ?_
 refine xn [17] ?_
 refine q20 O3 ht76 hr3000_11x17 ?_
 exact ae
 refine q30 O3 ht73 ?_
 refine xn [9] ?_
 refine q30 O3 ht69 ?_
 refine xn [14] ?_
 refine q17 yD ht75 ?_
 refine xn [15] ?_
 refine q20 O3 ht75 hr3000_11x15 ?_
 refine xn [16] ?_
 refine q17 yD ht76 ?_
 refine xn [17] ?_
 refine q20 O3 ht76 hr3000_11x17 ?_
 exact ae
 refine q17 yD ht73 ?_
 refine xn [8,13] ?_
 refine zYR yD ht69 ?_ ?_
 refine xn [9,13] ?_
 refine q76 O3 ht69 ?_ ?_
 refine xn [13] ?_
 refine q30 O3 ht73 ?_
 refine xn [14] ?_
 refine q17 yD ht75 ?_
 refine xn [15] ?_
 refine q20 O3 ht75 hr3000_11x15 ?_
 refine xn [16] ?_
 refine q17 yD ht76 ?_
 refine xn [17] ?_
 refine q20 O3 ht76 hr3000_11x17 ?_
 exact ae
 refine q30 O3 ht73 ?_
 refine xn [9] ?_
 refine q30 O3 ht69 ?_
 refine xn [14] ?_
 refine q17 yD ht75 ?_
 refine xn [15] ?_
 refine q20 O3 ht75 hr3000_11x15 ?_
 refine xn [16] ?_
 refine q17 yD ht76 ?_
 refine xn [17] ?_
 refine q20 O3 ht76 hr3000_11x17 ?_
 exact ae
 refine q30 O3 ht73 ?_
 refine xn [8] ?_
 refine q17 yD ht69 ?_
 refine xn [9] ?_
 refine q30 O3 ht69 ?_
 refine xn [14] ?_
 refine q17 yD ht75 ?_
 refine xn [15] ?_
 refine q20 O3 ht75 hr3000_11x15 ?_
 refine xn [16] ?_
 refine q17 yD ht76 ?_
 refine xn [17] ?_
 refine q20 O3 ht76 hr3000_11x17 ?_
 exact ae
 refine Q11 ?_
 cases p3
 exact wc
 refine zF ?_
 cases p3
 intro q;cases q
 exact zH (wc)
 cases h
 refine zB ?_
 exact ⟨rfl,⟨rfl,trivial⟩⟩
 refine zL<|Q12 ?_
 refine q31 ?_
 refine Q87 ?_
 refine z1 h (fun h=>?_) (fun h=>?_)
 refine Q2 ?_
 refine Q19 ?_
 refine Q76 ?_
 have ⟨y4,hy4,h⟩:=bE h
 refine tl (.exit 4) ⟨[(0,.row 3000),(2,.d (di a2)),(14,.d (di y4))],[(3000,.win 3 eI.size 0 (eI.all a0))]⟩ ?_ ?_
 refine zD (fun x=>⟨[(0,.row 3000),(2,.d (di a2)),(4,.d fv4),(14,.d (di x.1)),(15,.d (di x.2))],[(3000,.win 3 eI.size 0 (eI.all a0))]⟩) hy4 (wc) ?_
 rintro ⟨v14,v15⟩ sy4 p4
 replace p4:yT a0 a2 a4 v14 v15=some sy4:=p4
 unfold yT at p4
 refine Q72 ?_
 refine z1 p4 (fun p4=>?_) (fun p4=>?_)
 refine zL ?_
 have ⟨y5,hy5,p4⟩:=bE p4
 refine tl .normal ⟨[(0,.row 3000),(2,.d (di a2)),(4,.d fv4),(14,.d (di y5.1)),(15,.d (di y5.2))],[(3000,.win 3 eI.size 0 (eI.all a0))]⟩ ?_ ?_
 refine Q75 ?_
 refine z1M ?_
 refine Q16 ?_
 refine z3 MX rfl ?_
 refine q7 ?_
 refine zYY ?_
 have ⟨t95,ht95,hy5⟩:=bE hy5
 refine z5P yD ht95 ?_
 refine z5Q O3 ht95 ?_
 refine zYY ?_
 have ⟨t99,ht99,hy5⟩:=bE hy5
 refine z5P yD ht99 ?_
 refine z5Q O3 ht99 ?_
 have ⟨t101,ht101,hy5⟩:=bE hy5
 refine vO (zE6 (lq rfl) rfl rfl (hf4 _ _ _ ht101)) ?_
 refine z5N ?_
 refine yCZ ?_
 refine xZ ?_
 refine z1 hy5 (fun hy5=>?_) (fun hy5=>?_)
 refine Q11 ?_
 cases hy5
 exact zH (wc)
 refine Q81 ?_
 cases hy5
 exact zH (wc)
 cases p4
 exact wc
 refine zF ?_
 cases p4
 intro q;cases q
 exact zH (wc)
 refine Q4 ?_
 refine Q1 ?_
 refine yY ?_
 have ⟨y6,hy6,h⟩:=bE h
 refine tl (.exit 6) ⟨[(0,.row 3000)],[(3000,.win 3 eI.size 0 (eI.all y6))]⟩ ?_ ?_
 refine zD (fun x=>⟨[(0,.row 3000),(14,.d (di y4)),(17,.d (di x.1))],[(3000,.win 3 eI.size 0 (eI.all x.2))]⟩) hy6 (wc) ?_
 rintro ⟨v17,r3000⟩ sy6 p6
 replace p6:yU y4 v17 r3000=some sy6:=p6
 unfold yU at p6
 refine Q12 ?_
 refine Q54 ?_
 refine z1 p6 (fun p6=>?_) (fun p6=>?_)
 refine Q8 ?_
 have ⟨t121,ht121,p6⟩:=bE p6
 have ⟨t125,ht125,p6⟩:=bE p6
 have ⟨t127,ht127,p6⟩:=bE p6
 have ⟨r3000_23x15,hr3000_23x15,p6⟩:=bE p6
 have ⟨t128,ht128,p6⟩:=bE p6
 have ⟨r3000_23x17,hr3000_23x17,p6⟩:=bE p6
 refine tl .normal ⟨[(0,.row 3000),(14,.d (di y4)),(17,.d (di v17))],[(3000,.win 3 eI.size 0 (eI.all r3000_23x17))]⟩ ?_ ?_
 refine zD6 MX ?_
 refine z5W ?_
 refine xm 3 ?_
 refine zI7 (i:=4) rfl (lq rfl) rfl rfl rfl rfl rfl rfl ?_
 refine xm 5 ?_
 refine xm 6 ?_
 refine zI7 (i:=7) rfl (lq rfl) rfl rfl rfl rfl rfl rfl ?_
 refine xm 10 ?_
 refine xm 11 ?_
 refine xn [8,12] ?_
 refine zYR yD ht121 ?_ ?_
 refine xn [9,12] ?_
 refine q76 O3 ht121 ?_ ?_
 refine xn [12] ?_
 refine q17 yD ht125 ?_
 refine xn [13] ?_
 refine q30 O3 ht125 ?_
 refine xn [14] ?_
 refine q17 yD ht127 ?_
 refine xn [15] ?_
 refine q20 O3 ht127 hr3000_23x15 ?_
 refine xn [16] ?_
 refine q17 yD ht128 ?_
 refine xn [17] ?_
 refine q20 O3 ht128 hr3000_23x17 ?_
 exact ae
 refine q17 yD ht125 ?_
 refine xn [9,13] ?_
 refine q76 O3 ht121 ?_ ?_
 refine xn [13] ?_
 refine q30 O3 ht125 ?_
 refine xn [14] ?_
 refine q17 yD ht127 ?_
 refine xn [15] ?_
 refine q20 O3 ht127 hr3000_23x15 ?_
 refine xn [16] ?_
 refine q17 yD ht128 ?_
 refine xn [17] ?_
 refine q20 O3 ht128 hr3000_23x17 ?_
 exact ae
 refine q30 O3 ht125 ?_
 refine xn [9] ?_
 refine q30 O3 ht121 ?_
 refine xn [14] ?_
 refine q17 yD ht127 ?_
 refine xn [15] ?_
 refine q20 O3 ht127 hr3000_23x15 ?_
 refine xn [16] ?_
 refine q17 yD ht128 ?_
 refine xn [17] ?_
 refine q20 O3 ht128 hr3000_23x17 ?_
 exact ae
 refine q17 yD ht125 ?_
 refine xn [8,13] ?_
 refine zYR yD ht121 ?_ ?_
 refine xn [9,13] ?_
 refine q76 O3 ht121 ?_ ?_
 refine xn [13] ?_
 refine q30 O3 ht125 ?_
 refine xn [14] ?_
 refine q17 yD ht127 ?_
 refine xn [15] ?_
 refine q20 O3 ht127 hr3000_23x15 ?_
 refine xn [16] ?_
 refine q17 yD ht128 ?_
 refine xn [17] ?_
 refine q20 O3 ht128 hr3000_23x17 ?_
 exact ae
 refine q30 O3 ht125 ?_
 refine xn [9] ?_
 refine q30 O3 ht121 ?_
 refine xn [14] ?_
 refine q17 yD ht127 ?_
 refine xn [15] ?_
 refine q20 O3 ht127 hr3000_23x15 ?_
 refine xn [16] ?_
 refine q17 yD ht128 ?_
 refine xn [17] ?_
 refine q20 O3 ht128 hr3000_23x17 ?_
 exact ae
 refine q30 O3 ht125 ?_
 refine xn [8] ?_
 refine q17 yD ht121 ?_
 refine xn [9] ?_
 refine q30 O3 ht121 ?_
 refine xn [14] ?_
 refine q17 yD ht127 ?_
 refine xn [15] ?_
 refine q20 O3 ht127 hr3000_23x15 ?_
 refine xn [16] ?_
 refine q17 yD ht128 ?_
 refine xn [17] ?_
 refine q20 O3 ht128 hr3000_23x17 ?_
 exact ae
 refine Q7 ?_
 refine Q73 ?_
 cases p6
 exact wc
 refine zF ?_
 cases p6
 intro q;cases q
 exact zH (wc)
 cases h
 refine zB ?_
 exact ⟨rfl,⟨rfl,trivial⟩⟩
 refine zL<|Q15 ?_
 refine z1M ?_
 refine Q1 ?_
 refine Q15 ?_
 refine Q9 ?_
 refine Q0 ?_
 refine Q46 ?_
 refine Q12 ?_
 refine Q54 ?_
 have ⟨y7,hy7,h⟩:=bE h
 refine tl .normal ⟨[(0,.row 3000),(1,.d (di a1)),(2,.d (di a2)),(3,.d (di a3)),(4,.d fv4),(18,.d (di (wi ((wu (wi (a1+a3))) / 2 ^ 1)))),(19,.d (di (wi ((wi ((wu (wi (a1+a3))) / 2 ^ 1))+a2)))),(20,.d (di y7.1)),(21,.d (di y7.2))],[(3000,.win 3 eI.size 0 (eI.all a0))]⟩ ?_ ?_
 refine z1 hy7 (fun hy7=>?_) (fun hy7=>?_)
 refine Q15 ?_
 refine Q73 ?_
 refine Q81 ?_
 cases hy7
 exact zH (wc)
 refine Q35 ?_
 refine Q81 ?_
 cases hy7
 exact zH (wc)
 refine Q2 ?_
 refine q31 ?_
 refine Q76 ?_
 have ⟨y8,hy8,h⟩:=bE h
 refine tl (.exit 8) ⟨[(0,.row 3000),(1,.d (di a1)),(2,.d (di a2)),(3,.d (di a3)),(4,.d fv4),(18,.d (di (wi ((wu (wi (a1+a3))) / 2 ^ 1)))),(19,.d (di (wi ((wi ((wu (wi (a1+a3))) / 2 ^ 1))+a2)))),(20,.d (di y8))],[(3000,.win 3 eI.size 0 (eI.all a0))]⟩ ?_ ?_
 refine zD (fun x=>⟨[(0,.row 3000),(1,.d (di a1)),(2,.d (di a2)),(3,.d (di a3)),(4,.d fv4),(18,.d (di (wi ((wu (wi (a1+a3))) / 2 ^ 1)))),(19,.d (di (wi ((wi ((wu (wi (a1+a3))) / 2 ^ 1))+a2)))),(20,.d (di x.1)),(21,.d (di x.2)),(22,.d (di (wi ((wi ((wi ((wu (wi (a1+a3))) / 2 ^ 1))+a2)) - 1))))],[(3000,.win 3 eI.size 0 (eI.all a0))]⟩) hy8 (wc) ?_
 rintro ⟨v20,v21⟩ sy8 p8
 replace p8:yV a0 a1 a3 a2 a4 v20 v21=some sy8:=p8
 unfold yV at p8
 refine Q72 ?_
 refine z1 p8 (fun p8=>?_) (fun p8=>?_)
 refine zL ?_
 have ⟨y9,hy9,p8⟩:=bE p8
 refine tl .normal ⟨[(0,.row 3000),(1,.d (di a1)),(2,.d (di a2)),(3,.d (di a3)),(4,.d fv4),(18,.d (di (wi ((wu (wi (a1+a3))) / 2 ^ 1)))),(19,.d (di (wi ((wi ((wu (wi (a1+a3))) / 2 ^ 1))+a2)))),(20,.d (di y9.1)),(21,.d (di y9.2)),(22,.d (di (wi ((wi ((wi ((wu (wi (a1+a3))) / 2 ^ 1))+a2)) - 1))))],[(3000,.win 3 eI.size 0 (eI.all a0))]⟩ ?_ ?_
 refine Q75 ?_
 refine z1M ?_
 refine Q16 ?_
 refine z3 MX rfl ?_
 refine q7 ?_
 refine q88 ?_
 refine Q27 ?_
 refine zYQ ?_
 have ⟨t163,ht163,hy9⟩:=bE hy9
 refine z5P yD ht163 ?_
 refine z5Q O3 ht163 ?_
 refine zYY ?_
 have ⟨t167,ht167,hy9⟩:=bE hy9
 refine z5P yD ht167 ?_
 refine z5Q O3 ht167 ?_
 have ⟨t169,ht169,hy9⟩:=bE hy9
 refine vO (zE6 (lq rfl) rfl rfl (hf4 _ _ _ ht169)) ?_
 refine z5N ?_
 refine yCZ ?_
 refine xZ ?_
 refine z1 hy9 (fun hy9=>?_) (fun hy9=>?_)
 refine Q11 ?_
 cases hy9
 exact zH (wc)
 refine Q81 ?_
 cases hy9
 exact zH (wc)
 cases p8
 exact wc
 refine zF ?_
 cases p8
 intro q;cases q
 exact zH (wc)
 refine Q15 ?_
 refine Q73 ?_
 refine Q12 ?_
 refine q3 ?_
 have ⟨b181,hb181,h⟩:=bE h
 refine z9 ((zC (lq rfl) rfl).bool (oi hb181)) ?_
 refine q13 (.d (di a2)) ?_
 refine q13 (.d (di (wi ((wi ((wi ((wu (wi (a1+a3))) / 2 ^ 1))+a2)) - y8)))) ?_
 refine q73 (.d (db (decide (a2 < (wi ((wi ((wi ((wu (wi (a1+a3))) / 2 ^ 1))+a2)) - y8)))))) ?_
 refine Q36 ?_
 have ⟨y10,hy10,h⟩:=bE h
 refine tl .normal ⟨[(0,.row 3000),(1,.d (di a1)),(3,.d (di a3)),(4,.d fv4),(18,.d (di (wi ((wu (wi (a1+a3))) / 2 ^ 1)))),(20,.d (di y8)),(24,.d (di (wi ((wi ((wi ((wu (wi (a1+a3))) / 2 ^ 1))+a2)) - y8))))],[(3000,.win 3 eI.size 0 (eI.all y10))]⟩ ?_ ?_
 refine z1 hy10 (fun hy10=>?_) (fun hy10=>?_)
 refine Q63 ?_
 refine Q82 ?_
 have ⟨t191,ht191,hy10⟩:=bE hy10
 refine yF rfl (zCZ [(3000,3000)] (zG7 hf4 ht191) (lq rfl) (by decide) ⟨rfl,rfl,rfl,rfl,rfl,trivial⟩ rfl rfl ⟨rfl,trivial⟩ rfl rfl rfl rfl) ?_
 refine zK ?_
 cases hy10
 exact zH (wc)
 refine zL ?_
 cases hy10
 exact zH (wc)
 refine Q12 ?_
 refine q3 ?_
 have ⟨b195,hb195,h⟩:=bE h
 refine z9 ((zC (lq rfl) rfl).bool (oi hb195)) ?_
 refine q13 (.d (di y8)) ?_
 refine q13 (.d (di (wi ((wu (wi (a1+a3))) / 2 ^ 1)))) ?_
 refine q73 (.d (db (decide (y8 < (wi ((wu (wi (a1+a3))) / 2 ^ 1)))))) ?_
 refine Q36 ?_
 have ⟨y11,hy11,h⟩:=bE h
 refine tl .normal ⟨[(0,.row 3000),(3,.d (di a3)),(4,.d fv4),(18,.d (di (wi ((wu (wi (a1+a3))) / 2 ^ 1)))),(24,.d (di (wi ((wi ((wi ((wu (wi (a1+a3))) / 2 ^ 1))+a2)) - y8))))],[(3000,.win 3 eI.size 0 (eI.all y11))]⟩ ?_ ?_
 refine z1 hy11 (fun hy11=>?_) (fun hy11=>?_)
 refine Q63 ?_
 refine Q82 ?_
 have ⟨t205,ht205,hy11⟩:=bE hy11
 refine yF rfl (zCZ [(3000,3000)] (ih hf4 ht205) (lq rfl) (by decide) ⟨rfl,rfl,rfl,rfl,rfl,trivial⟩ rfl rfl ⟨rfl,trivial⟩ rfl rfl rfl rfl) ?_
 refine zK ?_
 cases hy11
 exact zH (wc)
 refine zL ?_
 cases hy11
 exact zH (wc)
 refine Q15 ?_
 refine q3 ?_
 have ⟨b209,hb209,h⟩:=bE h
 refine z9 ((zC (lq rfl) rfl).bool (oi hb209)) ?_
 refine q13 (.d (di (wi ((wi ((wi ((wu (wi (a1+a3))) / 2 ^ 1))+a2)) - y8)))) ?_
 refine q13 (.d (di a3)) ?_
 refine q73 (.d (db (decide ((wi ((wi ((wi ((wu (wi (a1+a3))) / 2 ^ 1))+a2)) - y8)) < a3)))) ?_
 refine Q36 ?_
 refine z1 h (fun h=>?_) (fun h=>?_)
 refine Q63 ?_
 refine Q82 ?_
 have ⟨t219,ht219,h⟩:=bE h
 refine yF rfl (zCZ [(3000,3000)] (ih hf4 ht219) (lq rfl) (by decide) ⟨rfl,rfl,rfl,rfl,rfl,trivial⟩ rfl rfl ⟨rfl,trivial⟩ rfl rfl rfl rfl) ?_
 refine zK ?_
 cases h
 exact ⟨rfl,⟨rfl,trivial⟩⟩
 refine zL ?_
 cases h
 exact ⟨rfl,⟨rfl,trivial⟩⟩
theorem zG8 {fv2:DV} {a0:(List Int)} {a1:Int} {a2:Int→Int→Option (Int)} (hf2:∀x0 x1 y,a2 x0 x1=some y→FnC Tryz.prog fv2 [(di x0),(di x1)] [(di y)]) {r:(List Int)} (h:wQ a0 a1 a2=some r):GC Tryz.prog 129 [.row 3000,.d (di a1),.d fv2] [(3000,.win 3 eI.size 0 (eI.all a0))] [3000] [] [(3000,.win 3 eI.size 0 (eI.all r))]:=by
 refine zC7 Tryz.func129 (by kernel_rfl) rfl (lq rfl) (lq rfl) fun w0 I0 hG0 p0=>?_
 unfold wQ at h
 refine Q59 ?_
 refine q1 ?_
 refine Q76 ?_
 have ⟨y1,hy1,h⟩:=bE h
 refine tl (.exit 0) ⟨[(0,.row 3000),(1,.d (di a1)),(2,.d fv2),(6,.d (di 20)),(7,.d (di y1.1))],[(3000,.win 3 eI.size 0 (eI.all y1.2))]⟩ ?_ ?_
 refine zD (fun x=>⟨[(0,.row 3000),(1,.d (di a1)),(2,.d fv2),(6,.d (di 20)),(7,.d (di x.1)),(8,.d (di x.2.1))],[(3000,.win 3 eI.size 0 (eI.all x.2.2))]⟩) hy1 (wc) ?_
 rintro ⟨v7,v8,r3000⟩ sy1 p1
 replace p1:z7 a1 a2 v7 v8 r3000=some sy1:=p1
 unfold z7 at p1
 refine Q12 ?_
 refine q70 ?_
 refine zK ?_
 refine z1 p1 (fun p1=>?_) (fun p1=>?_)
 refine zL<|yY<|z1K ?_
 have ⟨t18,ht18,p1⟩:=bE p1
 refine yF rfl (zCZ [(3000,3000)] (uW hf2 ht18) (lq rfl) (by decide) ⟨rfl,rfl,rfl,rfl,trivial⟩ rfl rfl ⟨rfl,trivial⟩ rfl rfl rfl rfl) ?_
 refine zK<|Q35 ?_
 refine Q66 ?_
 refine Q9 ?_
 cases p1
 exact wc
 refine zF ?_
 cases p1
 intro q;cases q
 exact zH (wc)
 refine z1K ?_
 have ⟨t27,ht27,h⟩:=bE h
 refine yF rfl (zCZ [(3000,3000)] (uW hf2 ht27) (lq rfl) (by decide) ⟨rfl,rfl,rfl,rfl,trivial⟩ rfl rfl ⟨rfl,trivial⟩ rfl rfl rfl rfl) ?_
 refine zK<|yY ?_
 have ⟨y2,hy2,h⟩:=bE h
 refine tl (.exit 2) ⟨[(0,.row 3000)],[(3000,.win 3 eI.size 0 (eI.all y2))]⟩ ?_ ?_
 refine zD (fun x=>⟨[(0,.row 3000),(1,.d (di a1)),(2,.d fv2),(6,.d (di x.1))],[(3000,.win 3 eI.size 0 (eI.all x.2))]⟩) hy2 (wc) ?_
 rintro ⟨v6,r3000⟩ sy2 p2
 replace p2:yH a1 a2 v6 r3000=some sy2:=p2
 unfold yH at p2
 refine Q72 ?_
 refine z1 p2 (fun p2=>?_) (fun p2=>?_)
 refine zL<|Q80 ?_
 refine z9 (z7P (lq rfl) rfl rfl) ?_
 refine q1 ?_
 refine Q76 ?_
 have ⟨y3,hy3,p2⟩:=bE p2
 refine tl (.exit 4) ⟨[(0,.row 3000),(1,.d (di a1)),(2,.d fv2),(6,.d (di v6)),(7,.d (di y3.1))],[(3000,.win 3 eI.size 0 (eI.all y3.2))]⟩ ?_ ?_
 refine zD (fun x=>⟨[(0,.row 3000),(1,.d (di a1)),(2,.d fv2),(6,.d (di v6)),(7,.d (di x.1)),(8,.d (di x.2.1))],[(3000,.win 3 eI.size 0 (eI.all x.2.2))]⟩) hy3 (wc) ?_
 rintro ⟨v7,v8,r3000⟩ sy3 p3
 replace p3:z8 a1 v6 a2 v7 v8 r3000=some sy3:=p3
 unfold z8 at p3
 refine Q12 ?_
 refine q70 ?_
 refine zK ?_
 refine z1 p3 (fun p3=>?_) (fun p3=>?_)
 refine zL<|yY<|z1K ?_
 refine q2 ?_
 refine Q82 ?_
 have ⟨t43,ht43,p3⟩:=bE p3
 refine yF rfl (zCZ [(3000,3000)] (zB2 _ hf2 ht43) (lq rfl) (by decide) ⟨rfl,rfl,rfl,rfl,rfl,trivial⟩ rfl rfl ⟨rfl,trivial⟩ rfl rfl rfl rfl) ?_
 refine zK<|Q35 ?_
 refine Q66 ?_
 refine z9 (z7P (lq rfl) rfl rfl) ?_
 refine Q9 ?_
 cases p3
 exact wc
 refine zF ?_
 cases p3
 intro q;cases q
 exact zH (wc)
 refine Q12 ?_
 refine Q9 ?_
 refine Q15 ?_
 refine Q6 ?_
 have ⟨y4,hy4,p2⟩:=bE p2
 refine tl .normal ⟨[(0,.row 3000),(1,.d (di a1)),(2,.d fv2),(6,.d (di v6))],[(3000,.win 3 eI.size 0 (eI.all y4))]⟩ ?_ ?_
 refine z1 hy4 (fun hy4=>?_) (fun hy4=>?_)
 refine Q63 ?_
 refine Q82 ?_
 have ⟨t60,ht60,hy4⟩:=bE hy4
 refine yF rfl (zCZ [(3000,3000)] (zB2 _ hf2 ht60) (lq rfl) (by decide) ⟨rfl,rfl,rfl,rfl,rfl,trivial⟩ rfl rfl ⟨rfl,trivial⟩ rfl rfl rfl rfl) ?_
 refine zK ?_
 cases hy4
 exact zH (wc)
 refine zL ?_
 cases hy4
 exact zH (wc)
 refine Q7 ?_
 refine z9 (z7P (lq rfl) rfl rfl) ?_
 refine Q1 ?_
 cases p2
 exact wc
 refine zF ?_
 cases p2
 intro q;cases q
 exact zH (wc)
 cases h
 exact ⟨rfl,⟨rfl,trivial⟩⟩
theorem zEJ {fv1:DV} {a0:(List Int)} {a1:Int→Int→Option (Int)} (hf1:∀x0 x1 y,a1 x0 x1=some y→FnC Tryz.prog fv1 [(di x0),(di x1)] [(di y)]) {r:(List Int)} (h:kH a0 a1=some r):GC Tryz.prog 107 [.row 3000,.d fv1] [(3000,.win 3 eI.size 0 (eI.all a0))] [3000] [] [(3000,.win 3 eI.size 0 (eI.all r))]:=by
 refine zC7 Tryz.func107 (by kernel_rfl) rfl (lq rfl) (lq rfl) fun w0 I0 hG0 p0=>?_
 unfold kH at h
 refine Q64 ?_
 refine q10 ?_
 refine yCY yD ?_
 refine q0 ?_
 have ⟨t8,ht8,h⟩:=bE h
 refine yF rfl (zCZ [(3000,3000)] (zG8 hf1 ht8) (lq rfl) (by decide) ⟨rfl,rfl,rfl,trivial⟩ rfl rfl ⟨rfl,trivial⟩ rfl rfl rfl rfl) ?_
 refine zK ?_
 cases h
 exact ⟨rfl,⟨rfl,trivial⟩⟩
theorem zJX {a0:List Span} {a1 r:List Int} (h:zAT a0 a1=some r):GC Tryz.prog 72 [.d (zS eSpan a0),.d (zS eI a1)] [] [] [.row 100] [(100,.row 3 eI.size false (eI.all r))]:=by
 unfold zAT at h
 have ⟨t8,ht8,h'⟩:=bE h;clear h
 have ⟨t10,ht10,h⟩:=bE h';clear h'
 have ⟨t13,ht13,h'⟩:=bE h;clear h
 refine zC7 Tryz.func72 (by kernel_rfl) rfl (lq rfl) (lq rfl) fun w0 I0 hG0 p0=>?_
 refine Q0 ?_
 refine yF rfl (z2E (lq rfl) rfl rfl rfl) ?_
 refine Q39 ?_
 refine q28 O22 ?_
 refine q8 (zHV ht8) ?_
 refine q60 O22 ?_
 refine zK ?_
 refine zO (z2 (t:=2) (lq rfl) rfl rfl rfl) ?_
 refine Q2 ?_
 refine yF rfl (zDV [(5,100)] (zJB ht10) (lq rfl) (by decide) ⟨rfl,trivial⟩ rfl rfl trivial rfl rfl rfl (fun _=>rfl) rfl) ?_
 refine z5I ?_
 refine q93 O33 ?_
 refine zVT ?_
 refine q92 O22 ?_
 refine q0 ?_
 refine q8 zJU ?_
 refine zK<|yY ?_
 refine zTY [(5,.ptr 5 0),(2,.d (.pt [zS eSpan t8])),(4,.d (.v (.slice none 0 0)))] [5] (fun k=>[(5,.box 33 [.row 100]),(100,.row 3 eI.size false (eI.all (outK (fun p=>kH p (fun x0 x1=>xY x0 x1 t8)) Range.Lo Range.Hi t10 (jQ (fun c=>kO t8 c==some 0) a1 0 (-1)) k)))]) rfl (zHW ht13) rfl (fun _ _ _ _ h=>h) ?hk ?hT rfl (fun _=>rfl) ?hbx (fun _ _=>rfl) ?hl ?hpn ?rd ?hK
 case hk=>exact ⟨rfl,rfl,rfl,trivial⟩
 case hT=>exact ⟨rfl,rfl,trivial⟩
 case hbx=>intro k id hi;simp at hi;subst hi;exact fun (h:Blk.box _ _=Blk.none)=>by cases h
 case hl=>intro x hx;obtain ⟨y,_,rfl⟩:=List.mem_map.1 hx;rfl
 case hpn=>intro p hp;simp at hp;subst hp;exact (lq rfl)
 case rd=>
  intro w1 Iall X C0 ρ0 defs l1 D lp1 lp2 hok k x hx
  rw [List.getElem?_map] at hx
  obtain ⟨v,hv,rfl⟩:=Option.map_eq_some_iff.1 hx
  have hst:=z48 h' hv
  obtain ⟨q0,q1,q2⟩:=z8A hst
  refine xG<|z04 ?_
  refine z1H ?_
  refine yY<|xG<|q28 O33 ?_
  refine q51 zH4 ?_
  refine q28 O3 ?_
  refine q51 zEB ?_
  refine q28 O3 ?_
  refine z9 (zYB (en:=eI) (lq rfl) yD rfl rfl rfl rfl q0 q1 q2) ?_
  refine z9 (zL8 (lq rfl) rfl) ?_
  refine yF rfl (yF9 (en:=eI) (lq rfl) rfl rfl rfl hst yJX (fun m m' hm=>zEJ (fun _ _ _ q=> .inl ⟨_,_,rfl,zNJ q⟩) hm) rfl) ?_
  refine zK ?_
  exact ⟨rfl,rfl,trivial⟩
 case hK=>
  rw [List.length_map,z79 h']
  refine Q0 ?_
  refine q28 O33 ?_
  refine Q13 ?_
  refine zB ?_
  exact ⟨⟨_,_,rfl,rfl,rfl⟩,rfl,trivial⟩
theorem zOK {a0 a1 a2 r} (h:xT a0 a1 a2=some r):zG Tryz.prog 33 [(eNorm.dv a0),(zS eI a1),(db a2)] [(zS eI r)]:=by
 refine co Tryz.func33 ?_;intro _ _ _ _
 unfold xT at h
 refine Q0 ?_
 refine q89 ?_
 refine Q39 ?_
 refine z9 ((kM (lq rfl) G28 rfl rfl rfl rfl).data rfl) ?_
 have ⟨t12,ht12,h⟩:=bE h
 refine q8 (zG6 ht12) ?_
 refine q16 G28 ?_
 refine Q52 ?_
 refine z9 ((kM (lq rfl) G28 rfl rfl rfl rfl).data rfl) ?_
 refine q0 ?_
 have ⟨t15,ht15,h⟩:=bE h
 refine yF rfl (zVI [(5,2515),(6,3015),(7,3515)] (zFU ht15) (lq rfl) (by decide) ⟨rfl,rfl,trivial⟩ rfl rfl trivial rfl rfl rfl (fun _=>rfl) rfl) ?_
 refine z83 ?_
 refine zK<|Q3 ?_
 refine zO (xC (t:=8) 1008 3 eI.size (lq rfl) (lq rfl) rfl rfl) ?_
 refine Q4 ?_
 refine Q94 ?_
 have ⟨y1,hy1,h⟩:=bE h
 refine tl (.exit 0) ⟨[(3,.ptr 3 0),(8,.row 1008)],[(3,.box 28 [.d (zS eSpan t12.Classes),.d (zS eMapping t12.Decomp),.d (zS eRange t12.Excluded.Ranges)]),(1008,.row 3 eI.size false (eI.all y1))]⟩ ?_ ?_
 refine zD (fun x=>⟨[(3,.ptr 3 0),(7,.clo 61 [.ptr 2515 0,.d (.pt (eNorm.cells ({Classes:=t12.Classes,Decomp:=t12.Decomp,Excluded:=({Ranges:=t12.Excluded.Ranges}:Set)}:Norm))),.d (.pt [(db a2)]),.ptr 3015 0]),(8,.row 1008),(16,.d (zS eI a1)),(17,.d (di (a1.length:Int))),(18,.d (di x.1))],[(3,.box 28 [.d (zS eSpan t12.Classes),.d (zS eMapping t12.Decomp),.d (zS eRange t12.Excluded.Ranges)]),(1008,.row 3 eI.size false (eI.all x.2.1)),(2515,.box 94 [.row 3515]),(3015,.box 69 [.clo 61 [.ptr 2515 0,.d (.pt (eNorm.cells ({Classes:=t12.Classes,Decomp:=t12.Decomp,Excluded:=({Ranges:=t12.Excluded.Ranges}:Set)}:Norm))),.d (.pt [(db a2)]),.ptr 3015 0]]),(3515,.map (wY kI (eL eI) x.2.2))]⟩) hy1 (wc) ?_
 rintro ⟨v18,r1008,r3515⟩ sy1 p1
 replace p1:jO a1 t12 a2 v18 r1008 r3515=some sy1:=p1
 unfold jO at p1
 refine Q22 ?_
 refine z1 p1 (fun p1=>?_) (fun p1=>?_)
 refine Q29 ?_
 have ⟨t20,ht20,p1⟩:=bE p1
 refine q11 yD ht20 ?_
 refine q35 O3 ht20 ?_
 refine Q1 ?_
 refine Q64 ?_
 refine z9 (zDW (lq rfl) rfl) ?_
 refine q0 ?_
 have ⟨t25,ht25,p1⟩:=bE p1
 refine yF rfl (zQB [(3001,2515),(3004,3015),(3120,3515)] (zEC _ ht25) (lq rfl) (by decide) rfl ⟨rfl,rfl,rfl,rfl,rfl,trivial⟩ rfl rfl ⟨rfl,rfl,rfl,trivial⟩ rfl rfl rfl (fun _=>rfl) rfl) ?_
 have ⟨r1008_2,hr1008_2,p1⟩:=bE p1
 refine yF rfl (yK (en:=eI) (l:=r1008) (m:=t25.1) (lq rfl) yD rfl rfl rfl hr1008_2 (by decide) (by decide) rfl rfl) ?_
 refine Q13 ?_
 refine Q24 ?_
 cases p1
 exact wc
 refine zF ?_
 cases p1
 intro q;cases q
 exact zH (wc)
 refine Q0 ?_
 refine q51 vZ ?_
 refine q28 O22 ?_
 refine q10 ?_
 refine zHK (zCL (t:=30) (lq rfl) rfl rfl) ?_ (by simp)
 have ⟨t31,ht31,h⟩:=bE h
 refine yF rfl (zDV [(100,2531)] (zJX ht31) (lq rfl) (by decide) ⟨rfl,rfl,trivial⟩ rfl rfl trivial rfl rfl rfl (fun _=>rfl) rfl) ?_
 refine Q13 ?_
 cases h
 refine zB ?_
 exact zI rfl
theorem zOL {a0} {a1} {a2} {r:(List Int)} (h:xT a0 a1 a2=some r):GC Tryz.prog 33 [.d (eNorm.dv a0),.d (zS eI a1),.d (db a2)] [] [] [.row 2531] [(2531,.row 3 eI.size false (eI.all r))]:=by
 refine zC7 Tryz.func33 (by kernel_rfl) rfl (lq rfl) (lq rfl) fun w0 I0 hG0 p0=>?_
 unfold xT at h
 refine Q0 ?_
 refine q89 ?_
 refine Q39 ?_
 refine z9 ((kM (lq rfl) G28 rfl rfl rfl rfl).data rfl) ?_
 have ⟨t12,ht12,h⟩:=bE h
 refine q8 (zG6 ht12) ?_
 refine q16 G28 ?_
 refine Q52 ?_
 refine z9 ((kM (lq rfl) G28 rfl rfl rfl rfl).data rfl) ?_
 refine q0 ?_
 have ⟨t15,ht15,h⟩:=bE h
 refine yF rfl (zVI [(5,2515),(6,3015),(7,3515)] (zFU ht15) (lq rfl) (by decide) ⟨rfl,rfl,trivial⟩ rfl rfl trivial rfl rfl rfl (fun _=>rfl) rfl) ?_
 refine z83 ?_
 refine zK<|Q3 ?_
 refine zO (xC (t:=8) 1008 3 eI.size (lq rfl) (lq rfl) rfl rfl) ?_
 refine Q4 ?_
 refine Q94 ?_
 have ⟨y1,hy1,h⟩:=bE h
 refine tl (.exit 0) ⟨[(3,.ptr 3 0),(8,.row 1008)],[(3,.box 28 [.d (zS eSpan t12.Classes),.d (zS eMapping t12.Decomp),.d (zS eRange t12.Excluded.Ranges)]),(1008,.row 3 eI.size false (eI.all y1))]⟩ ?_ ?_
 refine zD (fun x=>⟨[(3,.ptr 3 0),(7,.clo 61 [.ptr 2515 0,.d (.pt (eNorm.cells ({Classes:=t12.Classes,Decomp:=t12.Decomp,Excluded:=({Ranges:=t12.Excluded.Ranges}:Set)}:Norm))),.d (.pt [(db a2)]),.ptr 3015 0]),(8,.row 1008),(16,.d (zS eI a1)),(17,.d (di (a1.length:Int))),(18,.d (di x.1))],[(3,.box 28 [.d (zS eSpan t12.Classes),.d (zS eMapping t12.Decomp),.d (zS eRange t12.Excluded.Ranges)]),(1008,.row 3 eI.size false (eI.all x.2.1)),(2515,.box 94 [.row 3515]),(3015,.box 69 [.clo 61 [.ptr 2515 0,.d (.pt (eNorm.cells ({Classes:=t12.Classes,Decomp:=t12.Decomp,Excluded:=({Ranges:=t12.Excluded.Ranges}:Set)}:Norm))),.d (.pt [(db a2)]),.ptr 3015 0]]),(3515,.map (wY kI (eL eI) x.2.2))]⟩) hy1 (wc) ?_
 rintro ⟨v18,r1008,r3515⟩ sy1 p1
 replace p1:jO a1 t12 a2 v18 r1008 r3515=some sy1:=p1
 unfold jO at p1
 refine Q22 ?_
 refine z1 p1 (fun p1=>?_) (fun p1=>?_)
 refine Q29 ?_
 have ⟨t20,ht20,p1⟩:=bE p1
 refine q11 yD ht20 ?_
 refine q35 O3 ht20 ?_
 refine Q1 ?_
 refine Q64 ?_
 refine z9 (zDW (lq rfl) rfl) ?_
 refine q0 ?_
 have ⟨t25,ht25,p1⟩:=bE p1
 refine yF rfl (zQB [(3001,2515),(3004,3015),(3120,3515)] (zEC _ ht25) (lq rfl) (by decide) rfl ⟨rfl,rfl,rfl,rfl,rfl,trivial⟩ rfl rfl ⟨rfl,rfl,rfl,trivial⟩ rfl rfl rfl (fun _=>rfl) rfl) ?_
 have ⟨r1008_2,hr1008_2,p1⟩:=bE p1
 refine yF rfl (yK (en:=eI) (l:=r1008) (m:=t25.1) (lq rfl) yD rfl rfl rfl hr1008_2 (by decide) (by decide) rfl rfl) ?_
 refine Q13 ?_
 refine Q24 ?_
 cases p1
 exact wc
 refine zF ?_
 cases p1
 intro q;cases q
 exact zH (wc)
 refine Q0 ?_
 refine q51 vZ ?_
 refine q28 O22 ?_
 refine q10 ?_
 refine zHK (zCL (t:=30) (lq rfl) rfl rfl) ?_ (by simp)
 have ⟨t31,ht31,h⟩:=bE h
 refine yF rfl (zDV [(100,2531)] (zJX ht31) (lq rfl) (by decide) ⟨rfl,rfl,trivial⟩ rfl rfl trivial rfl rfl rfl (fun _=>rfl) rfl) ?_
 refine Q13 ?_
 cases h
 refine zB ?_
 exact ⟨⟨_,_,rfl,rfl,rfl⟩,⟨rfl,trivial⟩⟩
set_option maxHeartbeats 8000000 in
theorem zKX {a0 a1 a2 r} (h:uR a0 a1 a2=some r):zG Tryz.prog 12 [(eNorm.dv a0),(eCollation.dv a1),(zS eI a2)] [(zS eElement r)]:=by
 refine co Tryz.func12 ?_;intro _ _ _ _
 unfold uR at h
 refine z1B ?_
 refine Q16 ?_
 have ⟨t14,ht14,h⟩:=bE h
 have ⟨t16,ht16,h⟩:=bE h
 refine tl .normal ⟨[(2,.d (zS eI a2)),(3,.d (.pt (eNorm.cells a0))),(7,.ptr 2514 0)],[(2514,.box 108 [.d (zS eEntry t16.c.Entries),.d (zS eGroup t16.c.Groups),.d (di t16.c.Base),.d (di t16.c.Second),.d (di t16.c.Third),.row 3014,.d (di t16.longest),.d (zS eSpan t16.classes),.d (di t16.top)]),(3014,.map (wY zEO (eL eElement) t16.entries))]⟩ ?_ ?_
 refine zD6 MX ?_
 refine xn [0,2] ?_
 refine q94 G32 ?_ ?_
 refine xn [1,2] ?_
 refine xb rfl (zDV [(13,2514),(11,3014)] (zE0 ht14) (lq rfl) (by decide) ⟨rfl,trivial⟩ rfl rfl trivial rfl rfl rfl (fun _=>rfl) rfl) ?_ ?_
 refine xn [2] ?_
 refine q56 G28 ?_
 refine xn [3] ?_
 refine xd rfl (zDV [(3000,2514),(3105,3014)] (zBT ht16) (lq rfl) (by decide) ⟨rfl,rfl,trivial⟩ rfl rfl ⟨rfl,rfl,trivial⟩ rfl rfl rfl (fun _=>rfl) rfl) ?_
 refine xn [4] ?_
 refine xc rfl (zCX (lq rfl) rfl) ?_
 exact ae
 refine q56 G28 ?_
 refine xn [1] ?_
 refine xd rfl (zDV [(13,2514),(11,3014)] (zE0 ht14) (lq rfl) (by decide) ⟨rfl,trivial⟩ rfl rfl trivial rfl rfl rfl (fun _=>rfl) rfl) ?_
 refine xn [3] ?_
 refine xd rfl (zDV [(3000,2514),(3105,3014)] (zBT ht16) (lq rfl) (by decide) ⟨rfl,rfl,trivial⟩ rfl rfl ⟨rfl,rfl,trivial⟩ rfl rfl rfl (fun _=>rfl) rfl) ?_
 refine xn [4] ?_
 refine xc rfl (zCX (lq rfl) rfl) ?_
 exact ae
 refine q56 G28 ?_
 refine xn [0] ?_
 refine q56 G32 ?_
 refine xn [1] ?_
 refine xd rfl (zDV [(13,2514),(11,3014)] (zE0 ht14) (lq rfl) (by decide) ⟨rfl,trivial⟩ rfl rfl trivial rfl rfl rfl (fun _=>rfl) rfl) ?_
 refine xn [3] ?_
 refine xd rfl (zDV [(3000,2514),(3105,3014)] (zBT ht16) (lq rfl) (by decide) ⟨rfl,rfl,trivial⟩ rfl rfl ⟨rfl,rfl,trivial⟩ rfl rfl rfl (fun _=>rfl) rfl) ?_
 refine xn [4] ?_
 refine xc rfl (zCX (lq rfl) rfl) ?_
 exact ae
 refine zO (zVF (bid:=2514) (off:=5) rfl rfl rfl) ?_
 refine zO (z2 (t:=7) (lq rfl) rfl rfl rfl) ?_
 refine Q3 ?_
 refine zO (xC (t:=8) 1008 64 eElement.size (lq rfl) (lq rfl) rfl rfl) ?_
 refine Q31 ?_
 refine q21 G28 ?_
 refine q0 ?_
 have ⟨t19,ht19,h⟩:=bE h
 refine yF rfl (zDV [(2531,2519)] (zOL ht19) (lq rfl) (by decide) ⟨rfl,rfl,rfl,trivial⟩ rfl rfl trivial rfl rfl rfl (fun _=>rfl) rfl) ?_
 refine Q13 ?_
 refine zO (zVE (id:=2519) rfl) ?_
 refine yY ?_
 have ⟨y1,hy1,h⟩:=bE h
 refine tl (.exit 0) ⟨[(8,.row 1008)],[(1008,.row 64 eElement.size false (eElement.all y1))]⟩ ?_ ?_
 refine zD (fun x=>⟨[(7,.d (.pt (eColltable_table.cells t16))),(8,.row 1008),(9,.row 2519)],[(1008,.row 64 eElement.size false (eElement.all x.1)),(2519,.win 3 eI.size 0 (eI.all x.2))]⟩) hy1 (wc) ?_
 rintro ⟨r1008,r2519⟩ sy1 p1
 replace p1:jN t16 r1008 r2519=some sy1:=p1
 unfold jN at p1
 refine Q31 ?_
 refine q10 ?_
 refine yCY yD ?_
 refine Q54 ?_
 refine z1 p1 (fun p1=>?_) (fun p1=>?_)
 refine zL<|Q80 ?_
 refine q10 ?_
 have ⟨t26,ht26,p1⟩:=bE p1
 refine yF rfl (zDV [(3001,2519)] (zIP ht26) (lq rfl) (by decide) ⟨rfl,rfl,trivial⟩ rfl rfl ⟨rfl,trivial⟩ rfl rfl rfl (fun _=>rfl) rfl) ?_
 refine z9 (zO7 (lq rfl) rfl) ?_
 refine z82 ?_
 refine z82 ?_
 refine z82 ?_
 refine q1 ?_
 refine q1 ?_
 refine Q39 ?_
 refine Q18 ?_
 have ⟨r1008_2,hr1008_2,p1⟩:=bE p1
 refine yF rfl (yK (en:=eElement) (l:=r1008) (m:=t26.2.1) (lq rfl) S39 rfl rfl rfl hr1008_2 (by decide) (by decide) rfl rfl) ?_
 refine Q13 ?_
 refine zVV ?_
 have ⟨r2519_3,hr2519_3,p1⟩:=bE p1
 refine yF rfl (z74 (en:=eI) (l:=t26.2.2.2) (lq rfl) yD rfl rfl rfl hr2519_3 (Nat.le_refl _) rfl) ?_
 refine Q13 ?_
 cases p1
 exact wc
 refine zF ?_
 cases p1
 intro q;cases q
 exact zH (wc)
 refine Q61 ?_
 cases h
 refine zB ?_
 exact zI rfl
theorem zS4 {a0 r} (h:zFR a0=some r):zG Tryz.prog 35 [(eNorm.dv a0)] [(db r)]:=by
 refine co Tryz.func35 ?_;intro _ _ _ _
 unfold zFR at h
 refine Q40 ?_
 refine Q53 ?_
 refine q5 vZ ?_
 refine q6 O22 ?_
 refine q4 S22 ?_
 refine q37 ?_
 have ⟨b8,hb8,h⟩:=bE h
 refine z9 ((zC (lq rfl) rfl).bool (oi hb8)) ?_
 refine q25 (.ip (eNorm.cells a0) (0+1)) zPC ?_
 refine q26 (.d (zS eMapping a0.Decomp)) O23 ?_
 refine q64 (.d (di (a0.Decomp.length:Int))) S23 ?_
 refine q43 (.d (db (decide (40 < (a0.Decomp.length:Int))))) ?_
 refine q18 ?_
 have ⟨b14,hb14,h⟩:=bE h
 refine z9 ((zC (lq rfl) rfl).bool (oi hb14)) ?_
 refine q25 (.ip (eNorm.cells a0) (0+2)) z8F ?_
 refine z8O (.ip (eNorm.cells a0) (0+2+0)) zHS ?_
 refine q26 (.d (zS eRange a0.Excluded.Ranges)) O24 ?_
 refine q64 (.d (di (a0.Excluded.Ranges.length:Int))) S24 ?_
 refine q43 (.d (db (decide (12 < (a0.Excluded.Ranges.length:Int))))) ?_
 refine Q37 ?_
 refine z1 h (fun h=>?_) (fun h=>?_)
 refine Q3 ?_
 cases h
 refine zB ?_
 exact zI rfl
 refine Q93 ?_
 have ⟨y1,hy1,h⟩:=bE h
 refine zR y1 (.exit 0) (fun y1=>⟨[],[]⟩) .ret (fun y1=>⟨[(2,.d (db y1))],[]⟩) ?_ ?_ ?_
 refine zD (fun x=>⟨[(1,.d (.pt (eNorm.cells a0))),(3,.d (di x))],[]⟩) hy1 (wc) ?_
 rintro v3 sy1 p1
 replace p1:vB a0 v3=some sy1:=p1
 unfold vB at p1
 refine Q4 ?_
 refine Q89 ?_
 refine Q55 ?_
 refine z1 p1 (fun p1=>?_) (fun p1=>?_)
 refine Q29 ?_
 refine Q89 ?_
 refine q0 ?_
 have ⟨t31,ht31,p1⟩:=bE p1
 refine q11 S23 ht31 ?_
 refine q46 zCW ?_
 refine q84 O33 ht31 ?_
 refine q4 yD ?_
 refine q37 ?_
 have ⟨b36,hb36,p1⟩:=bE p1
 refine z9 ((zC (lq rfl) rfl).bool (oi hb36)) ?_
 refine q25 (.ip (eNorm.cells a0) (0+1)) zPC ?_
 refine q26 (.d (zS eMapping a0.Decomp)) O23 ?_
 refine q38 (.d (di v3)) ?_
 have ⟨t40,ht40,p1⟩:=bE p1
 refine sqf (.ip (eMapping.all a0.Decomp) (v3.toNat*eMapping.size)) rfl (fun hb=>by subst hb;exact kN (en:=eMapping) (lq rfl) S23 rfl rfl ht40) ?_
 refine z8O (.ip (eMapping.all a0.Decomp) (v3.toNat*eMapping.size+2)) zBO ?_
 refine sqf (.d (ds t40.Tag)) rfl (fun hb=>by subst hb;exact zZ (en:=eMapping) (l:=a0.Decomp) (i:=v3) (v:=t40) (off:=2) (lq rfl) O9 rfl ht40 rfl) ?_
 refine sqf (.d (di (t40.Tag.length:Int))) rfl (fun hb=>by subst hb;exact zQ9 (s:=t40.Tag) (lq rfl) Tryz.underlying9 rfl) ?_
 refine q43 (.d (db (decide (40 < (t40.Tag.length:Int))))) ?_
 refine Q37 ?_
 refine z1 p1 (fun p1=>?_) (fun p1=>?_)
 refine Q17 ?_
 cases p1
 intro q;cases q
 exact ⟨rfl,wc⟩
 refine Q28 ?_
 cases p1
 exact wc
 refine zF ?_
 cases p1
 intro q;cases q
 exact ⟨rfl,wc⟩
 rintro y1 rfl
 replace h:=eL h
 refine Q3 ?_
 cases h
 refine zB ?_
 exact zI rfl
 rintro y1 rfl
 replace h:=eR h
 cases h
 exact zI rfl
theorem zJ3 {a0 r} (h:vU a0=some r):zG Tryz.prog 76 [(zS eElement a0)] [(db r)]:=by
 refine co Tryz.func76 ?_;intro _ _ _ _
 unfold vU at h
 refine Q59 ?_
 refine q4 S39 ?_
 refine q70 ?_
 refine Q1 ?_
 cases h
 refine zB ?_
 exact zI rfl
theorem zY1 {a0 r} (h:zIH a0=some r):zG Tryz.prog 36 [(eCollation.dv a0)] [(db r)]:=by
 refine co Tryz.func36 ?_;intro _ _ _ _
 unfold zIH at h
 refine Q84 ?_
 refine Q53 ?_
 refine z88 ?_
 refine q37 ?_
 have ⟨b9,hb9,h⟩:=bE h
 refine z9 ((zC (lq rfl) rfl).bool (oi hb9)) ?_
 refine q25 (.ip (eCollation.cells a0) (0+1)) z8G ?_
 refine q26 (.d (zS eGroup a0.Groups)) O30 ?_
 refine q64 (.d (di (a0.Groups.length:Int))) S30 ?_
 refine q43 (.d (db (decide (8 < (a0.Groups.length:Int))))) ?_
 refine Q37 ?_
 refine z1 h (fun h=>?_) (fun h=>?_)
 refine Q3 ?_
 cases h
 refine zB ?_
 exact zI rfl
 refine Q93 ?_
 have ⟨y1,hy1,h⟩:=bE h
 refine zR y1 (.exit 0) (fun y1=>⟨[(1,.d (.pt (eCollation.cells a0)))],[]⟩) .ret (fun y1=>⟨[(2,.d (db y1))],[]⟩) ?_ ?_ ?_
 refine zD (fun x=>⟨[(1,.d (.pt (eCollation.cells a0))),(3,.d (di x))],[]⟩) hy1 (wc) ?_
 rintro v3 sy1 p1
 replace p1:zAO a0 v3=some sy1:=p1
 unfold zAO at p1
 refine Q4 ?_
 refine z88 ?_
 refine Q6 ?_
 refine z1 p1 (fun p1=>?_) (fun p1=>?_)
 refine Q29 ?_
 refine Q70 ?_
 refine q0 ?_
 have ⟨t25,ht25,p1⟩:=bE p1
 refine q11 S29 ht25 ?_
 refine q46 zG1 ?_
 refine yIQ O33 ht25 ?_
 refine q4 yD ?_
 refine q37 ?_
 have ⟨b30,hb30,p1⟩:=bE p1
 refine z9 ((zC (lq rfl) rfl).bool (oi hb30)) ?_
 refine q25 (.ip (eCollation.cells a0) (0+0)) zYI ?_
 refine q26 (.d (zS eEntry a0.Entries)) O29 ?_
 refine q38 (.d (di v3)) ?_
 have ⟨t34,ht34,p1⟩:=bE p1
 refine sqf (.ip (eEntry.all a0.Entries) (v3.toNat*eEntry.size)) rfl (fun hb=>by subst hb;exact kN (en:=eEntry) (lq rfl) S29 rfl rfl ht34) ?_
 refine z8O (.ip (eEntry.all a0.Entries) (v3.toNat*eEntry.size+1)) zKU ?_
 refine sqf (.d (zS eElement t34.Elements)) rfl (fun hb=>by subst hb;exact zZ (en:=eEntry) (l:=a0.Entries) (i:=v3) (v:=t34) (off:=1) (lq rfl) O39 rfl ht34 rfl) ?_
 have ⟨t37,ht37,p1⟩:=bE p1
 refine sqf (.d (db t37)) rfl (fun hb=>by subst hb;exact wD (lq rfl) rfl (zJ3 ht37)) ?_
 refine z03 (.d (db (!t37))) ?_
 refine Q37 ?_
 refine z1 p1 (fun p1=>?_) (fun p1=>?_)
 refine Q17 ?_
 cases p1
 intro q;cases q
 exact ⟨rfl,wc⟩
 refine Q28 ?_
 cases p1
 exact wc
 refine zF ?_
 cases p1
 intro q;cases q
 exact ⟨rfl,wc⟩
 rintro y1 rfl
 replace h:=eL h
 refine Q32 ?_
 have ⟨y2,hy2,h⟩:=bE h
 refine zR y2 (.exit 2) (fun y2=>⟨[],[]⟩) .ret (fun y2=>⟨[(2,.d (db y2))],[]⟩) ?_ ?_ ?_
 refine zD (fun x=>⟨[(1,.d (.pt (eCollation.cells a0))),(4,.d (di x))],[]⟩) hy2 (wc) ?_
 rintro v4 sy2 p2
 replace p2:zBS a0 v4=some sy2:=p2
 unfold zBS at p2
 refine Q4 ?_
 refine z1D ?_
 refine q4 S30 ?_
 refine Q6 ?_
 refine z1 p2 (fun p2=>?_) (fun p2=>?_)
 refine Q29 ?_
 refine z1D ?_
 refine q0 ?_
 have ⟨t50,ht50,p2⟩:=bE p2
 refine q11 S30 ht50 ?_
 refine q46 zMD ?_
 refine z9 (zZ (en:=eGroup) (l:=a0.Groups) (i:=v4) (v:=t50) (off:=0) (lq rfl) O9 rfl ht50 rfl) ?_
 refine z8Q Tryz.underlying9 ?_
 refine Q54 ?_
 refine z1 p2 (fun p2=>?_) (fun p2=>?_)
 refine Q17 ?_
 cases p2
 intro q;cases q
 exact ⟨rfl,wc⟩
 refine Q28 ?_
 cases p2
 exact wc
 refine zF ?_
 cases p2
 intro q;cases q
 exact ⟨rfl,wc⟩
 rintro y2 rfl
 replace h:=eL h
 refine Q3 ?_
 cases h
 refine zB ?_
 exact zI rfl
 rintro y2 rfl
 replace h:=eR h
 cases h
 exact zI rfl
 rintro y1 rfl
 replace h:=eR h
 cases h
 exact zI rfl
theorem zS5 {a0 r} (h:zFS a0=some r):zG Tryz.prog 14 [(eUnicodetextlaw44_Data.dv a0)] [(db r)]:=by
 refine co Tryz.func14 ?_;intro _ _ _ _
 unfold zFS at h
 refine Q0 ?_
 refine z9 (zM3 (size:=12) (lq rfl) rfl rfl) ?_
 refine Q39 ?_
 refine q5 zYK ?_
 refine q96 G28 ?_
 have ⟨t5,ht5,h⟩:=bE h
 refine q8 (zS4 ht5) ?_
 have ⟨b6,hb6,h⟩:=bE h
 refine z9 ((zC (lq rfl) rfl).bool (oi hb6)) ?_
 refine q54 (.ip (eUnicodetextlaw44_Data.cells a0) (0+3)) zYL ?_
 refine sqt (.d (eCollation.dv a0.Collation)) rfl (fun hb=>by subst hb;exact zIW (lq rfl) G32 rfl rfl rfl) ?_
 have ⟨t9,ht9,h⟩:=bE h
 refine sqt (.d (db t9)) rfl (fun hb=>by subst hb;exact wD (lq rfl) rfl (zY1 ht9)) ?_
 refine Q41 ?_
 cases h
 refine zB ?_
 exact zI rfl
theorem zF2 {a0 r} (h:wP a0=some r):zG Tryz.prog 39 [(eOptions.dv a0)] [(di r)]:=by
 refine co Tryz.func39 ?_;intro _ _ _ _
 unfold wP at h
 refine z1F ?_
 refine Q53 ?_
 refine q5 zPD ?_
 refine z1E ?_
 have ⟨b6,hb6,h⟩:=bE h
 refine z9 ((zC (lq rfl) rfl).bool (oi hb6)) ?_
 refine q25 (.ip (eOptions.cells a0) (0+0)) zPD ?_
 refine q26 (.d (di a0.Strength)) O3 ?_
 refine q43 (.d (db (decide (4 < a0.Strength)))) ?_
 refine Q37 ?_
 refine z1 h (fun h=>?_) (fun h=>?_)
 refine Q3 ?_
 cases h
 refine zB ?_
 exact zI rfl
 refine Q71 ?_
 refine q5 zYJ ?_
 refine q6 O3 ?_
 refine zK<|yY<|Q31 ?_
 refine Q88 ?_
 have ⟨y1,hy1,h⟩:=bE h
 refine tl .normal ⟨[(13,.d (db y1))],[]⟩ ?_ ?_
 refine z1 hy1 (fun hy1=>?_) (fun hy1=>?_)
 refine zL ?_
 cases hy1
 exact zH (wc)
 refine Q0 ?_
 refine Q88 ?_
 refine z1 hy1 (fun hy1=>?_) (fun hy1=>?_)
 refine zL ?_
 cases hy1
 exact zH (wc)
 refine xG<|Q88 ?_
 cases hy1
 exact zH (wc)
 refine z1 h (fun h=>?_) (fun h=>?_)
 refine Q3 ?_
 cases h
 refine zB ?_
 exact zI rfl
 refine Q58 ?_
 cases h
 refine zB ?_
 exact zI rfl
theorem zF5 {a0 r} (h:vG a0=some r):zG Tryz.prog 43 [(eOptions.dv a0)] [(eOptions.dv r)]:=by
 refine co Tryz.func43 ?_;intro _ _ _ _
 unfold vG at h
 refine z1F ?_
 refine yF rfl (yP (zs:=[(.int IntKind.i64 (0)),(.int IntKind.i64 (0)),(.bool false),(.bool false)]) (lq rfl) (by kernel_rfl) rfl rfl) ?_
 refine zVT ?_
 refine q21 G49 ?_
 have ⟨t4,ht4,h⟩:=bE h
 refine q8 (zF2 ht4) ?_
 refine Q33 ?_
 refine z1 h (fun h=>?_) (fun h=>?_)
 refine Q0 ?_
 refine q48 B49 ?_
 refine z1O ?_
 cases h
 refine zB ?_
 exact xJ rfl rfl G49 rfl
 refine Q50 ?_
 refine q21 G49 ?_
 refine z1O ?_
 cases h
 refine zB ?_
 exact xJ rfl rfl G49 rfl
theorem zJ4 {a0} {a1} {a2} {r:A4Int×Bool} (h:vT a0 a1 a2=some r):GC Tryz.prog 112 [.d (eElement.dv a0),.d (.pt [(di a1)]),.ptr 3002 0] [(3002,.box 4 [.d (db a2)])] [3002] [.d (eA4Int.dv r.1)] [(3002,.box 4 [.d (db r.2)])]:=by
 refine zC7 Tryz.func112 (by kernel_rfl) rfl (lq rfl) (lq rfl) fun w0 I0 hG0 p0=>?_
 unfold vT at h
 refine z1F ?_
 refine yF rfl (yP (zs:=[(.int IntKind.i64 (0)),(.int IntKind.i64 (0)),(.int IntKind.i64 (0)),(.int IntKind.i64 (0))]) (lq rfl) (by kernel_rfl) rfl rfl) ?_
 refine Q52 ?_
 refine Q85 ?_
 refine q5 zM9 ?_
 refine q6 O3 ?_
 refine q5 zNA ?_
 refine q6 O3 ?_
 refine q78 zJ0 ?_
 refine yF rfl (yP (zs:=[(.int IntKind.i64 (0)),(.int IntKind.i64 (0)),(.int IntKind.i64 (0)),(.int IntKind.i64 (0))]) (lq rfl) (by kernel_rfl) rfl rfl) ?_
 refine q16 zOE ?_
 refine zVT ?_
 refine z9 ((kM (lq rfl) zOE rfl rfl rfl rfl).data rfl) ?_
 refine q78 zJ0 ?_
 refine z9 (zVC (en:=eA4Int) (a:=({x0:=({x0:=a0.Primary,x1:=a0.Secondary,x2:=a0.Tertiary,x3:=0}:A4Int).x0,x1:=({x0:=a0.Primary,x1:=a0.Secondary,x2:=a0.Tertiary,x3:=0}:A4Int).x1,x2:=({x0:=a0.Primary,x1:=a0.Secondary,x2:=a0.Tertiary,x3:=0}:A4Int).x2,x3:=({x0:=a0.Primary,x1:=a0.Secondary,x2:=a0.Tertiary,x3:=0}:A4Int).x3}:A4Int)) (b:=({x0:=0,x1:=0,x2:=0,x3:=0}:A4Int)) (lq rfl) yJ8 rfl rfl) ?_
 refine zK ?_
 have ⟨y1,hy1,h⟩:=bE h
 refine tl .normal ⟨[(1,.d (.pt [(di a1)])),(2,.ptr 3002 0),(3,.d (.pt (eElement.cells a0))),(4,.ptr 4 0),(5,.ptr 5 0)],[(4,.box 121 [.d (di 0),.d (di 0),.d (di 0),.d (di 0)]),(5,.box 121 [.d (di (({x0:=a0.Primary,x1:=a0.Secondary,x2:=a0.Tertiary,x3:=0}:A4Int).x0)),.d (di (({x0:=a0.Primary,x1:=a0.Secondary,x2:=a0.Tertiary,x3:=0}:A4Int).x1)),.d (di (({x0:=a0.Primary,x1:=a0.Secondary,x2:=a0.Tertiary,x3:=0}:A4Int).x2)),.d (di y1)]),(3002,.box 4 [.d (db a2)])]⟩ ?_ ?_
 refine z1 hy1 (fun hy1=>?_) (fun hy1=>?_)
 refine xG<|q65 zJ0 ?_
 refine zYX ?_
 cases hy1
 exact zH (wc)
 refine zL ?_
 cases hy1
 exact zH (wc)
 refine Q31 ?_
 refine q92 O3 ?_
 refine Q87 ?_
 refine z1 h (fun h=>?_) (fun h=>?_)
 refine Q0 ?_
 refine z9 ((kM (lq rfl) zOE rfl rfl rfl rfl).data rfl) ?_
 refine q16 zOE ?_
 refine zK ?_
 cases h
 refine zB ?_
 exact ⟨⟨_,_,_,_,_,rfl,rfl,rfl,.inr ⟨_,zOE,rfl,rfl⟩,rfl⟩,⟨rfl,trivial⟩⟩
 refine Q71 ?_
 refine q5 zUI ?_
 refine q6 O4 ?_
 refine zK ?_
 have ⟨y2,hy2,h⟩:=bE h
 refine tl .normal ⟨[(1,.d (.pt [(di a1)])),(2,.ptr 3002 0),(4,.ptr 4 0),(5,.ptr 5 0)],[(4,.box 121 [.d (di 0),.d (di 0),.d (di 0),.d (di 0)]),(5,.box 121 [.d (di y2.1),.d (di y2.2.1),.d (di y2.2.2.1),.d (di y2.2.2.2.1)]),(3002,.box 4 [.d (db y2.2.2.2.2)])]⟩ ?_ ?_
 refine z1 hy2 (fun hy2=>?_) (fun hy2=>?_)
 refine Q0 ?_
 refine q60 O4 ?_
 refine zK<|xG<|Q85 ?_
 refine q78 zJ0 ?_
 refine q16 zOE ?_
 refine zK ?_
 cases hy2
 exact zH (wc)
 refine Q0 ?_
 refine Q85 ?_
 refine Q33 ?_
 refine z1 hy2 (fun hy2=>?_) (fun hy2=>?_)
 refine xG<|q60 O4 ?_
 refine zK ?_
 cases hy2
 exact zH (wc)
 refine Q0 ?_
 refine q28 O4 ?_
 refine zK ?_
 refine z1 hy2 (fun hy2=>?_) (fun hy2=>?_)
 refine xG<|q78 zJ0 ?_
 refine q16 zOE ?_
 refine zK ?_
 cases hy2
 exact zH (wc)
 refine zL ?_
 cases hy2
 exact zH (wc)
 refine Q31 ?_
 refine q92 O3 ?_
 refine Q87 ?_
 have ⟨y3,hy3,h⟩:=bE h
 refine tl .normal ⟨[(2,.ptr 3002 0),(4,.ptr 4 0),(5,.ptr 5 0)],[(4,.box 121 [.d (di 0),.d (di 0),.d (di 0),.d (di 0)]),(5,.box 121 [.d (di y2.1),.d (di y2.2.1),.d (di y2.2.2.1),.d (di y3)]),(3002,.box 4 [.d (db y2.2.2.2.2)])]⟩ ?_ ?_
 refine z1 hy3 (fun hy3=>?_) (fun hy3=>?_)
 refine xG<|q65 zJ0 ?_
 refine zYX ?_
 cases hy3
 exact zH (wc)
 refine zL ?_
 cases hy3
 exact zH (wc)
 refine Q0 ?_
 refine z9 ((kM (lq rfl) zOE rfl rfl rfl rfl).data rfl) ?_
 refine q16 zOE ?_
 refine zK ?_
 cases h
 refine zB ?_
 exact ⟨⟨_,_,_,_,_,rfl,rfl,rfl,.inr ⟨_,zOE,rfl,rfl⟩,rfl⟩,⟨rfl,trivial⟩⟩
theorem zLN {a0} {r:Unit} (h:zCD a0=some r):GCA Tryz.prog 77 [.d (di a0)] [] [] (.clo 112 [.d (.pt [(di a0)]),.ptr 3 0]) [(3,.box 4 [.d (db false)])]:=by
 refine z7N Tryz.func77 (by kernel_rfl) rfl (lq rfl) (lq rfl) rfl fun w0 I0 hG0 p0=>?_
 unfold zCD at h
 refine Q91 ?_
 refine Q39 ?_
 refine yF rfl (yP (zs:=[(.bool false)]) (lq rfl) (by kernel_rfl) rfl rfl) ?_
 refine q60 O4 ?_
 refine Q52 ?_
 refine z9 (zOC (cs:=[.d (.pt [(di a0)]),.ptr 3 0]) (lq rfl) ⟨_,_,rfl,rfl,⟨_,_,rfl,rfl,rfl⟩⟩) ?_
 refine z83 ?_
 refine zK ?_
 cases h
 refine zB ?_
 exact ⟨rfl,⟨rfl,trivial⟩⟩
set_option maxHeartbeats 8000000 in
theorem zH9 {a0} {r:(List Int)} (h:jX a0=some r):GC Tryz.prog 78 [.row 3000] [(3000,.row 3 eI.size false (eI.all a0))] [3000] [] [(3000,.row 3 eI.size false (eI.all r))]:=by
 refine zC7 Tryz.func78 (by kernel_rfl) rfl (lq rfl) (lq rfl) fun w0 I0 hG0 p0=>?_
 unfold jX at h
 refine Q43 ?_
 refine z5H yD ?_
 refine q31 ?_
 refine Q46 ?_
 refine yY ?_
 have ⟨y1,hy1,h⟩:=bE h
 refine tl (.exit 0) ⟨[(0,.row 3000)],[(3000,.row 3 eI.size false (eI.all y1))]⟩ ?_ ?_
 refine zD (fun x=>⟨[(0,.row 3000),(2,.d (di x.1)),(3,.d (di x.2.1))],[(3000,.row 3 eI.size false (eI.all x.2.2))]⟩) hy1 (wc) ?_
 rintro ⟨v2,v3,r3000⟩ sy1 p1
 replace p1:jD v2 v3 r3000=some sy1:=p1
 unfold jD at p1
 refine Q72 ?_
 refine z1 p1 (fun p1=>?_) (fun p1=>?_)
 refine Q8 ?_
 have ⟨t20,ht20,p1⟩:=bE p1
 have ⟨t24,ht24,p1⟩:=bE p1
 have ⟨t26,ht26,p1⟩:=bE p1
 have ⟨r3000_3x13,hr3000_3x13,p1⟩:=bE p1
 have ⟨t27,ht27,p1⟩:=bE p1
 have ⟨r3000_3x15,hr3000_3x15,p1⟩:=bE p1
 refine tl .normal ⟨[(0,.row 3000),(2,.d (di v2)),(3,.d (di v3))],[(3000,.row 3 eI.size false (eI.all r3000_3x15))]⟩ ?_ ?_
 refine zD6 MX ?_
 refine z5W ?_
 refine xm 3 ?_
 refine xm 4 ?_
 refine xm 5 ?_
 refine xm 8 ?_
 refine xm 9 ?_
 refine xn [6,10] ?_
 refine yCW yD ht20 ?_ ?_
 refine xn [7,10] ?_
 refine xa rfl (xR (en:=eI) (l:=r3000) (i:=v3) (v:=t20) (off:=0) (lq rfl) O3 rfl rfl ht20 rfl) ?_ ?_
 refine xn [10] ?_
 refine q34 yD ht24 ?_
 refine xn [11] ?_
 refine xc rfl (xR (en:=eI) (l:=r3000) (i:=v2) (v:=t24) (off:=0) (lq rfl) O3 rfl rfl ht24 rfl) ?_
 refine xn [12] ?_
 refine q34 yD ht26 ?_
 refine xn [13] ?_
 refine xd rfl (vF (en:=eI) (l:=r3000) (i:=v2) (v:=t26) (off:=0) O3 rfl rfl rfl ht26 rfl (by decide) hr3000_3x13 rfl rfl) ?_
 refine xn [14] ?_
 refine q34 yD ht27 ?_
 refine xn [15] ?_
 refine xd rfl (vF (en:=eI) (l:=r3000_3x13) (i:=v3) (v:=t27) (off:=0) O3 rfl rfl rfl ht27 rfl (by decide) hr3000_3x15 rfl rfl) ?_
 exact ae
 refine q34 yD ht24 ?_
 refine xn [7,11] ?_
 refine xa rfl (xR (en:=eI) (l:=r3000) (i:=v3) (v:=t20) (off:=0) (lq rfl) O3 rfl rfl ht20 rfl) ?_ ?_
 refine xn [11] ?_
 refine xc rfl (xR (en:=eI) (l:=r3000) (i:=v2) (v:=t24) (off:=0) (lq rfl) O3 rfl rfl ht24 rfl) ?_
 refine xn [12] ?_
 refine q34 yD ht26 ?_
 refine xn [13] ?_
 refine xd rfl (vF (en:=eI) (l:=r3000) (i:=v2) (v:=t26) (off:=0) O3 rfl rfl rfl ht26 rfl (by decide) hr3000_3x13 rfl rfl) ?_
 refine xn [14] ?_
 refine q34 yD ht27 ?_
 refine xn [15] ?_
 refine xd rfl (vF (en:=eI) (l:=r3000_3x13) (i:=v3) (v:=t27) (off:=0) O3 rfl rfl rfl ht27 rfl (by decide) hr3000_3x15 rfl rfl) ?_
 exact ae
 refine xc rfl (xR (en:=eI) (l:=r3000) (i:=v2) (v:=t24) (off:=0) (lq rfl) O3 rfl rfl ht24 rfl) ?_
 refine xn [7] ?_
 refine xc rfl (xR (en:=eI) (l:=r3000) (i:=v3) (v:=t20) (off:=0) (lq rfl) O3 rfl rfl ht20 rfl) ?_
 refine xn [12] ?_
 refine q34 yD ht26 ?_
 refine xn [13] ?_
 refine xd rfl (vF (en:=eI) (l:=r3000) (i:=v2) (v:=t26) (off:=0) O3 rfl rfl rfl ht26 rfl (by decide) hr3000_3x13 rfl rfl) ?_
 refine xn [14] ?_
 refine q34 yD ht27 ?_
 refine xn [15] ?_
 refine xd rfl (vF (en:=eI) (l:=r3000_3x13) (i:=v3) (v:=t27) (off:=0) O3 rfl rfl rfl ht27 rfl (by decide) hr3000_3x15 rfl rfl) ?_
 exact ae
 refine q34 yD ht24 ?_
 refine xn [6,11] ?_
 refine yCW yD ht20 ?_ ?_
 refine xn [7,11] ?_
 refine xa rfl (xR (en:=eI) (l:=r3000) (i:=v3) (v:=t20) (off:=0) (lq rfl) O3 rfl rfl ht20 rfl) ?_ ?_
 refine xn [11] ?_
 refine xc rfl (xR (en:=eI) (l:=r3000) (i:=v2) (v:=t24) (off:=0) (lq rfl) O3 rfl rfl ht24 rfl) ?_
 refine xn [12] ?_
 refine q34 yD ht26 ?_
 refine xn [13] ?_
 refine xd rfl (vF (en:=eI) (l:=r3000) (i:=v2) (v:=t26) (off:=0) O3 rfl rfl rfl ht26 rfl (by decide) hr3000_3x13 rfl rfl) ?_
 refine xn [14] ?_
 refine q34 yD ht27 ?_
 refine xn [15] ?_
 refine xd rfl (vF (en:=eI) (l:=r3000_3x13) (i:=v3) (v:=t27) (off:=0) O3 rfl rfl rfl ht27 rfl (by decide) hr3000_3x15 rfl rfl) ?_
 exact ae
 refine xc rfl (xR (en:=eI) (l:=r3000) (i:=v2) (v:=t24) (off:=0) (lq rfl) O3 rfl rfl ht24 rfl) ?_
 refine xn [7] ?_
 refine xc rfl (xR (en:=eI) (l:=r3000) (i:=v3) (v:=t20) (off:=0) (lq rfl) O3 rfl rfl ht20 rfl) ?_
 refine xn [12] ?_
 refine q34 yD ht26 ?_
 refine xn [13] ?_
 refine xd rfl (vF (en:=eI) (l:=r3000) (i:=v2) (v:=t26) (off:=0) O3 rfl rfl rfl ht26 rfl (by decide) hr3000_3x13 rfl rfl) ?_
 refine xn [14] ?_
 refine q34 yD ht27 ?_
 refine xn [15] ?_
 refine xd rfl (vF (en:=eI) (l:=r3000_3x13) (i:=v3) (v:=t27) (off:=0) O3 rfl rfl rfl ht27 rfl (by decide) hr3000_3x15 rfl rfl) ?_
 exact ae
 refine xc rfl (xR (en:=eI) (l:=r3000) (i:=v2) (v:=t24) (off:=0) (lq rfl) O3 rfl rfl ht24 rfl) ?_
 refine xn [6] ?_
 refine q34 yD ht20 ?_
 refine xn [7] ?_
 refine xc rfl (xR (en:=eI) (l:=r3000) (i:=v3) (v:=t20) (off:=0) (lq rfl) O3 rfl rfl ht20 rfl) ?_
 refine xn [12] ?_
 refine q34 yD ht26 ?_
 refine xn [13] ?_
 refine xd rfl (vF (en:=eI) (l:=r3000) (i:=v2) (v:=t26) (off:=0) O3 rfl rfl rfl ht26 rfl (by decide) hr3000_3x13 rfl rfl) ?_
 refine xn [14] ?_
 refine q34 yD ht27 ?_
 refine xn [15] ?_
 refine xd rfl (vF (en:=eI) (l:=r3000_3x13) (i:=v3) (v:=t27) (off:=0) O3 rfl rfl rfl ht27 rfl (by decide) hr3000_3x15 rfl rfl) ?_
 exact ae
 refine Q7 ?_
 refine q2 ?_
 refine q0 ?_
 refine q31 ?_
 refine Q46 ?_
 cases p1
 exact wc
 refine zF ?_
 cases p1
 intro q;cases q
 exact zH (wc)
 cases h
 exact ⟨rfl,⟨rfl,trivial⟩⟩
theorem zHY {a0 a1 r} (h:u6 a0 a1=some r):zG Tryz.prog 37 [(zS eElement a0),(eOptions.dv a1)] [(zS (eL eI) r)]:=by
 refine co Tryz.func37 ?_;intro _ _ _ _
 unfold u6 at h
 refine Q0 ?_
 refine q89 ?_
 refine Q39 ?_
 refine z9 ((kM (lq rfl) G49 rfl rfl rfl rfl).data rfl) ?_
 have ⟨t12,ht12,h⟩:=bE h
 refine q8 (zF5 ht12) ?_
 refine q16 G49 ?_
 refine Q52 ?_
 refine yF rfl (yP (zs:=[(.slice none 0 0),(.slice none 0 0),(.slice none 0 0),(.slice none 0 0)]) (lq rfl) (by kernel_rfl) rfl rfl) ?_
 refine zK ?_
 refine zO (zCY (bid:=5) (off:=0) 4100 3 eI.size (lq rfl) (by decide) rfl rfl rfl) ?_
 refine zO (zCY (bid:=5) (off:=1) 4101 3 eI.size (lq rfl) (by decide) rfl rfl rfl) ?_
 refine zO (zCY (bid:=5) (off:=2) 4102 3 eI.size (lq rfl) (by decide) rfl rfl rfl) ?_
 refine zO (zCY (bid:=5) (off:=3) 4103 3 eI.size (lq rfl) (by decide) rfl rfl rfl) ?_
 refine Q0 ?_
 refine q51 zYJ ?_
 refine q28 O3 ?_
 have ⟨t15,ht15,h⟩:=bE h
 refine yF rfl (zVI [(3,2515)] (zLN ht15) (lq rfl) (by decide) ⟨rfl,trivial⟩ rfl rfl trivial rfl rfl rfl (fun _=>rfl) rfl) ?_
 refine z83 ?_
 refine zK<|Q4 ?_
 refine q4 S39 ?_
 refine Q30 ?_
 have ⟨y1,hy1,h⟩:=bE h
 refine tl (.exit 0) ⟨[(3,.ptr 3 0),(5,.ptr 5 0)],[(3,.box 49 [.d (di t12.Strength),.d (di t12.Variable),.d (db t12.Backward),.d (db t12.Identical)]),(5,.box 118 [.row 4100,.row 4101,.row 4102,.row 4103]),(4100,.row 3 eI.size false (eI.all y1.1)),(4101,.row 3 eI.size false (eI.all y1.2.1)),(4102,.row 3 eI.size false (eI.all y1.2.2.1)),(4103,.row 3 eI.size false (eI.all y1.2.2.2))]⟩ ?_ ?_
 refine zD (fun x=>⟨[(3,.ptr 3 0),(5,.ptr 5 0),(6,.clo 112 [.d (.pt [(di t12.Variable)]),.ptr 2515 0]),(16,.d (zS eElement a0)),(17,.d (di (a0.length:Int))),(18,.d (di x.1))],[(3,.box 49 [.d (di t12.Strength),.d (di t12.Variable),.d (db t12.Backward),.d (db t12.Identical)]),(5,.box 118 [.row 4100,.row 4101,.row 4102,.row 4103]),(2515,.box 4 [.d (db x.2.1)]),(4100,.row 3 eI.size false (eI.all x.2.2.1)),(4101,.row 3 eI.size false (eI.all x.2.2.2.1)),(4102,.row 3 eI.size false (eI.all x.2.2.2.2.1)),(4103,.row 3 eI.size false (eI.all x.2.2.2.2.2))]⟩) hy1 (wc) ?_
 rintro ⟨v18,k2515_0,r4100,r4101,r4102,r4103⟩ sy1 p1
 replace p1:wM a0 t12 v18 k2515_0 r4100 r4101 r4102 r4103=some sy1:=p1
 unfold wM at p1
 refine Q22 ?_
 refine z1 p1 (fun p1=>?_) (fun p1=>?_)
 refine Q29 ?_
 have ⟨t20,ht20,p1⟩:=bE p1
 refine q11 S39 ht20 ?_
 refine z8S G64 ht20 ?_
 refine yCQ ?_
 refine q16 G64 ?_
 refine zK ?_
 refine zO (z2 (t:=8) (lq rfl) rfl rfl rfl) ?_
 refine Q0 ?_
 refine z9 (zDW (lq rfl) rfl) ?_
 refine q21 G64 ?_
 have ⟨t24,ht24,p1⟩:=bE p1
 refine yF rfl (zQB [(3002,2515)] (zJ4 ht24) (lq rfl) (by decide) rfl ⟨rfl,rfl,rfl,trivial⟩ rfl rfl ⟨rfl,trivial⟩ rfl rfl rfl (fun _=>rfl) rfl) ?_
 refine Q30 ?_
 have ⟨y2,hy2,p1⟩:=bE p1
 refine tl (.exit 2) ⟨[(3,.ptr 3 0),(5,.ptr 5 0),(6,.clo 112 [.d (.pt [(di t12.Variable)]),.ptr 2515 0]),(16,.d (zS eElement a0)),(17,.d (di (a0.length:Int))),(18,.d (di v18))],[(3,.box 49 [.d (di t12.Strength),.d (di t12.Variable),.d (db t12.Backward),.d (db t12.Identical)]),(5,.box 118 [.row 4100,.row 4101,.row 4102,.row 4103]),(2515,.box 4 [.d (db t24.2)]),(4100,.row 3 eI.size false (eI.all y2.1)),(4101,.row 3 eI.size false (eI.all y2.2.1)),(4102,.row 3 eI.size false (eI.all y2.2.2.1)),(4103,.row 3 eI.size false (eI.all y2.2.2.2))]⟩ ?_ ?_
 refine zD (fun x=>⟨[(3,.ptr 3 0),(5,.ptr 5 0),(6,.clo 112 [.d (.pt [(di t12.Variable)]),.ptr 2515 0]),(16,.d (zS eElement a0)),(17,.d (di (a0.length:Int))),(18,.d (di v18)),(24,.d (eA4Int.dv t24.1)),(25,.d (di x.1))],[(3,.box 49 [.d (di t12.Strength),.d (di t12.Variable),.d (db t12.Backward),.d (db t12.Identical)]),(5,.box 118 [.row 4100,.row 4101,.row 4102,.row 4103]),(2515,.box 4 [.d (db t24.2)]),(4100,.row 3 eI.size false (eI.all x.2.1)),(4101,.row 3 eI.size false (eI.all x.2.2.1)),(4102,.row 3 eI.size false (eI.all x.2.2.2.1)),(4103,.row 3 eI.size false (eI.all x.2.2.2.2))]⟩) hy2 (wc) ?_
 rintro ⟨v25,r4100,r4101,r4102,r4103⟩ sy2 p2
 replace p2:jE t24 v25 r4100 r4101 r4102 r4103=some sy2:=p2
 unfold jE at p2
 rcases z8B p2 with ⟨c,p2⟩ | p2
 obtain rfl:v25=0:=c
 refine Q22 ?_
 refine zKE rfl ⟨fun _=>?_,fun c=>(by cases c)⟩
 refine Q5 ?_
 have ⟨y3,hy3,p2⟩:=bE p2
 refine tl .normal ⟨[(3,.ptr 3 0),(5,.ptr 5 0),(6,.clo 112 [.d (.pt [(di t12.Variable)]),.ptr 2515 0]),(16,.d (zS eElement a0)),(17,.d (di (a0.length:Int))),(18,.d (di v18)),(24,.d (eA4Int.dv t24.1)),(25,.d (di (0:Int)))],[(3,.box 49 [.d (di t12.Strength),.d (di t12.Variable),.d (db t12.Backward),.d (db t12.Identical)]),(5,.box 118 [.row 4100,.row 4101,.row 4102,.row 4103]),(2515,.box 4 [.d (db t24.2)]),(4100,.row 3 eI.size false (eI.all y3)),(4101,.row 3 eI.size false (eI.all r4101)),(4102,.row 3 eI.size false (eI.all r4102)),(4103,.row 3 eI.size false (eI.all r4103))]⟩ ?_ ?_
 refine Q80 ?_
 have ⟨t28,ht28,hy3⟩:=bE hy3
 refine z9 (zKN (en:=eI) (l:=[t24.1.x0,t24.1.x1,t24.1.x2,t24.1.x3]) (lq rfl) zJ0 O3 (fun _=>rfl) rfl rfl rfl ht28) ?_
 refine q1 ?_
 refine Q62 ?_
 refine z1 hy3 (fun hy3=>?_) (fun hy3=>?_)
 refine Q66 ?_
 refine q65 zSR ?_
 refine q28 O33 ?_
 refine q0 ?_
 refine q24 yD ?_
 have ⟨r4100_4,hr4100_4,hy3⟩:=bE hy3
 refine yF rfl (yK (en:=eI) (l:=r4100) (m:=[t28]) (lq rfl) yD rfl rfl rfl hr4100_4 (by decide) (by decide) rfl rfl) ?_
 refine q65 zSR ?_
 refine q93 O33 ?_
 refine zK ?_
 cases hy3
 exact zH (wc)
 refine zL ?_
 cases hy3
 exact zH (wc)
 refine Q24 ?_
 cases p2
 exact wc
 rcases z8B p2 with ⟨c,p2⟩ | p2
 obtain rfl:v25=1:=c
 refine Q22 ?_
 refine zKE rfl ⟨fun _=>?_,fun c=>(by cases c)⟩
 refine Q5 ?_
 have ⟨y5,hy5,p2⟩:=bE p2
 refine tl .normal ⟨[(3,.ptr 3 0),(5,.ptr 5 0),(6,.clo 112 [.d (.pt [(di t12.Variable)]),.ptr 2515 0]),(16,.d (zS eElement a0)),(17,.d (di (a0.length:Int))),(18,.d (di v18)),(24,.d (eA4Int.dv t24.1)),(25,.d (di (1:Int)))],[(3,.box 49 [.d (di t12.Strength),.d (di t12.Variable),.d (db t12.Backward),.d (db t12.Identical)]),(5,.box 118 [.row 4100,.row 4101,.row 4102,.row 4103]),(2515,.box 4 [.d (db t24.2)]),(4100,.row 3 eI.size false (eI.all r4100)),(4101,.row 3 eI.size false (eI.all y5)),(4102,.row 3 eI.size false (eI.all r4102)),(4103,.row 3 eI.size false (eI.all r4103))]⟩ ?_ ?_
 refine Q80 ?_
 have ⟨t28,ht28,hy5⟩:=bE hy5
 refine z9 (zKN (en:=eI) (l:=[t24.1.x0,t24.1.x1,t24.1.x2,t24.1.x3]) (lq rfl) zJ0 O3 (fun _=>rfl) rfl rfl rfl ht28) ?_
 refine q1 ?_
 refine Q62 ?_
 refine z1 hy5 (fun hy5=>?_) (fun hy5=>?_)
 refine Q66 ?_
 refine q65 zSR ?_
 refine q28 O33 ?_
 refine q0 ?_
 refine q24 yD ?_
 have ⟨r4101_6,hr4101_6,hy5⟩:=bE hy5
 refine yF rfl (yK (en:=eI) (l:=r4101) (m:=[t28]) (lq rfl) yD rfl rfl rfl hr4101_6 (by decide) (by decide) rfl rfl) ?_
 refine q65 zSR ?_
 refine q93 O33 ?_
 refine zK ?_
 cases hy5
 exact zH (wc)
 refine zL ?_
 cases hy5
 exact zH (wc)
 refine Q24 ?_
 cases p2
 exact wc
 rcases z8B p2 with ⟨c,p2⟩ | p2
 obtain rfl:v25=2:=c
 refine Q22 ?_
 refine zKE rfl ⟨fun _=>?_,fun c=>(by cases c)⟩
 refine Q5 ?_
 have ⟨y7,hy7,p2⟩:=bE p2
 refine tl .normal ⟨[(3,.ptr 3 0),(5,.ptr 5 0),(6,.clo 112 [.d (.pt [(di t12.Variable)]),.ptr 2515 0]),(16,.d (zS eElement a0)),(17,.d (di (a0.length:Int))),(18,.d (di v18)),(24,.d (eA4Int.dv t24.1)),(25,.d (di (2:Int)))],[(3,.box 49 [.d (di t12.Strength),.d (di t12.Variable),.d (db t12.Backward),.d (db t12.Identical)]),(5,.box 118 [.row 4100,.row 4101,.row 4102,.row 4103]),(2515,.box 4 [.d (db t24.2)]),(4100,.row 3 eI.size false (eI.all r4100)),(4101,.row 3 eI.size false (eI.all r4101)),(4102,.row 3 eI.size false (eI.all y7)),(4103,.row 3 eI.size false (eI.all r4103))]⟩ ?_ ?_
 refine Q80 ?_
 have ⟨t28,ht28,hy7⟩:=bE hy7
 refine z9 (zKN (en:=eI) (l:=[t24.1.x0,t24.1.x1,t24.1.x2,t24.1.x3]) (lq rfl) zJ0 O3 (fun _=>rfl) rfl rfl rfl ht28) ?_
 refine q1 ?_
 refine Q62 ?_
 refine z1 hy7 (fun hy7=>?_) (fun hy7=>?_)
 refine Q66 ?_
 refine q65 zSR ?_
 refine q28 O33 ?_
 refine q0 ?_
 refine q24 yD ?_
 have ⟨r4102_8,hr4102_8,hy7⟩:=bE hy7
 refine yF rfl (yK (en:=eI) (l:=r4102) (m:=[t28]) (lq rfl) yD rfl rfl rfl hr4102_8 (by decide) (by decide) rfl rfl) ?_
 refine q65 zSR ?_
 refine q93 O33 ?_
 refine zK ?_
 cases hy7
 exact zH (wc)
 refine zL ?_
 cases hy7
 exact zH (wc)
 refine Q24 ?_
 cases p2
 exact wc
 rcases z8B p2 with ⟨c,p2⟩ | p2
 obtain rfl:v25=3:=c
 refine Q22 ?_
 refine zKE rfl ⟨fun _=>?_,fun c=>(by cases c)⟩
 refine Q5 ?_
 have ⟨y9,hy9,p2⟩:=bE p2
 refine tl .normal ⟨[(3,.ptr 3 0),(5,.ptr 5 0),(6,.clo 112 [.d (.pt [(di t12.Variable)]),.ptr 2515 0]),(16,.d (zS eElement a0)),(17,.d (di (a0.length:Int))),(18,.d (di v18)),(24,.d (eA4Int.dv t24.1)),(25,.d (di (3:Int)))],[(3,.box 49 [.d (di t12.Strength),.d (di t12.Variable),.d (db t12.Backward),.d (db t12.Identical)]),(5,.box 118 [.row 4100,.row 4101,.row 4102,.row 4103]),(2515,.box 4 [.d (db t24.2)]),(4100,.row 3 eI.size false (eI.all r4100)),(4101,.row 3 eI.size false (eI.all r4101)),(4102,.row 3 eI.size false (eI.all r4102)),(4103,.row 3 eI.size false (eI.all y9))]⟩ ?_ ?_
 refine Q80 ?_
 have ⟨t28,ht28,hy9⟩:=bE hy9
 refine z9 (zKN (en:=eI) (l:=[t24.1.x0,t24.1.x1,t24.1.x2,t24.1.x3]) (lq rfl) zJ0 O3 (fun _=>rfl) rfl rfl rfl ht28) ?_
 refine q1 ?_
 refine Q62 ?_
 refine z1 hy9 (fun hy9=>?_) (fun hy9=>?_)
 refine Q66 ?_
 refine q65 zSR ?_
 refine q28 O33 ?_
 refine q0 ?_
 refine q24 yD ?_
 have ⟨r4103_10,hr4103_10,hy9⟩:=bE hy9
 refine yF rfl (yK (en:=eI) (l:=r4103) (m:=[t28]) (lq rfl) yD rfl rfl rfl hr4103_10 (by decide) (by decide) rfl rfl) ?_
 refine q65 zSR ?_
 refine q93 O33 ?_
 refine zK ?_
 cases hy9
 exact zH (wc)
 refine zL ?_
 cases hy9
 exact zH (wc)
 refine Q24 ?_
 cases p2
 exact wc
 rcases z8B p2 with ⟨c,p2⟩ | p2
 obtain rfl:v25=4:=c
 refine Q22 ?_
 refine zKE rfl ⟨fun c=>(by cases c),fun _=>?_⟩
 refine zF ?_
 cases p2
 intro q;cases q
 exact zH (wc)
 cases p2
 refine Q24 ?_
 cases p1
 exact wc
 refine zF ?_
 cases p1
 intro q;cases q
 exact zH (wc)
 refine Q31 ?_
 refine q51 yEP ?_
 refine q28 O4 ?_
 refine zK ?_
 have ⟨y11,hy11,h⟩:=bE h
 refine tl .normal ⟨[(3,.ptr 3 0),(5,.ptr 5 0)],[(3,.box 49 [.d (di t12.Strength),.d (di t12.Variable),.d (db t12.Backward),.d (db t12.Identical)]),(5,.box 118 [.row 4100,.row 4101,.row 4102,.row 4103]),(4100,.row 3 eI.size false (eI.all y1.1)),(4101,.row 3 eI.size false (eI.all y11)),(4102,.row 3 eI.size false (eI.all y1.2.2.1)),(4103,.row 3 eI.size false (eI.all y1.2.2.2))]⟩ ?_ ?_
 refine z1 hy11 (fun hy11=>?_) (fun hy11=>?_)
 refine xG<|q65 zSR ?_
 refine q28 O33 ?_
 have ⟨t45,ht45,hy11⟩:=bE hy11
 refine yF rfl (zDV [(3000,4101)] (zH9 ht45) (lq rfl) (by decide) ⟨rfl,trivial⟩ rfl rfl ⟨rfl,trivial⟩ rfl rfl rfl (fun _=>rfl) rfl) ?_
 refine zK ?_
 cases hy11
 exact zH (wc)
 refine zL ?_
 cases hy11
 exact zH (wc)
 refine kF ?_
 refine zO (zD3 (bid:=5) (off:=0) rfl rfl rfl) ?_
 refine zO (zD3 (bid:=5) (off:=1) rfl rfl rfl) ?_
 refine zO (zD3 (bid:=5) (off:=2) rfl rfl rfl) ?_
 refine zO (zD3 (bid:=5) (off:=3) rfl rfl rfl) ?_
 refine zO (z2 (t:=5) (lq rfl) rfl rfl rfl) ?_
 refine xG<|q51 zPD ?_
 refine q28 O3 ?_
 have ⟨t48,ht48,h⟩:=bE h
 refine z9 (z0T (en:=(eL eI)) (l:=[({x0:=y1.1,x1:=y11,x2:=y1.2.2.1,x3:=y1.2.2.2}:A4ListInt).x0,({x0:=y1.1,x1:=y11,x2:=y1.2.2.1,x3:=y1.2.2.2}:A4ListInt).x1,({x0:=y1.1,x1:=y11,x2:=y1.2.2.1,x3:=y1.2.2.2}:A4ListInt).x2,({x0:=y1.1,x1:=y11,x2:=y1.2.2.1,x3:=y1.2.2.2}:A4ListInt).x3]) (lq rfl) zSR rfl (by decide) rfl rfl ht48) ?_
 have ⟨r49_12,hr49_12,h⟩:=bE h
 refine yF rfl (z5A (en:=(eL eI)) (m:=t48) (id:=49) (lq rfl) S78 rfl rfl hr49_12 (by decide) (by decide) rfl rfl) ?_
 refine Q13 ?_
 cases h
 refine zB ?_
 exact zI rfl
theorem zIA {a0 a1 a2 a3 r} (h:zAL a0 a1 a2 a3=some r):zG Tryz.prog 18 [(eNorm.dv a0),(eCollation.dv a1),(eOptions.dv a2),(zS eI a3)] [(zS eI r)]:=by
 refine co Tryz.func18 ?_;intro _ _ _ _
 unfold zAL at h
 refine z1B ?_
 refine q89 ?_
 refine Q39 ?_
 refine z9 ((kM (lq rfl) G49 rfl rfl rfl rfl).data rfl) ?_
 have ⟨t15,ht15,h⟩:=bE h
 refine q8 (zF5 ht15) ?_
 refine z1O ?_
 refine Q3 ?_
 refine zO (xC (t:=9) 1009 3 eI.size (lq rfl) (lq rfl) rfl rfl) ?_
 refine kF<|kF ?_
 refine z3 MX rfl ?_
 refine q69 G28 ?_
 refine q69 G32 ?_
 refine q7 ?_
 have ⟨t19,ht19,h⟩:=bE h
 refine q22 (zKX ht19) ?_
 refine vO ((kM (lq rfl) G49 rfl rfl rfl rfl).data rfl) ?_
 have ⟨t21,ht21,h⟩:=bE h
 refine q22 (zHY ht21) ?_
 refine yGI S78 ?_
 refine q7 ?_
 refine xZ<|yY ?_
 have ⟨y1,hy1,h⟩:=bE h
 refine tl (.exit 0) ⟨[(3,.d (zS eI a3)),(4,.d (.pt (eNorm.cells a0))),(6,.ptr 6 0),(9,.row 1009)],[(6,.box 49 [.d (di t15.Strength),.d (di t15.Variable),.d (db t15.Backward),.d (db t15.Identical)]),(1009,.row 3 eI.size false (eI.all y1))]⟩ ?_ ?_
 refine zD (fun x=>⟨[(3,.d (zS eI a3)),(4,.d (.pt (eNorm.cells a0))),(6,.ptr 6 0),(9,.row 1009),(21,.d (zS (eL eI) t21)),(22,.d (di (t21.length:Int))),(23,.d (di x.1))],[(6,.box 49 [.d (di t15.Strength),.d (di t15.Variable),.d (db t15.Backward),.d (db t15.Identical)]),(1009,.row 3 eI.size false (eI.all x.2))]⟩) hy1 (wc) ?_
 rintro ⟨v23,r1009⟩ sy1 p1
 replace p1:zA8 t21 v23 r1009=some sy1:=p1
 unfold zA8 at p1
 refine Q22 ?_
 refine z1 p1 (fun p1=>?_) (fun p1=>?_)
 refine Q8 ?_
 refine Q2 ?_
 have ⟨t26,ht26,p1⟩:=bE p1
 refine q11 S78 ht26 ?_
 refine yGK O33 ht26 ?_
 refine z1A ?_
 refine Q54 ?_
 have ⟨y2,hy2,p1⟩:=bE p1
 refine tl .normal ⟨[(3,.d (zS eI a3)),(4,.d (.pt (eNorm.cells a0))),(6,.ptr 6 0),(9,.row 1009),(11,.d (zS eI t26)),(21,.d (zS (eL eI) t21)),(22,.d (di (t21.length:Int))),(23,.d (di v23))],[(6,.box 49 [.d (di t15.Strength),.d (di t15.Variable),.d (db t15.Backward),.d (db t15.Identical)]),(1009,.row 3 eI.size false (eI.all y2))]⟩ ?_ ?_
 refine z1 hy2 (fun hy2=>?_) (fun hy2=>?_)
 refine Q64 ?_
 refine q24 yD ?_
 have ⟨r1009_3,hr1009_3,hy2⟩:=bE hy2
 refine yF rfl (yK (en:=eI) (l:=r1009) (m:=[0]) (lq rfl) yD rfl rfl rfl hr1009_3 (by decide) (by decide) rfl rfl) ?_
 refine Q13 ?_
 cases hy2
 exact zH (wc)
 refine zL ?_
 cases hy2
 exact zH (wc)
 refine zVV ?_
 have ⟨r1009_4,hr1009_4,p1⟩:=bE p1
 refine yF rfl (yK (en:=eI) (l:=y2) (m:=t26) (lq rfl) yD rfl rfl rfl hr1009_4 (by decide) (by decide) rfl rfl) ?_
 refine Q13 ?_
 refine Q24 ?_
 cases p1
 exact wc
 refine zF ?_
 cases p1
 intro q;cases q
 exact zH (wc)
 refine Q31 ?_
 refine q51 z2W ?_
 refine q28 O4 ?_
 refine Q42 ?_
 refine z1 h (fun h=>?_) (fun h=>?_)
 refine Q61 ?_
 cases h
 refine zB ?_
 exact zI rfl
 refine zL<|Q43 ?_
 refine q24 yD ?_
 have ⟨r1009_5,hr1009_5,h⟩:=bE h
 refine yF rfl (yK (en:=eI) (l:=y1) (m:=[0]) (lq rfl) yD rfl rfl rfl hr1009_5 (by decide) (by decide) rfl rfl) ?_
 refine Q13 ?_
 refine Q31 ?_
 refine q21 G28 ?_
 refine q0 ?_
 have ⟨t46,ht46,h⟩:=bE h
 refine q8 (zOK ht46) ?_
 refine Q94 ?_
 have ⟨y6,hy6,h⟩:=bE h
 refine tl (.exit 2) ⟨[(9,.row 1009)],[(1009,.row 3 eI.size false (eI.all y6))]⟩ ?_ ?_
 refine zD (fun x=>⟨[(9,.row 1009),(46,.d (zS eI t46)),(47,.d (di (t46.length:Int))),(48,.d (di x.1))],[(1009,.row 3 eI.size false (eI.all x.2))]⟩) hy6 (wc) ?_
 rintro ⟨v48,r1009⟩ sy6 p6
 replace p6:zA9 t46 v48 r1009=some sy6:=p6
 unfold zA9 at p6
 refine Q22 ?_
 refine z1 p6 (fun p6=>?_) (fun p6=>?_)
 refine Q5 ?_
 have ⟨y7,hy7,p6⟩:=bE p6
 refine tl .normal ⟨[(9,.row 1009),(46,.d (zS eI t46)),(47,.d (di (t46.length:Int))),(48,.d (di v48))],[(1009,.row 3 eI.size false (eI.all y7))]⟩ ?_ ?_
 refine zYW ?_
 have ⟨t50,ht50,hy7⟩:=bE hy7
 refine q11 yD ht50 ?_
 refine q35 O3 ht50 ?_
 refine Q19 ?_
 refine q44 ?_
 have ⟨b54,hb54,hy7⟩:=bE hy7
 refine z9 ((zC (lq rfl) rfl).bool (oi hb54)) ?_
 refine q13 (.d (di t50)) ?_
 refine q55 (.d (db (decide (t50≤1114111)))) ?_
 refine Q36 ?_
 refine z1 hy7 (fun hy7=>?_) (fun hy7=>?_)
 refine zVV ?_
 refine q2 ?_
 refine q24 yD ?_
 have ⟨r1009_8,hr1009_8,hy7⟩:=bE hy7
 refine yF rfl (yK (en:=eI) (l:=r1009) (m:=[wi (t50+1)]) (lq rfl) yD rfl rfl rfl hr1009_8 (by decide) (by decide) rfl rfl) ?_
 refine Q13 ?_
 cases hy7
 exact zH (wc)
 refine zL ?_
 cases hy7
 exact zH (wc)
 refine Q24 ?_
 cases p6
 exact wc
 refine zF ?_
 cases p6
 intro q;cases q
 exact zH (wc)
 refine Q61 ?_
 cases h
 refine zB ?_
 exact zI rfl
theorem zP1 {a0 r} (h:zDO a0=some r):zG Tryz.prog 38 [(zS eI a0)] [(ds r)]:=by
 refine co Tryz.func38 ?_;intro _ _ _ _
 unfold zDO at h
 refine z1C ?_
 refine zO (xC (t:=3) 1003 5 e8.size (lq rfl) (lq rfl) rfl rfl) ?_
 refine Q4 ?_
 refine Q94 ?_
 have ⟨y1,hy1,h⟩:=bE h
 refine tl (.exit 0) ⟨[(3,.row 1003)],[(1003,.row 5 e8.size false (e8.all y1))]⟩ ?_ ?_
 refine zD (fun x=>⟨[(3,.row 1003),(7,.d (zS eI a0)),(8,.d (di (a0.length:Int))),(9,.d (di x.1))],[(1003,.row 5 e8.size false (e8.all x.2))]⟩) hy1 (wc) ?_
 rintro ⟨v9,r1003⟩ sy1 p1
 replace p1:zC3 a0 v9 r1003=some sy1:=p1
 unfold zC3 at p1
 refine Q22 ?_
 refine z1 p1 (fun p1=>?_) (fun p1=>?_)
 refine Q29 ?_
 have ⟨t11,ht11,p1⟩:=bE p1
 refine q11 yD ht11 ?_
 refine q35 O3 ht11 ?_
 refine Q19 ?_
 refine q49 Tryz.underlying3 Tryz.underlying124 ?_
 refine Q1 ?_
 refine zVV ?_
 refine q71 ?_
 refine q49 Tryz.underlying124 Tryz.underlying5 ?_
 refine q0 ?_
 refine q71 ?_
 refine q49 Tryz.underlying124 Tryz.underlying5 ?_
 refine q0 ?_
 refine q71 ?_
 refine q49 Tryz.underlying124 Tryz.underlying5 ?_
 refine q0 ?_
 refine q49 Tryz.underlying124 Tryz.underlying5 ?_
 refine q24 yIL ?_
 have ⟨r1003_2,hr1003_2,p1⟩:=bE p1
 refine yF rfl (yK (en:=e8) (l:=r1003) (m:=[(IntKind.u8.wrap) (((IntKind.u32.wrap) t11) / 2 ^ 24),(IntKind.u8.wrap) (((IntKind.u32.wrap) t11) / 2 ^ 16),(IntKind.u8.wrap) (((IntKind.u32.wrap) t11) / 2 ^ 8),(IntKind.u8.wrap) ((IntKind.u32.wrap) t11)]) (lq rfl) yIL rfl rfl rfl hr1003_2 (by decide) (by decide) rfl rfl) ?_
 refine Q13 ?_
 refine Q24 ?_
 cases p1
 exact wc
 refine zF ?_
 cases p1
 intro q;cases q
 exact zH (wc)
 refine Q43 ?_
 refine z9 (yGB (lq rfl) Tryz.underlying123 Tryz.underlying9 Tryz.underlying5 rfl rfl) ?_
 refine Q1 ?_
 cases h
 refine zB ?_
 exact zI rfl
set_option maxHeartbeats 8000000 in
set_option maxRecDepth 40000 in
theorem zL3 {r} (h:zDZ=some r):zG Tryz.prog 15 [] [(db r)]:=by
 refine co Tryz.func15 ?_;intro _ _ _ _
 unfold zDZ at h
 refine Q3 ?_
 refine Q0 ?_
 refine q48 B64 ?_
 refine q48 B64 ?_
 refine q24 S39 ?_
 refine Q19 ?_
 refine q48 B49 ?_
 have ⟨t10,ht10,h⟩:=bE h
 refine q8 (zHY ht10) ?_
 refine Q16 ?_
 have ⟨t13,ht13,h⟩:=bE h
 have ⟨t17,ht17,h⟩:=bE h
 refine tl .normal ⟨[(2,.d (zS (eL eI) t10)),(3,.ptr 3 0)],[(3,.box 32 [.d (zS eEntry (({Entries:=[({Codes:=[97],Elements:=t13}:Entry),({Codes:=[98],Elements:=t17}:Entry)],Groups:=[],Base:=100,Second:=32,Third:=2}:Collation).Entries)),.d (zS eGroup (({Entries:=[({Codes:=[97],Elements:=t13}:Entry),({Codes:=[98],Elements:=t17}:Entry)],Groups:=[],Base:=100,Second:=32,Third:=2}:Collation).Groups)),.d (di (({Entries:=[({Codes:=[97],Elements:=t13}:Entry),({Codes:=[98],Elements:=t17}:Entry)],Groups:=[],Base:=100,Second:=32,Third:=2}:Collation).Base)),.d (di (({Entries:=[({Codes:=[97],Elements:=t13}:Entry),({Codes:=[98],Elements:=t17}:Entry)],Groups:=[],Base:=100,Second:=32,Third:=2}:Collation).Second)),.d (di (({Entries:=[({Codes:=[97],Elements:=t13}:Entry),({Codes:=[98],Elements:=t17}:Entry)],Groups:=[],Base:=100,Second:=32,Third:=2}:Collation).Third))])]⟩ ?_ ?_
 refine zD6 MX ?_
 refine xm 1 ?_
 refine z0U (en:=eElement) (i:=2) rfl (lq rfl) S39 rfl rfl ht13 rfl (by kernel_rfl) (by kernel_rfl) (by kernel_rfl) ?_
 refine xm 5 ?_
 refine z0V (en:=eElement) (i:=6) rfl (lq rfl) S39 rfl rfl ht17 rfl (by kernel_rfl) (by kernel_rfl) (by kernel_rfl) ?_
 refine xn [0,4,10] ?_
 refine z06 yD ?_ ?_
 refine xB (bs:=eEntry.cells ({Codes:=[97],Elements:=t13}:Entry)) (i:=3) rfl (lq rfl) B41 rfl rfl (nlE (nlE nl0)) rfl (by kernel_rfl) (by kernel_rfl) (by kernel_rfl) ?_
 refine xn [4,10] ?_
 refine z06 yD ?_ ?_
 refine xB (bs:=eEntry.cells ({Codes:=[98],Elements:=t17}:Entry)) (i:=7) rfl (lq rfl) B41 rfl rfl (nlE (nlE nl0)) rfl (by kernel_rfl) (by kernel_rfl) (by kernel_rfl) ?_
 refine xn [8,10] ?_
 refine z06 S29 ?_ ?_
 refine xB (bs:=eCollation.cells ({Entries:=[({Codes:=[97],Elements:=t13}:Entry),({Codes:=[98],Elements:=t17}:Entry)],Groups:=[],Base:=100,Second:=32,Third:=2}:Collation)) (i:=9) rfl (lq rfl) B32 rfl rfl (nlE (nlN (nlE (nlE (nlE nl0))))) rfl (by kernel_rfl) (by kernel_rfl) (by kernel_rfl) ?_
 refine xn [10] ?_
 refine q36 ?_
 refine zYZ ?_
 exact ae
 refine q36 ?_
 refine xn [8] ?_
 refine q83 S29 ?_
 refine xB (bs:=eCollation.cells ({Entries:=[({Codes:=[97],Elements:=t13}:Entry),({Codes:=[98],Elements:=t17}:Entry)],Groups:=[],Base:=100,Second:=32,Third:=2}:Collation)) (i:=9) rfl (lq rfl) B32 rfl rfl (nlE (nlN (nlE (nlE (nlE nl0))))) rfl (by kernel_rfl) (by kernel_rfl) (by kernel_rfl) ?_
 refine zYZ ?_
 exact ae
 refine q36 ?_
 refine xn [4] ?_
 refine q83 yD ?_
 refine xB (bs:=eEntry.cells ({Codes:=[98],Elements:=t17}:Entry)) (i:=7) rfl (lq rfl) B41 rfl rfl (nlE (nlE nl0)) rfl (by kernel_rfl) (by kernel_rfl) (by kernel_rfl) ?_
 refine xn [8] ?_
 refine q83 S29 ?_
 refine xB (bs:=eCollation.cells ({Entries:=[({Codes:=[97],Elements:=t13}:Entry),({Codes:=[98],Elements:=t17}:Entry)],Groups:=[],Base:=100,Second:=32,Third:=2}:Collation)) (i:=9) rfl (lq rfl) B32 rfl rfl (nlE (nlN (nlE (nlE (nlE nl0))))) rfl (by kernel_rfl) (by kernel_rfl) (by kernel_rfl) ?_
 refine zYZ ?_
 exact ae
 refine z06 yD ?_ ?_
 refine xB (bs:=eEntry.cells ({Codes:=[98],Elements:=t17}:Entry)) (i:=7) rfl (lq rfl) B41 rfl rfl (nlE (nlE nl0)) rfl (by kernel_rfl) (by kernel_rfl) (by kernel_rfl) ?_
 refine xn [0,10] ?_
 refine z06 yD ?_ ?_
 refine xB (bs:=eEntry.cells ({Codes:=[97],Elements:=t13}:Entry)) (i:=3) rfl (lq rfl) B41 rfl rfl (nlE (nlE nl0)) rfl (by kernel_rfl) (by kernel_rfl) (by kernel_rfl) ?_
 refine xn [8,10] ?_
 refine z06 S29 ?_ ?_
 refine xB (bs:=eCollation.cells ({Entries:=[({Codes:=[97],Elements:=t13}:Entry),({Codes:=[98],Elements:=t17}:Entry)],Groups:=[],Base:=100,Second:=32,Third:=2}:Collation)) (i:=9) rfl (lq rfl) B32 rfl rfl (nlE (nlN (nlE (nlE (nlE nl0))))) rfl (by kernel_rfl) (by kernel_rfl) (by kernel_rfl) ?_
 refine xn [10] ?_
 refine q36 ?_
 refine zYZ ?_
 exact ae
 refine q36 ?_
 refine xn [8] ?_
 refine q83 S29 ?_
 refine xB (bs:=eCollation.cells ({Entries:=[({Codes:=[97],Elements:=t13}:Entry),({Codes:=[98],Elements:=t17}:Entry)],Groups:=[],Base:=100,Second:=32,Third:=2}:Collation)) (i:=9) rfl (lq rfl) B32 rfl rfl (nlE (nlN (nlE (nlE (nlE nl0))))) rfl (by kernel_rfl) (by kernel_rfl) (by kernel_rfl) ?_
 refine zYZ ?_
 exact ae
 refine q36 ?_
 refine xn [0] ?_
 refine q83 yD ?_
 refine xB (bs:=eEntry.cells ({Codes:=[97],Elements:=t13}:Entry)) (i:=3) rfl (lq rfl) B41 rfl rfl (nlE (nlE nl0)) rfl (by kernel_rfl) (by kernel_rfl) (by kernel_rfl) ?_
 refine xn [8] ?_
 refine q83 S29 ?_
 refine xB (bs:=eCollation.cells ({Entries:=[({Codes:=[97],Elements:=t13}:Entry),({Codes:=[98],Elements:=t17}:Entry)],Groups:=[],Base:=100,Second:=32,Third:=2}:Collation)) (i:=9) rfl (lq rfl) B32 rfl rfl (nlE (nlN (nlE (nlE (nlE nl0))))) rfl (by kernel_rfl) (by kernel_rfl) (by kernel_rfl) ?_
 refine zYZ ?_
 exact ae
 refine q36 ?_
 refine xn [0,4] ?_
 refine z06 yD ?_ ?_
 refine xB (bs:=eEntry.cells ({Codes:=[97],Elements:=t13}:Entry)) (i:=3) rfl (lq rfl) B41 rfl rfl (nlE (nlE nl0)) rfl (by kernel_rfl) (by kernel_rfl) (by kernel_rfl) ?_
 refine xn [4] ?_
 refine q83 yD ?_
 refine xB (bs:=eEntry.cells ({Codes:=[98],Elements:=t17}:Entry)) (i:=7) rfl (lq rfl) B41 rfl rfl (nlE (nlE nl0)) rfl (by kernel_rfl) (by kernel_rfl) (by kernel_rfl) ?_
 refine xn [8] ?_
 refine q83 S29 ?_
 refine xB (bs:=eCollation.cells ({Entries:=[({Codes:=[97],Elements:=t13}:Entry),({Codes:=[98],Elements:=t17}:Entry)],Groups:=[],Base:=100,Second:=32,Third:=2}:Collation)) (i:=9) rfl (lq rfl) B32 rfl rfl (nlE (nlN (nlE (nlE (nlE nl0))))) rfl (by kernel_rfl) (by kernel_rfl) (by kernel_rfl) ?_
 refine zYZ ?_
 exact ae
 refine q83 yD ?_
 refine xB (bs:=eEntry.cells ({Codes:=[98],Elements:=t17}:Entry)) (i:=7) rfl (lq rfl) B41 rfl rfl (nlE (nlE nl0)) rfl (by kernel_rfl) (by kernel_rfl) (by kernel_rfl) ?_
 refine xn [0] ?_
 refine q83 yD ?_
 refine xB (bs:=eEntry.cells ({Codes:=[97],Elements:=t13}:Entry)) (i:=3) rfl (lq rfl) B41 rfl rfl (nlE (nlE nl0)) rfl (by kernel_rfl) (by kernel_rfl) (by kernel_rfl) ?_
 refine xn [8] ?_
 refine q83 S29 ?_
 refine xB (bs:=eCollation.cells ({Entries:=[({Codes:=[97],Elements:=t13}:Entry),({Codes:=[98],Elements:=t17}:Entry)],Groups:=[],Base:=100,Second:=32,Third:=2}:Collation)) (i:=9) rfl (lq rfl) B32 rfl rfl (nlE (nlN (nlE (nlE (nlE nl0))))) rfl (by kernel_rfl) (by kernel_rfl) (by kernel_rfl) ?_
 refine zYZ ?_
 exact ae
 refine zO (z2 (t:=3) (lq rfl) rfl rfl rfl) ?_
 refine Q0 ?_
 refine z9 ((zDR (lq rfl) B28 rfl rfl).nils (bs:=eNorm.cells ({Classes:=[],Decomp:=[],Excluded:=(({Ranges:=[]}):Set)}:Norm)) (nlN (nlN (nlN nl0)))) ?_
 refine q21 G32 ?_
 refine q48 B49 ?_
 refine q24 yD ?_
 have ⟨t25,ht25,h⟩:=bE h
 refine q8 (zIA ht25) ?_
 refine Q19 ?_
 refine q4 S78 ?_
 refine q39 ?_
 have ⟨b29,hb29,h⟩:=bE h
 refine z9 ((zC (lq rfl) rfl).bool (oi hb29)) ?_
 refine q13 (.d (zS eI t25)) ?_
 refine sqt (.d (zS eI [16,17,0,32,32])) rfl (fun hb=>by subst hb;exact zTU (lq rfl) yD rfl rfl rfl rfl (by decide) rfl) ?_
 have ⟨t32,ht32,h⟩:=bE h
 refine sqt (.d (db t32)) rfl (fun hb=>by subst hb;exact wD (lq rfl) rfl (zFB ht32)) ?_
 refine q14 ?_
 have ⟨b34,hb34,h⟩:=bE h
 refine z9 ((zC (lq rfl) rfl).bool (oi hb34)) ?_
 refine sqt (.d (zS eI [258])) rfl (fun hb=>by subst hb;exact zTU (lq rfl) yD rfl rfl rfl rfl (by decide) rfl) ?_
 have ⟨t36,ht36,h⟩:=bE h
 refine sqt (.d (ds t36)) rfl (fun hb=>by subst hb;exact wD (lq rfl) rfl (zP1 ht36)) ?_
 refine sqt (.d (db (t36== [0,0,1,2]))) rfl (fun hb=>by subst hb;exact zKK (a:=t36) (b:=[0,0,1,2]) (lq rfl) rfl rfl) ?_
 refine q14 ?_
 have ⟨b39,hb39,h⟩:=bE h
 refine z9 ((zC (lq rfl) rfl).bool (oi hb39)) ?_
 refine sqt (.d (eOptions.dv ({Strength:=0,Variable:=0,Backward:=false,Identical:=false}:Options))) rfl (fun hb=>by subst hb;exact zDR (lq rfl) B49 rfl rfl) ?_
 have ⟨t41,ht41,h⟩:=bE h
 refine sqt (.d (di t41)) rfl (fun hb=>by subst hb;exact wD (lq rfl) rfl (zF2 (gT ht41))) ?_
 refine q79 (.d (db (decide (t41=1)))) ?_
 refine q14 ?_
 have ⟨b44,hb44,h⟩:=bE h
 refine z9 ((zC (lq rfl) rfl).bool (oi hb44)) ?_
 refine sqt (.d (eOptions.dv ({Strength:=1,Variable:=0,Backward:=false,Identical:=false}:Options))) rfl (fun hb=>by subst hb;exact zDR (lq rfl) B49 rfl rfl) ?_
 have ⟨t46,ht46,h⟩:=bE h
 refine sqt (.d (di t46)) rfl (fun hb=>by subst hb;exact wD (lq rfl) rfl (zF2 (gT ht46))) ?_
 refine q79 (.d (db (decide (t46=8)))) ?_
 refine Q41 ?_
 cases h
 refine zB ?_
 exact zI rfl
theorem zOM {a0 a1 a2 a3 r} (h:vA a0 a1 a2 a3=some r):zG Tryz.prog 79 [(zS eMapping a0),(zS (eL eI) a1),(zS eI a2),(db a3)] [(zS eI r)]:=by
 refine co Tryz.func79 ?_;intro _ _ _ _
 unfold vA at h
 refine z1C ?_
 refine zO (xC (t:=9) 1009 3 eI.size (lq rfl) (lq rfl) rfl rfl) ?_
 refine Q32 ?_
 have ⟨y1,hy1,h⟩:=bE h
 refine tl (.exit 0) ⟨[(9,.row 1009)],[(1009,.row 3 eI.size false (eI.all y1))]⟩ ?_ ?_
 refine zD (fun x=>⟨[(0,.d (zS eMapping a0)),(1,.d (zS (eL eI) a1)),(2,.d (zS eI a2)),(3,.d (db a3)),(9,.row 1009),(10,.d (di x.1))],[(1009,.row 3 eI.size false (eI.all x.2))]⟩) hy1 (wc) ?_
 rintro ⟨v10,r1009⟩ sy1 p1
 replace p1:k6 a2 a0 a3 a1 v10 r1009=some sy1:=p1
 unfold k6 at p1
 refine Q12 ?_
 refine Q83 ?_
 refine z1 p1 (fun p1=>?_) (fun p1=>?_)
 refine Q5 ?_
 have ⟨y2,hy2,p1⟩:=bE p1
 refine tl .normal ⟨[(0,.d (zS eMapping a0)),(1,.d (zS (eL eI) a1)),(2,.d (zS eI a2)),(3,.d (db a3)),(9,.row 1009),(10,.d (di v10))],[(1009,.row 3 eI.size false (eI.all y2))]⟩ ?_ ?_
 refine Q75 ?_
 refine q0 ?_
 have ⟨t21,ht21,hy2⟩:=bE hy2
 refine q11 yD ht21 ?_
 refine q35 O3 ht21 ?_
 refine q0 ?_
 have ⟨t24,ht24,hy2⟩:=bE hy2
 refine q8 (zED ht24) ?_
 refine Q19 ?_
 refine Q99 ?_
 refine z1 hy2 (fun hy2=>?_) (fun hy2=>?_)
 refine Q63 ?_
 have ⟨t30,ht30,hy2⟩:=bE hy2
 refine q11 S78 ht30 ?_
 refine yGK O33 ht30 ?_
 have ⟨r1009_3,hr1009_3,hy2⟩:=bE hy2
 refine yF rfl (yK (en:=eI) (l:=r1009) (m:=t30) (lq rfl) yD rfl rfl rfl hr1009_3 (by decide) (by decide) rfl rfl) ?_
 refine Q13 ?_
 cases hy2
 exact zH (wc)
 refine Q63 ?_
 have ⟨t36,ht36,hy2⟩:=bE hy2
 refine q11 yD ht36 ?_
 refine q35 O3 ht36 ?_
 have ⟨t38,ht38,hy2⟩:=bE hy2
 refine q8 (zEE ht38) ?_
 have ⟨r1009_4,hr1009_4,hy2⟩:=bE hy2
 refine yF rfl (yK (en:=eI) (l:=r1009) (m:=t38) (lq rfl) yD rfl rfl rfl hr1009_4 (by decide) (by decide) rfl rfl) ?_
 refine Q13 ?_
 cases hy2
 exact zH (wc)
 refine Q11 ?_
 cases p1
 exact wc
 refine zF ?_
 cases p1
 intro q;cases q
 exact zH (wc)
 refine Q61 ?_
 cases h
 refine zB ?_
 exact zI rfl
theorem zNK {a0} {a1} {a2} {a3} {r:(List Int)} (h:vA a0 a1 a2 a3=some r):GC Tryz.prog 79 [.d (zS eMapping a0),.row 3001,.d (zS eI a2),.d (db a3)] [(3001,.row 33 (eL eI).size false ((eL eI).all a1))] [3001] [.d (zS eI r)] [(3001,.row 33 (eL eI).size false ((eL eI).all a1))]:=by
 refine zC7 Tryz.func79 (by kernel_rfl) rfl (lq rfl) (lq rfl) fun w0 I0 hG0 p0=>?_
 unfold vA at h
 refine z1C ?_
 refine zO (xC (t:=9) 1009 3 eI.size (lq rfl) (lq rfl) rfl rfl) ?_
 refine Q32 ?_
 have ⟨y1,hy1,h⟩:=bE h
 refine tl (.exit 0) ⟨[(1,.row 3001),(9,.row 1009)],[(1009,.row 3 eI.size false (eI.all y1)),(3001,.row 33 (eL eI).size false ((eL eI).all a1))]⟩ ?_ ?_
 refine zD (fun x=>⟨[(0,.d (zS eMapping a0)),(1,.row 3001),(2,.d (zS eI a2)),(3,.d (db a3)),(9,.row 1009),(10,.d (di x.1))],[(1009,.row 3 eI.size false (eI.all x.2)),(3001,.row 33 (eL eI).size false ((eL eI).all a1))]⟩) hy1 (wc) ?_
 rintro ⟨v10,r1009⟩ sy1 p1
 replace p1:k6 a2 a0 a3 a1 v10 r1009=some sy1:=p1
 unfold k6 at p1
 refine Q12 ?_
 refine Q83 ?_
 refine z1 p1 (fun p1=>?_) (fun p1=>?_)
 refine Q5 ?_
 have ⟨y2,hy2,p1⟩:=bE p1
 refine tl .normal ⟨[(0,.d (zS eMapping a0)),(1,.row 3001),(2,.d (zS eI a2)),(3,.d (db a3)),(9,.row 1009),(10,.d (di v10))],[(1009,.row 3 eI.size false (eI.all y2)),(3001,.row 33 (eL eI).size false ((eL eI).all a1))]⟩ ?_ ?_
 refine Q75 ?_
 refine q0 ?_
 have ⟨t21,ht21,hy2⟩:=bE hy2
 refine q11 yD ht21 ?_
 refine q35 O3 ht21 ?_
 refine q0 ?_
 have ⟨t24,ht24,hy2⟩:=bE hy2
 refine q8 (zED ht24) ?_
 refine Q19 ?_
 refine Q99 ?_
 refine z1 hy2 (fun hy2=>?_) (fun hy2=>?_)
 refine Q64 ?_
 refine Q18 ?_
 have ⟨t30,ht30,hy2⟩:=bE hy2
 refine q80 S78 ht30 ?_
 refine z9 (xR (en:=(eL eI)) (l:=a1) (i:=t24) (v:=t30) (off:=0) (lq rfl) O33 rfl rfl ht30 rfl) ?_
 have ⟨r1009_3,hr1009_3,hy2⟩:=bE hy2
 refine yF rfl (yK (en:=eI) (l:=r1009) (m:=t30) (lq rfl) yD rfl rfl rfl hr1009_3 (by decide) (by decide) rfl rfl) ?_
 refine Q13 ?_
 cases hy2
 exact zH (wc)
 refine Q63 ?_
 have ⟨t36,ht36,hy2⟩:=bE hy2
 refine q11 yD ht36 ?_
 refine q35 O3 ht36 ?_
 have ⟨t38,ht38,hy2⟩:=bE hy2
 refine q8 (zEE ht38) ?_
 have ⟨r1009_4,hr1009_4,hy2⟩:=bE hy2
 refine yF rfl (yK (en:=eI) (l:=r1009) (m:=t38) (lq rfl) yD rfl rfl rfl hr1009_4 (by decide) (by decide) rfl rfl) ?_
 refine Q13 ?_
 cases hy2
 exact zH (wc)
 refine Q11 ?_
 cases p1
 exact wc
 refine zF ?_
 cases p1
 intro q;cases q
 exact zH (wc)
 refine Q61 ?_
 refine zO (zCL (t:=8) (lq rfl) rfl rfl) ?_
 cases h
 refine zB ?_
 exact ⟨⟨_,_,rfl,rfl,rfl⟩,⟨rfl,trivial⟩⟩
theorem zS6 {a0 a1 r} (h:zFQ a0 a1=some r):zG Tryz.prog 80 [(zS eMapping a0),(db a1)] [(zS (eL eI) r)]:=by
 refine co Tryz.func80 ?_;intro _ _ _ _
 unfold zFQ at h
 refine Q59 ?_
 refine q4 S23 ?_
 have ⟨r10,hr10,h⟩:=bE h
 refine yF rfl (yB9 (en:=(eL eI)) (lq rfl) S78 rfl hr10 (by decide) rfl) ?_
 refine zHK (zSQ (id:=10) rfl (z49 (en:=(eL eI)) (zero:=[]) (nlN nl0) hr10)) ?_ (by simp)
 refine Q13 ?_
 refine Q32 ?_
 have ⟨y1,hy1,h⟩:=bE h
 refine tl (.exit 0) ⟨[(5,.row 10)],[(10,.row 33 (eL eI).size false ((eL eI).all y1))]⟩ ?_ ?_
 refine zD (fun x=>⟨[(0,.d (zS eMapping a0)),(1,.d (db a1)),(5,.row 10),(6,.d (di x.1))],[(10,.row 33 (eL eI).size false ((eL eI).all x.2))]⟩) hy1 (wc) ?_
 rintro ⟨v6,r10⟩ sy1 p1
 replace p1:uT a0 a1 v6 r10=some sy1:=p1
 unfold uT at p1
 refine Q60 ?_
 refine z1 p1 (fun p1=>?_) (fun p1=>?_)
 refine Q8 ?_
 refine Q14 ?_
 have ⟨y2,hy2,p1⟩:=bE p1
 refine tl (.exit 2) ⟨[(0,.d (zS eMapping a0)),(1,.d (db a1)),(5,.row 10),(6,.d (di v6))],[(10,.row 33 (eL eI).size false ((eL eI).all y2))]⟩ ?_ ?_
 refine zD (fun x=>⟨[(0,.d (zS eMapping a0)),(1,.d (db a1)),(5,.row 10),(6,.d (di v6)),(7,.d (di x.1))],[(10,.row 33 (eL eI).size false ((eL eI).all x.2))]⟩) hy2 (wc) ?_
 rintro ⟨v7,r10⟩ sy2 p2
 replace p2:uS a0 a1 v7 r10=some sy2:=p2
 unfold uS at p2
 refine Q60 ?_
 refine z1 p2 (fun p2=>?_) (fun p2=>?_)
 refine Q5 ?_
 have ⟨y3,hy3,p2⟩:=bE p2
 refine tl .normal ⟨[(0,.d (zS eMapping a0)),(1,.d (db a1)),(5,.row 10),(6,.d (di v6)),(7,.d (di v7))],[(10,.row 33 (eL eI).size false ((eL eI).all y3))]⟩ ?_ ?_
 refine Q80 ?_
 have ⟨b24,hb24,hy3⟩:=bE hy3
 refine z9 ((zC (lq rfl) rfl).bool (oi hb24)) ?_
 refine q38 (.d (zS eMapping a0)) ?_
 refine q38 (.d (di v7)) ?_
 have ⟨t27,ht27,hy3⟩:=bE hy3
 refine sqf (.ip (eMapping.all a0) (v7.toNat*eMapping.size)) rfl (fun hb=>by subst hb;exact kN (en:=eMapping) (lq rfl) S23 rfl rfl ht27) ?_
 refine z8O (.ip (eMapping.all a0) (v7.toNat*eMapping.size+2)) zBO ?_
 refine sqf (.d (ds t27.Tag)) rfl (fun hb=>by subst hb;exact zZ (en:=eMapping) (l:=a0) (i:=v7) (v:=t27) (off:=2) (lq rfl) O9 rfl ht27 rfl) ?_
 refine sqf (.d (db (t27.Tag== []))) rfl (fun hb=>by subst hb;exact zKK (a:=t27.Tag) (b:=[]) (lq rfl) rfl rfl) ?_
 refine Q37 ?_
 refine z1 hy3 (fun hy3=>?_) (fun hy3=>?_)
 refine Q63 ?_
 refine Q34 ?_
 have ⟨t38,ht38,hy3⟩:=bE hy3
 refine q11 S23 ht38 ?_
 refine q46 zCW ?_
 refine q84 O33 ht38 ?_
 refine q0 ?_
 have ⟨t42,ht42,hy3⟩:=bE hy3
 refine yF rfl (zDV [(3001,10)] (zNK ht42) (lq rfl) (by decide) ⟨rfl,rfl,rfl,rfl,trivial⟩ rfl rfl ⟨rfl,trivial⟩ rfl rfl rfl (fun _=>rfl) rfl) ?_
 have ⟨t43,ht43,hy3⟩:=bE hy3
 refine q80 S78 ht43 ?_
 have ⟨r10_4,hr10_4,hy3⟩:=bE hy3
 refine yF rfl (vF (en:=(eL eI)) (l:=r10) (i:=v7) (v:=t43) (off:=0) O33 rfl rfl rfl ht43 rfl (by decide) hr10_4 rfl rfl) ?_
 refine zK ?_
 cases hy3
 exact zH (wc)
 refine zL ?_
 cases hy3
 exact zH (wc)
 refine Q11 ?_
 cases p2
 exact wc
 refine zF ?_
 cases p2
 intro q;cases q
 exact zH (wc)
 refine Q11 ?_
 cases p1
 exact wc
 refine zF ?_
 cases p1
 intro q;cases q
 exact zH (wc)
 refine Q61 ?_
 cases h
 refine zB ?_
 exact zI rfl
theorem zV0 {a0 a1 a2 r} (h:zGY a0 a1 a2=some r):zG Tryz.prog 41 [(eNorm.dv a0),(zS eI a1),(db a2)] [(zS eI r)]:=by
 refine co Tryz.func41 ?_;intro _ _ _ _
 unfold zGY at h
 refine Q40 ?_
 refine Q16 ?_
 refine z3 MX rfl ?_
 refine q19 zPC ?_
 refine q33 O23 ?_
 refine q19 zPC ?_
 refine q33 O23 ?_
 refine q7 ?_
 have ⟨t12,ht12,h⟩:=bE h
 refine q22 (zS6 ht12) ?_
 refine Q27 ?_
 have ⟨t15,ht15,h⟩:=bE h
 refine q22 (zOM ht15) ?_
 refine Q51 ?_
 cases h
 refine zB ?_
 exact zI rfl
theorem zV1 {a0 a1 r} (h:zEW a0 a1=some r):zG Tryz.prog 40 [(zS eSpan a0),(zS eI a1)] [(zS eI r)]:=by
 refine co Tryz.func40 ?_;intro _ _ _ _
 unfold zEW at h
 refine z1C ?_
 refine zO (xC (t:=5) 1005 3 eI.size (lq rfl) (lq rfl) rfl rfl) ?_
 refine Q32 ?_
 have ⟨y1,hy1,h⟩:=bE h
 refine tl (.exit 0) ⟨[(5,.row 1005)],[(1005,.row 3 eI.size false (eI.all y1))]⟩ ?_ ?_
 refine zD (fun x=>⟨[(0,.d (zS eSpan a0)),(1,.d (zS eI a1)),(5,.row 1005),(6,.d (di x.1))],[(1005,.row 3 eI.size false (eI.all x.2))]⟩) hy1 (wc) ?_
 rintro ⟨v6,r1005⟩ sy1 p1
 replace p1:wT a1 a0 v6 r1005=some sy1:=p1
 unfold wT at p1
 refine Q12 ?_
 refine Q83 ?_
 refine z1 p1 (fun p1=>?_) (fun p1=>?_)
 refine Q29 ?_
 refine Q34 ?_
 have ⟨t18,ht18,p1⟩:=bE p1
 refine q11 yD ht18 ?_
 refine q35 O3 ht18 ?_
 refine q24 yD ?_
 have ⟨r1005_2,hr1005_2,p1⟩:=bE p1
 refine yF rfl (yK (en:=eI) (l:=r1005) (m:=[t18]) (lq rfl) yD rfl rfl rfl hr1005_2 (by decide) (by decide) rfl rfl) ?_
 refine Q13 ?_
 refine Q15 ?_
 refine q0 ?_
 have ⟨t25,ht25,p1⟩:=bE p1
 refine q11 yD ht25 ?_
 refine q35 O3 ht25 ?_
 have ⟨t27,ht27,p1⟩:=bE p1
 refine q8 (zDP ht27) ?_
 refine Q39 ?_
 refine q10 ?_
 refine z5H yD ?_
 refine Q73 ?_
 refine yY ?_
 have ⟨y3,hy3,p1⟩:=bE p1
 refine tl (.exit 2) ⟨[(0,.d (zS eSpan a0)),(1,.d (zS eI a1)),(5,.row 1005),(6,.d (di v6))],[(1005,.row 3 eI.size false (eI.all y3))]⟩ ?_ ?_
 refine zD (fun x=>⟨[(0,.d (zS eSpan a0)),(1,.d (zS eI a1)),(5,.row 1005),(6,.d (di v6)),(7,.d (di t27)),(8,.d (di x.1))],[(1005,.row 3 eI.size false (eI.all x.2))]⟩) hy3 (wc) ?_
 rintro ⟨v8,r1005⟩ sy3 p3
 replace p3:vY t27 a0 a1 v6 v8 r1005=some sy3:=p3
 unfold vY at p3
 refine Q4 ?_
 refine q37 ?_
 have ⟨b33,hb33,p3⟩:=bE p3
 refine z9 ((zC (lq rfl) rfl).bool (oi hb33)) ?_
 refine q13 (.d (di t27)) ?_
 refine sqt (.d (db (decide (0 < t27)))) rfl (fun hb=>by subst hb;exact zO3 (lq rfl) rfl rfl) ?_
 refine q14 ?_
 have ⟨b37,hb37,p3⟩:=bE p3
 refine z9 ((zC (lq rfl) rfl).bool (oi hb37)) ?_
 refine q13 (.d (zS eSpan a0)) ?_
 refine sqt (.row 1005) rfl (fun hb=>by subst hb;exact zGP (lq rfl) rfl) ?_
 refine q13 (.d (di v8)) ?_
 refine sqt (.d (di (wi (v8 - 1)))) rfl (fun hb=>by subst hb;exact zT5 (lq rfl) rfl rfl) ?_
 have ⟨t42,ht42,p3⟩:=bE p3
 refine sqt (.ptr 1005 ((wi (v8 - 1)).toNat*eI.size)) rfl (fun hb=>by subst hb;exact zDC (en:=eI) (l:=r1005) (lq rfl) yD rfl rfl rfl ht42) ?_
 refine sqt (.d (di t42)) rfl (fun hb=>by subst hb;exact xR (en:=eI) (l:=r1005) (i:=(wi (v8 - 1))) (v:=t42) (off:=0) (lq rfl) O3 rfl rfl ht42 rfl) ?_
 have ⟨t44,ht44,p3⟩:=bE p3
 refine sqt (.d (di t44)) rfl (fun hb=>by subst hb;exact wD (lq rfl) rfl (zDP ht44)) ?_
 refine q13 (.d (di t27)) ?_
 refine sqt (.d (db (decide (t27 < t44)))) rfl (fun hb=>by subst hb;exact zO3 (lq rfl) rfl rfl) ?_
 refine Q36 ?_
 refine z1 p3 (fun p3=>?_) (fun p3=>?_)
 refine Q29 ?_
 refine Q18 ?_
 refine Q18 ?_
 refine q31 ?_
 have ⟨t55,ht55,p3⟩:=bE p3
 refine q80 yD ht55 ?_
 refine z9 (xR (en:=eI) (l:=r1005) (i:=(wi (v8 - 1))) (v:=t55) (off:=0) (lq rfl) O3 rfl rfl ht55 rfl) ?_
 have ⟨t57,ht57,p3⟩:=bE p3
 refine q80 yD ht57 ?_
 have ⟨r1005_4,hr1005_4,p3⟩:=bE p3
 refine yF rfl (vF (en:=eI) (l:=r1005) (i:=v8) (v:=t57) (off:=0) O3 rfl rfl rfl ht57 rfl (by decide) hr1005_4 rfl rfl) ?_
 refine zK<|zVV ?_
 refine q31 ?_
 refine Q82 ?_
 have ⟨t63,ht63,p3⟩:=bE p3
 refine q11 yD ht63 ?_
 refine q35 O3 ht63 ?_
 have ⟨t65,ht65,p3⟩:=bE p3
 refine q80 yD ht65 ?_
 have ⟨r1005_5,hr1005_5,p3⟩:=bE p3
 refine yF rfl (vF (en:=eI) (l:=r1005_4) (i:=(wi (v8 - 1))) (v:=t65) (off:=0) O3 rfl rfl rfl ht65 rfl (by decide) hr1005_5 rfl rfl) ?_
 refine zK<|Q7 ?_
 refine Q73 ?_
 cases p3
 exact wc
 refine zF ?_
 cases p3
 intro q;cases q
 exact zH (wc)
 refine Q11 ?_
 cases p1
 exact wc
 refine zF ?_
 cases p1
 intro q;cases q
 exact zH (wc)
 refine Q61 ?_
 cases h
 refine zB ?_
 exact zI rfl
theorem zNL {a0 a1 a2 r} (h:zEX a0 a1 a2=some r):zG Tryz.prog 16 [(eNorm.dv a0),(zS eI a1),(db a2)] [(zS eI r)]:=by
 refine co Tryz.func16 ?_;intro _ _ _ _
 unfold zEX at h
 refine Q40 ?_
 refine Q39 ?_
 refine q21 G28 ?_
 have ⟨t9,ht9,h⟩:=bE h
 refine q8 (xF ht9) ?_
 refine yGJ ?_
 refine q16 G28 ?_
 refine zK ?_
 refine zO (z2 (t:=7) (lq rfl) rfl rfl rfl) ?_
 refine kF ?_
 refine z3 MX rfl ?_
 refine q19 vZ ?_
 refine q33 O22 ?_
 refine q69 G28 ?_
 refine Q27 ?_
 have ⟨t15,ht15,h⟩:=bE h
 refine q22 (zV0 ht15) ?_
 have ⟨t16,ht16,h⟩:=bE h
 refine q22 (zV1 ht16) ?_
 refine Q51 ?_
 cases h
 refine zB ?_
 exact zI rfl
theorem zS7 {a0 r} (h:zFH a0=some r):zG Tryz.prog 81 [(eOptions.dv a0)] [(di r)]:=by
 refine co Tryz.func81 ?_;intro _ _ _ _
 unfold zFH at h
 refine z1F ?_
 refine Q53 ?_
 refine q5 zPD ?_
 refine z1E ?_
 have ⟨b6,hb6,h⟩:=bE h
 refine z9 ((zC (lq rfl) rfl).bool (oi hb6)) ?_
 refine q25 (.ip (eOptions.cells a0) (0+0)) zPD ?_
 refine q26 (.d (di a0.Strength)) O3 ?_
 refine q43 (.d (db (decide (4 < a0.Strength)))) ?_
 refine Q37 ?_
 refine z1 h (fun h=>?_) (fun h=>?_)
 refine Q3 ?_
 cases h
 refine zB ?_
 exact zI rfl
 refine Q71 ?_
 refine q5 zYJ ?_
 refine z1E ?_
 have ⟨b14,hb14,h⟩:=bE h
 refine z9 ((zC (lq rfl) rfl).bool (oi hb14)) ?_
 refine q25 (.ip (eOptions.cells a0) (0+1)) zYJ ?_
 refine q26 (.d (di a0.Variable)) O3 ?_
 refine q43 (.d (db (decide (3 < a0.Variable)))) ?_
 refine Q37 ?_
 refine z1 h (fun h=>?_) (fun h=>?_)
 refine Q3 ?_
 cases h
 refine zB ?_
 exact zI rfl
 refine Q58 ?_
 cases h
 refine zB ?_
 exact zI rfl
theorem zJY {a0 r} (h:zB6 a0=some r):zG Tryz.prog 44 [(eOptions.dv a0)] [(eOptions.dv r)]:=by
 refine co Tryz.func44 ?_;intro _ _ _ _
 unfold zB6 at h
 refine z1F ?_
 refine yF rfl (yP (zs:=[(.int IntKind.i64 (0)),(.int IntKind.i64 (0)),(.bool false),(.bool false)]) (lq rfl) (by kernel_rfl) rfl rfl) ?_
 refine zVT ?_
 refine q21 G49 ?_
 have ⟨t4,ht4,h⟩:=bE h
 refine q8 (zS7 ht4) ?_
 refine Q33 ?_
 refine z1 h (fun h=>?_) (fun h=>?_)
 refine Q0 ?_
 refine q48 B49 ?_
 refine z1O ?_
 cases h
 refine zB ?_
 exact xJ rfl rfl G49 rfl
 refine Q50 ?_
 refine q21 G49 ?_
 refine z1O ?_
 cases h
 refine zB ?_
 exact xJ rfl rfl G49 rfl
theorem zJD {a0 a1 r} (h:zCT a0 a1=some r):zG Tryz.prog 115 [(eCollation.dv a0),(zS eI a1)] [(zS eElement r.1),(db r.2)]:=by
 refine co Tryz.func115 ?_;intro _ _ _ _
 unfold zCT at h
 refine Q84 ?_
 refine q1 ?_
 refine Q96 ?_
 have ⟨y1,hy1,h⟩:=bE h
 refine zR y1 (.exit 0) (fun y1=>⟨[],[]⟩) .ret (fun y1=>⟨[(4,.row 22),(5,.d (db y1.1))],[(22,.row 64 eElement.size false (eElement.all y1.2))]⟩) ?_ ?_ ?_
 refine zD (fun x=>⟨[(1,.d (zS eI a1)),(2,.d (.pt (eCollation.cells a0))),(6,.d (di x))],[]⟩) hy1 (wc) ?_
 rintro v6 sy1 p1
 replace p1:zCA a0 a1 v6=some sy1:=p1
 unfold zCA at p1
 refine Q4 ?_
 refine z88 ?_
 refine Q6 ?_
 refine z1 p1 (fun p1=>?_) (fun p1=>?_)
 refine Q29 ?_
 refine Q70 ?_
 refine q0 ?_
 have ⟨t17,ht17,p1⟩:=bE p1
 refine q11 S29 ht17 ?_
 refine q46 zG1 ?_
 refine yIQ O33 ht17 ?_
 refine q0 ?_
 have ⟨t21,ht21,p1⟩:=bE p1
 refine q8 (zFB ht21) ?_
 refine zK ?_
 refine z1 p1 (fun p1=>?_) (fun p1=>?_)
 refine Q0 ?_
 refine q85 S39 ?_
 refine Q70 ?_
 refine q0 ?_
 have ⟨t26,ht26,p1⟩:=bE p1
 refine q11 S29 ht26 ?_
 refine q46 zKU ?_
 refine z9 (zZ (en:=eEntry) (l:=a0.Entries) (i:=v6) (v:=t26) (off:=1) (lq rfl) O39 rfl ht26 rfl) ?_
 have ⟨r22_2,hr22_2,p1⟩:=bE p1
 refine yF rfl (yK (en:=eElement) (l:=[]) (m:=t26.Elements) (lq rfl) S39 rfl rfl rfl hr22_2 (by decide) (by decide) rfl rfl) ?_
 refine q15 ?_
 refine Q1 ?_
 refine zB ?_
 cases p1
 intro q;cases q
 exact ⟨rfl,wc⟩
 refine Q28 ?_
 cases p1
 exact wc
 refine zF ?_
 cases p1
 intro q;cases q
 exact ⟨rfl,wc⟩
 rintro y1 rfl
 replace h:=eL h
 refine Q0 ?_
 refine Q46 ?_
 refine zO (xC (t:=4) 1004 64 eElement.size (lq rfl) (lq rfl) rfl rfl) ?_
 cases h
 refine zB ?_
 exact zE5 rfl rfl
 rintro y1 rfl
 replace h:=eR h
 cases h
 exact zE5 rfl rfl
theorem zNM {a0 a1 r} (h:zEY a0 a1=some r):zG Tryz.prog 132 [(zS eI a0),(di a1)] [(zS eI r)]:=by
 refine co Tryz.func132 ?_;intro _ _ _ _
 unfold zEY at h
 refine Q3 ?_
 refine Q0 ?_
 refine q85 yD ?_
 refine q0 ?_
 have ⟨r5_1,hr5_1,h⟩:=bE h
 refine yF rfl (yK (en:=eI) (l:=[]) (m:=a0) (lq rfl) yD rfl rfl rfl hr5_1 (by decide) (by decide) rfl rfl) ?_
 refine q0 ?_
 refine q24 yD ?_
 have ⟨r5_2,hr5_2,h⟩:=bE h
 refine yF rfl (yK (en:=eI) (l:=r5_1) (m:=[a1]) (lq rfl) yD rfl rfl rfl hr5_2 (by decide) (by decide) rfl rfl) ?_
 refine Q13 ?_
 cases h
 refine zB ?_
 exact zI rfl
theorem zP2 {a0 a1 a2 r} (h:zDL a0 a1 a2=some r):zG Tryz.prog 113 [(zS eSpan a0),(eCollation.dv a1),(zS eI a2)] [(zS eI r.1),(zS eI r.2.1),(db r.2.2)]:=by
 refine co Tryz.func113 ?_;intro _ _ _ _
 unfold zDL at h
 refine Q84 ?_
 refine q1 ?_
 refine Q46 ?_
 refine Q74 ?_
 have ⟨y1,hy1,h⟩:=bE h
 refine tl (.exit 0) ⟨[(0,.d (zS eSpan a0)),(2,.d (zS eI a2)),(4,.d (.pt (eCollation.cells a1))),(9,.d (di y1))],[]⟩ ?_ ?_
 refine zD (fun x=>⟨[(0,.d (zS eSpan a0)),(2,.d (zS eI a2)),(4,.d (.pt (eCollation.cells a1))),(9,.d (di x.1)),(10,.d (di x.2))],[]⟩) hy1 (wc) ?_
 rintro ⟨v9,v10⟩ sy1 p1
 replace p1:jZ a2 a1 v9 v10=some sy1:=p1
 unfold jZ at p1
 refine Q12 ?_
 refine q4 yD ?_
 refine q70 ?_
 refine zK ?_
 refine z1 p1 (fun p1=>?_) (fun p1=>?_)
 refine Q5 ?_
 have ⟨y2,hy2,p1⟩:=bE p1
 refine tl .normal ⟨[(0,.d (zS eSpan a0)),(2,.d (zS eI a2)),(4,.d (.pt (eCollation.cells a1))),(9,.d (di y2)),(10,.d (di v10))],[]⟩ ?_ ?_
 refine yY<|kF ?_
 refine z3 MX rfl ?_
 refine q69 G32 ?_
 refine Q27 ?_
 have ⟨t30,ht30,hy2⟩:=bE hy2
 refine vO (zRA (en:=eI) (lq rfl) yD rfl rfl ht30) ?_
 have ⟨t31,ht31,hy2⟩:=bE hy2
 refine q22 (zJD ht31) ?_
 refine vO (zIY (lq rfl) rfl) ?_
 refine z5M ?_
 refine z5M ?_
 refine z1N ?_
 refine Q2 ?_
 refine zK ?_
 refine z1 hy2 (fun hy2=>?_) (fun hy2=>?_)
 refine Q81 ?_
 cases hy2
 exact zH (wc)
 refine zL ?_
 cases hy2
 exact zH (wc)
 refine Q11 ?_
 cases p1
 exact wc
 refine zF ?_
 cases p1
 intro q;cases q
 exact zH (wc)
 refine Q4 ?_
 refine Q87 ?_
 refine z1 h (fun h=>?_) (fun h=>?_)
 refine kF ?_
 refine z3 MX rfl ?_
 refine q7 ?_
 have ⟨t39,ht39,h⟩:=bE h
 refine vO (zRA (en:=eI) (lq rfl) yD rfl rfl ht39) ?_
 refine q7 ?_
 have ⟨t41,ht41,h⟩:=bE h
 refine vO (zXX (en:=eI) (lq rfl) yD rfl rfl ht41) ?_
 refine q41 ?_
 refine z1N ?_
 cases h
 refine zB ?_
 exact zTZ rfl rfl rfl
 refine Q50 ?_
 refine q85 yD ?_
 refine Q82 ?_
 have ⟨t45,ht45,h⟩:=bE h
 refine z9 (zRA (en:=eI) (lq rfl) yD rfl rfl ht45) ?_
 have ⟨r42_3,hr42_3,h⟩:=bE h
 refine yF rfl (yK (en:=eI) (l:=[]) (m:=t45) (lq rfl) yD rfl rfl rfl hr42_3 (by decide) (by decide) rfl rfl) ?_
 refine Q13 ?_
 refine zO (zCL (t:=13) (lq rfl) rfl rfl) ?_
 refine Q3 ?_
 refine zO (xC (t:=14) 1014 3 eI.size (lq rfl) (lq rfl) rfl rfl) ?_
 refine Q59 ?_
 refine Q76 ?_
 have ⟨y4,hy4,h⟩:=bE h
 refine tl (.exit 2) ⟨[(2,.d (zS eI a2)),(13,.d (zS eI y4.1)),(14,.row 1014),(16,.d (di y4.2.1))],[(1014,.row 3 eI.size false (eI.all y4.2.2))]⟩ ?_ ?_
 refine zD (fun x=>⟨[(0,.d (zS eSpan a0)),(2,.d (zS eI a2)),(4,.d (.pt (eCollation.cells a1))),(13,.d (zS eI x.1)),(14,.row 1014),(15,.d (di x.2.1)),(16,.d (di x.2.2.1))],[(1014,.row 3 eI.size false (eI.all x.2.2.2))]⟩) hy4 (wc) ?_
 rintro ⟨v13,v15,v16,r1014⟩ sy4 p4
 replace p4:xN a2 a0 a1 v13 v15 v16 r1014=some sy4:=p4
 unfold xN at p4
 refine Q12 ?_
 refine q4 yD ?_
 refine q3 ?_
 have ⟨b52,hb52,p4⟩:=bE p4
 refine z9 ((zC (lq rfl) rfl).bool (oi hb52)) ?_
 refine q13 (.d (zS eSpan a0)) ?_
 refine q13 (.d (zS eI a2)) ?_
 refine q13 (.d (di v16)) ?_
 have ⟨t56,ht56,p4⟩:=bE p4
 refine sqt (.ip (eI.all a2) (v16.toNat*eI.size)) rfl (fun hb=>by subst hb;exact kN (en:=eI) (lq rfl) yD rfl rfl ht56) ?_
 refine sqt (.d (di t56)) rfl (fun hb=>by subst hb;exact zZ (en:=eI) (l:=a2) (i:=v16) (v:=t56) (off:=0) (lq rfl) O3 rfl ht56 rfl) ?_
 have ⟨t58,ht58,p4⟩:=bE p4
 refine sqt (.d (db t58)) rfl (fun hb=>by subst hb;exact wD (lq rfl) rfl (zP0 ht58)) ?_
 refine zYP (.d (db (!t58))) ?_
 refine Q36 ?_
 refine z1 p4 (fun p4=>?_) (fun p4=>?_)
 refine zL<|Q75 ?_
 refine q0 ?_
 have ⟨t64,ht64,p4⟩:=bE p4
 refine q11 yD ht64 ?_
 refine q35 O3 ht64 ?_
 have ⟨t66,ht66,p4⟩:=bE p4
 refine q8 (zDP ht66) ?_
 refine Q16 ?_
 refine z3 MX rfl ?_
 refine q69 G32 ?_
 refine Q27 ?_
 refine q7 ?_
 have ⟨t72,ht72,p4⟩:=bE p4
 refine q23 yD ht72 ?_
 refine q67 O3 ht72 ?_
 have ⟨t74,ht74,p4⟩:=bE p4
 refine q22 (zNM ht74) ?_
 have ⟨t75,ht75,p4⟩:=bE p4
 refine q22 (zJD ht75) ?_
 refine vO (zIY (lq rfl) rfl) ?_
 refine z5M ?_
 refine z5M ?_
 refine z1N ?_
 refine Q4 ?_
 have ⟨b79,hb79,p4⟩:=bE p4
 refine z9 ((zC (lq rfl) rfl).bool (oi hb79)) ?_
 refine q13 (.d (di t66)) ?_
 refine q13 (.d (di v15)) ?_
 refine sqt (.d (db (decide (v15 < t66)))) rfl (fun hb=>by subst hb;exact zO3 (lq rfl) rfl rfl) ?_
 refine Q36 ?_
 have ⟨y5,hy5,p4⟩:=bE p4
 refine tl .normal ⟨[(0,.d (zS eSpan a0)),(2,.d (zS eI a2)),(4,.d (.pt (eCollation.cells a1))),(13,.d (zS eI y5.1)),(14,.row 1014),(15,.d (di y5.2.1)),(16,.d (di v16))],[(1014,.row 3 eI.size false (eI.all y5.2.2))]⟩ ?_ ?_
 refine z1 hy5 (fun hy5=>?_) (fun hy5=>?_)
 refine Q66 ?_
 refine q0 ?_
 have ⟨t87,ht87,hy5⟩:=bE hy5
 refine q11 yD ht87 ?_
 refine q35 O3 ht87 ?_
 have ⟨t89,ht89,hy5⟩:=bE hy5
 refine q8 (zNM ht89) ?_
 refine Q1 ?_
 cases hy5
 exact zH (wc)
 refine Q86 ?_
 have ⟨t93,ht93,hy5⟩:=bE hy5
 refine q11 yD ht93 ?_
 refine q35 O3 ht93 ?_
 refine q24 yD ?_
 have ⟨r1014_6,hr1014_6,hy5⟩:=bE hy5
 refine yF rfl (yK (en:=eI) (l:=r1014) (m:=[t93]) (lq rfl) yD rfl rfl rfl hr1014_6 (by decide) (by decide) rfl rfl) ?_
 refine Q13 ?_
 refine Q66 ?_
 refine yCX ?_
 refine Q1 ?_
 cases hy5
 exact zH (wc)
 refine Q11 ?_
 cases p4
 exact wc
 refine zF ?_
 cases p4
 intro q;cases q
 exact zH (wc)
 refine Q2 ?_
 refine Q34 ?_
 have ⟨t106,ht106,h⟩:=bE h
 refine z9 (zXX (en:=eI) (lq rfl) yD rfl rfl ht106) ?_
 have ⟨r1014_7,hr1014_7,h⟩:=bE h
 refine yF rfl (yK (en:=eI) (l:=y4.2.2) (m:=t106) (lq rfl) yD rfl rfl rfl hr1014_7 (by decide) (by decide) rfl rfl) ?_
 refine q1 ?_
 refine q15 ?_
 refine Q1 ?_
 cases h
 refine zB ?_
 exact zTZ rfl rfl rfl
theorem zON {a0 a1 r} (h:zCU a0 a1=some r):zG Tryz.prog 114 [(eCollation.dv a0),(di a1)] [(zS eElement r)]:=by
 refine co Tryz.func114 ?_;intro _ _ _ _
 unfold zCU at h
 refine Q84 ?_
 refine Q1 ?_
 refine Q4 ?_
 have ⟨t7,ht7,h⟩:=bE h
 refine q8 (wV ht7) ?_
 refine Q42 ?_
 refine z1 h (fun h=>?_) (fun h=>?_)
 refine Q3 ?_
 refine zO (zGQ (t:=4) eElement.size (lq rfl) rfl) ?_
 cases h
 refine zB ?_
 exact zI rfl
 refine Q50 ?_
 refine q21 G32 ?_
 have ⟨t10,ht10,h⟩:=bE h
 refine q8 (zT ht10) ?_
 refine yIS ?_
 refine q16 G32 ?_
 refine zK ?_
 refine zO (z2 (t:=5) (lq rfl) rfl rfl rfl) ?_
 refine Q0 ?_
 refine q5 zLZ ?_
 refine q6 O3 ?_
 refine q0 ?_
 have ⟨t14,ht14,h⟩:=bE h
 refine z05 ht14 ?_
 refine q2 ?_
 refine q5 z2U ?_
 refine q6 O3 ?_
 refine q5 z2V ?_
 refine q6 O3 ?_
 refine q48 B64 ?_
 refine q0 ?_
 have ⟨t22,ht22,h⟩:=bE h
 refine q91 ht22 ?_
 refine q2 ?_
 refine q48 B64 ?_
 refine q24 S39 ?_
 refine Q1 ?_
 cases h
 refine zB ?_
 exact zI rfl
set_option maxHeartbeats 8000000 in
theorem zV2 {a0 a1 a2 r} (h:zGZ a0 a1 a2=some r):zG Tryz.prog 83 [(eNorm.dv a0),(eCollation.dv a1),(zS eI a2)] [(zS eElement r.1),(db r.2)]:=by
 refine co Tryz.func83 ?_;intro _ _ _ _
 unfold zGZ at h
 refine z1B ?_
 refine q1 ?_
 refine Q16 ?_
 have ⟨t18,ht18,h⟩:=bE h
 have ⟨t21,ht21,h⟩:=bE h
 refine tl .normal ⟨[(2,.d (zS eI a2)),(3,.d (.pt (eNorm.cells a0))),(4,.d (.pt (eCollation.cells a1))),(8,.d (zS eSpan t18.Classes)),(9,.ptr 9 0)],[(9,.box 32 [.d (zS eEntry t21.Entries),.d (zS eGroup t21.Groups),.d (di t21.Base),.d (di t21.Second),.d (di t21.Third)])]⟩ ?_ ?_
 refine zD6 MX ?_
 refine xn [0,3,5] ?_
 refine q94 G28 ?_ ?_
 refine xn [1,3,5] ?_
 refine q77 (xF ht18) ?_ ?_
 refine xn [2,3,5] ?_
 refine q53 vZ O22 ?_ ?_
 refine xn [3,5] ?_
 refine q94 G32 ?_ ?_
 refine xn [4,5] ?_
 refine q77 (zT ht21) ?_ ?_
 refine z1P ?_
 exact ae
 refine q36 ?_
 refine xn [4] ?_
 refine q27 (zT ht21) ?_
 refine Q26 ?_
 exact ae
 refine q36 ?_
 refine xn [3] ?_
 refine q56 G32 ?_
 refine xn [4] ?_
 refine q27 (zT ht21) ?_
 refine Q26 ?_
 exact ae
 refine q94 G32 ?_ ?_
 refine xn [2,4,5] ?_
 refine q53 vZ O22 ?_ ?_
 refine xn [4,5] ?_
 refine q77 (zT ht21) ?_ ?_
 refine z1P ?_
 exact ae
 refine q36 ?_
 refine xn [4] ?_
 refine q27 (zT ht21) ?_
 refine Q26 ?_
 exact ae
 refine q77 (zT ht21) ?_ ?_
 refine xn [2,5] ?_
 refine q53 vZ O22 ?_ ?_
 refine z1P ?_
 exact ae
 refine q36 ?_
 refine Q68 ?_
 exact ae
 refine q36 ?_
 refine xn [2,4] ?_
 refine q53 vZ O22 ?_ ?_
 refine xn [4] ?_
 refine q27 (zT ht21) ?_
 refine Q26 ?_
 exact ae
 refine q27 (zT ht21) ?_
 refine Q68 ?_
 exact ae
 refine q36 ?_
 refine xn [2,3] ?_
 refine q53 vZ O22 ?_ ?_
 refine xn [3] ?_
 refine q56 G32 ?_
 refine xn [4] ?_
 refine q27 (zT ht21) ?_
 refine Q26 ?_
 exact ae
 refine q56 G32 ?_
 refine xn [2,4] ?_
 refine q53 vZ O22 ?_ ?_
 refine xn [4] ?_
 refine q27 (zT ht21) ?_
 refine Q26 ?_
 exact ae
 refine q27 (zT ht21) ?_
 refine Q68 ?_
 exact ae
 refine q94 G32 ?_ ?_
 refine xn [1,5] ?_
 refine q77 (xF ht18) ?_ ?_
 refine xn [2,4,5] ?_
 refine q53 vZ O22 ?_ ?_
 refine xn [4,5] ?_
 refine q77 (zT ht21) ?_ ?_
 refine z1P ?_
 exact ae
 refine q36 ?_
 refine xn [4] ?_
 refine q27 (zT ht21) ?_
 refine Q26 ?_
 exact ae
 refine q77 (zT ht21) ?_ ?_
 refine xn [2,5] ?_
 refine q53 vZ O22 ?_ ?_
 refine z1P ?_
 exact ae
 refine q36 ?_
 refine Q68 ?_
 exact ae
 refine q36 ?_
 refine xn [2,4] ?_
 refine q53 vZ O22 ?_ ?_
 refine xn [4] ?_
 refine q27 (zT ht21) ?_
 refine Q26 ?_
 exact ae
 refine q27 (zT ht21) ?_
 refine Q68 ?_
 exact ae
 refine q36 ?_
 refine xn [1] ?_
 refine q27 (xF ht18) ?_
 refine xn [2,4] ?_
 refine q53 vZ O22 ?_ ?_
 refine xn [4] ?_
 refine q27 (zT ht21) ?_
 refine Q26 ?_
 exact ae
 refine q27 (zT ht21) ?_
 refine Q68 ?_
 exact ae
 refine q36 ?_
 refine xn [1,3] ?_
 refine q77 (xF ht18) ?_ ?_
 refine xn [2,3] ?_
 refine q53 vZ O22 ?_ ?_
 refine xn [3] ?_
 refine q56 G32 ?_
 refine xn [4] ?_
 refine q27 (zT ht21) ?_
 refine Q26 ?_
 exact ae
 refine q56 G32 ?_
 refine xn [2,4] ?_
 refine q53 vZ O22 ?_ ?_
 refine xn [4] ?_
 refine q27 (zT ht21) ?_
 refine Q26 ?_
 exact ae
 refine q27 (zT ht21) ?_
 refine Q68 ?_
 exact ae
 refine q56 G32 ?_
 refine xn [1] ?_
 refine q27 (xF ht18) ?_
 refine xn [2,4] ?_
 refine q53 vZ O22 ?_ ?_
 refine xn [4] ?_
 refine q27 (zT ht21) ?_
 refine Q26 ?_
 exact ae
 refine q27 (zT ht21) ?_
 refine Q68 ?_
 exact ae
 refine q94 G32 ?_ ?_
 refine xn [0,5] ?_
 refine q94 G28 ?_ ?_
 refine xn [1,5] ?_
 refine q77 (xF ht18) ?_ ?_
 refine xn [2,4,5] ?_
 refine q53 vZ O22 ?_ ?_
 refine xn [4,5] ?_
 refine q77 (zT ht21) ?_ ?_
 refine z1P ?_
 exact ae
 refine q36 ?_
 refine xn [4] ?_
 refine q27 (zT ht21) ?_
 refine Q26 ?_
 exact ae
 refine q77 (zT ht21) ?_ ?_
 refine xn [2,5] ?_
 refine q53 vZ O22 ?_ ?_
 refine z1P ?_
 exact ae
 refine q36 ?_
 refine Q68 ?_
 exact ae
 refine q36 ?_
 refine xn [2,4] ?_
 refine q53 vZ O22 ?_ ?_
 refine xn [4] ?_
 refine q27 (zT ht21) ?_
 refine Q26 ?_
 exact ae
 refine q27 (zT ht21) ?_
 refine Q68 ?_
 exact ae
 refine q36 ?_
 refine xn [1] ?_
 refine q27 (xF ht18) ?_
 refine xn [2,4] ?_
 refine q53 vZ O22 ?_ ?_
 refine xn [4] ?_
 refine q27 (zT ht21) ?_
 refine Q26 ?_
 exact ae
 refine q27 (zT ht21) ?_
 refine Q68 ?_
 exact ae
 refine q36 ?_
 refine xn [0] ?_
 refine q56 G28 ?_
 refine xn [1] ?_
 refine q27 (xF ht18) ?_
 refine xn [2,4] ?_
 refine q53 vZ O22 ?_ ?_
 refine xn [4] ?_
 refine q27 (zT ht21) ?_
 refine Q26 ?_
 exact ae
 refine q27 (zT ht21) ?_
 refine Q68 ?_
 exact ae
 refine q36 ?_
 refine xn [0,3] ?_
 refine q94 G28 ?_ ?_
 refine xn [1,3] ?_
 refine q77 (xF ht18) ?_ ?_
 refine xn [2,3] ?_
 refine q53 vZ O22 ?_ ?_
 refine xn [3] ?_
 refine q56 G32 ?_
 refine xn [4] ?_
 refine q27 (zT ht21) ?_
 refine Q26 ?_
 exact ae
 refine q56 G32 ?_
 refine xn [2,4] ?_
 refine q53 vZ O22 ?_ ?_
 refine xn [4] ?_
 refine q27 (zT ht21) ?_
 refine Q26 ?_
 exact ae
 refine q27 (zT ht21) ?_
 refine Q68 ?_
 exact ae
 refine q56 G32 ?_
 refine xn [1] ?_
 refine q27 (xF ht18) ?_
 refine xn [2,4] ?_
 refine q53 vZ O22 ?_ ?_
 refine xn [4] ?_
 refine q27 (zT ht21) ?_
 refine Q26 ?_
 exact ae
 refine q27 (zT ht21) ?_
 refine Q68 ?_
 exact ae
 refine q56 G32 ?_
 refine xn [0] ?_
 refine q56 G28 ?_
 refine xn [1] ?_
 refine q27 (xF ht18) ?_
 refine xn [2,4] ?_
 refine q53 vZ O22 ?_ ?_
 refine xn [4] ?_
 refine q27 (zT ht21) ?_
 refine Q26 ?_
 exact ae
 refine q27 (zT ht21) ?_
 refine Q68 ?_
 exact ae
 refine zO (z2 (t:=9) (lq rfl) rfl rfl rfl) ?_
 refine Q0 ?_
 refine q21 G28 ?_
 refine q0 ?_
 have ⟨t24,ht24,h⟩:=bE h
 refine q8 (zNL ht24) ?_
 refine Q1 ?_
 refine Q3 ?_
 refine zO (xC (t:=11) 1011 64 eElement.size (lq rfl) (lq rfl) rfl rfl) ?_
 refine Q3 ?_
 refine kF<|yY ?_
 have ⟨y1,hy1,h⟩:=bE h
 refine tl (.exit 0) ⟨[(11,.row 1011),(12,.d (db y1.1))],[(1011,.row 64 eElement.size false (eElement.all y1.2))]⟩ ?_ ?_
 refine zD (fun x=>⟨[(4,.d (.pt (eCollation.cells a1))),(8,.d (zS eSpan t18.Classes)),(9,.d (.pt (eCollation.cells t21))),(10,.d (zS eI x.1)),(11,.row 1011),(12,.d (db x.2.1))],[(1011,.row 64 eElement.size false (eElement.all x.2.2))]⟩) hy1 (wc) ?_
 rintro ⟨v10,v12,r1011⟩ sy1 p1
 replace p1:wU t18 t21 a1 v10 v12 r1011=some sy1:=p1
 unfold wU at p1
 refine Q4 ?_
 refine q4 yD ?_
 refine Q54 ?_
 refine z1 p1 (fun p1=>?_) (fun p1=>?_)
 refine zL<|Q80 ?_
 refine q21 G32 ?_
 refine q0 ?_
 have ⟨t32,ht32,p1⟩:=bE p1
 refine q8 (zP2 ht32) ?_
 refine Q78 ?_
 refine q42 ?_
 refine q1 ?_
 refine q1 ?_
 refine Q16 ?_
 refine z3 MX rfl ?_
 refine q69 G32 ?_
 refine q7 ?_
 have ⟨t38,ht38,p1⟩:=bE p1
 refine q23 yD ht38 ?_
 refine q67 O3 ht38 ?_
 have ⟨t40,ht40,p1⟩:=bE p1
 refine q22 (zON ht40) ?_
 refine Q51 ?_
 refine z1G ?_
 have ⟨y2,hy2,p1⟩:=bE p1
 refine tl .normal ⟨[(4,.d (.pt (eCollation.cells a1))),(8,.d (zS eSpan t18.Classes)),(9,.d (.pt (eCollation.cells t21))),(11,.row 1011),(12,.d (db v12)),(14,.d (zS eI t32.2.1)),(15,.d (db t32.2.2)),(16,.d (zS eElement y2))],[(1011,.row 64 eElement.size false (eElement.all r1011))]⟩ ?_ ?_
 refine z1 hy2 (fun hy2=>?_) (fun hy2=>?_)
 refine xG<|q21 G32 ?_
 refine q0 ?_
 have ⟨t45,ht45,hy2⟩:=bE hy2
 refine q8 (zJD ht45) ?_
 refine Q78 ?_
 refine Q1 ?_
 cases hy2
 exact zH (wc)
 refine zL ?_
 cases hy2
 exact zH (wc)
 refine Q0 ?_
 refine Q18 ?_
 have ⟨r1011_3,hr1011_3,p1⟩:=bE p1
 refine yF rfl (yK (en:=eElement) (l:=r1011) (m:=y2) (lq rfl) S39 rfl rfl rfl hr1011_3 (by decide) (by decide) rfl rfl) ?_
 refine Q13 ?_
 refine Q2 ?_
 have ⟨b52,hb52,p1⟩:=bE p1
 refine z9 ((zC (lq rfl) rfl).bool (oi hb52)) ?_
 refine q13 (.d (db t32.2.2)) ?_
 refine Q41 ?_
 refine Q81 ?_
 cases p1
 exact wc
 refine zF ?_
 cases p1
 intro q;cases q
 exact zH (wc)
 refine Q0 ?_
 refine Q18 ?_
 refine q15 ?_
 refine Q1 ?_
 cases h
 refine zB ?_
 exact zE5 rfl rfl
theorem zOO {a0 a1 a2 r} (h:zCV a0 a1 a2=some r):zG Tryz.prog 47 [(eNorm.dv a0),(eCollation.dv a1),(zS eI a2)] [(zS eElement r)]:=by
 refine co Tryz.func47 ?_;intro _ _ _ _
 unfold zCV at h
 refine z1B ?_
 refine Q39 ?_
 refine q21 G28 ?_
 refine q21 G32 ?_
 refine q0 ?_
 have ⟨t13,ht13,h⟩:=bE h
 refine q8 (zV2 ht13) ?_
 refine Q78 ?_
 refine z1L ?_
 refine Q1 ?_
 cases h
 refine zB ?_
 exact zI rfl
theorem zP3 {a0 a1 r} (h:zDM a0 a1=some r):zG Tryz.prog 82 [(zS eElement a0),(di a1)] [(zS eA4Int r)]:=by
 refine co Tryz.func82 ?_;intro _ _ _ _
 unfold zDM at h
 refine z1C ?_
 refine zO (xC (t:=5) 1005 121 eA4Int.size (lq rfl) (lq rfl) rfl rfl) ?_
 refine Q74 ?_
 have ⟨y1,hy1,h⟩:=bE h
 refine tl (.exit 0) ⟨[(5,.row 1005)],[(1005,.row 121 eA4Int.size false (eA4Int.all y1))]⟩ ?_ ?_
 refine zD (fun x=>⟨[(0,.d (zS eElement a0)),(1,.d (di a1)),(5,.row 1005),(6,.d (db x.1)),(7,.d (di x.2.1))],[(1005,.row 121 eA4Int.size false (eA4Int.all x.2.2))]⟩) hy1 (wc) ?_
 rintro ⟨v6,v7,r1005⟩ sy1 p1
 replace p1:uJ a0 a1 v6 v7 r1005=some sy1:=p1
 unfold uJ at p1
 refine Q12 ?_
 refine q4 S39 ?_
 refine Q6 ?_
 refine z1 p1 (fun p1=>?_) (fun p1=>?_)
 refine Q69 ?_
 have ⟨t19,ht19,p1⟩:=bE p1
 refine q11 S39 ht19 ?_
 refine z8S G64 ht19 ?_
 refine yCQ ?_
 refine q16 G64 ?_
 refine zK ?_
 refine zO (z2 (t:=8) (lq rfl) rfl rfl rfl) ?_
 refine Q0 ?_
 refine Q85 ?_
 refine q5 zM9 ?_
 refine q6 O3 ?_
 refine q5 zNA ?_
 refine q6 O3 ?_
 refine q78 zJ0 ?_
 refine yF rfl (yP (zs:=[(.int IntKind.i64 (0)),(.int IntKind.i64 (0)),(.int IntKind.i64 (0)),(.int IntKind.i64 (0))]) (lq rfl) (by kernel_rfl) rfl rfl) ?_
 refine q16 zOE ?_
 refine Q52 ?_
 refine Q85 ?_
 refine q39 ?_
 have ⟨b31,hb31,p1⟩:=bE p1
 refine z9 ((zC (lq rfl) rfl).bool (oi hb31)) ?_
 refine q54 (.ip (eElement.cells t19) (0+1)) zM9 ?_
 refine q62 (.d (di t19.Secondary)) O3 ?_
 refine q79 (.d (db (decide (t19.Secondary=0)))) ?_
 refine q14 ?_
 have ⟨b36,hb36,p1⟩:=bE p1
 refine z9 ((zC (lq rfl) rfl).bool (oi hb36)) ?_
 refine q54 (.ip (eElement.cells t19) (0+2)) zNA ?_
 refine q62 (.d (di t19.Tertiary)) O3 ?_
 refine q79 (.d (db (decide (t19.Tertiary=0)))) ?_
 refine q14 ?_
 refine Q53 ?_
 refine q5 zUI ?_
 refine q6 O4 ?_
 have ⟨b43,hb43,p1⟩:=bE p1
 refine z9 ((zC (lq rfl) rfl).bool (oi hb43)) ?_
 refine q25 (.ip (eElement.cells t19) (0+0)) zYM ?_
 refine q26 (.d (di t19.Primary)) O3 ?_
 refine sqf (.d (db (!decide (t19.Primary=0)))) rfl (fun hb=>by subst hb;exact zMX (lq rfl) rfl rfl) ?_
 refine Q37 ?_
 have ⟨y2,hy2,p1⟩:=bE p1
 refine tl .normal ⟨[(0,.d (zS eElement a0)),(1,.d (di a1)),(5,.row 1005),(6,.d (db y2)),(7,.d (di v7)),(8,.d (.pt (eElement.cells t19))),(9,.ptr 9 0),(10,.d (db (b36&&(decide (t19.Tertiary=0)))))],[(9,.box 121 [.d (di (({x0:=t19.Primary,x1:=t19.Secondary,x2:=t19.Tertiary,x3:=0}:A4Int).x0)),.d (di (({x0:=t19.Primary,x1:=t19.Secondary,x2:=t19.Tertiary,x3:=0}:A4Int).x1)),.d (di (({x0:=t19.Primary,x1:=t19.Secondary,x2:=t19.Tertiary,x3:=0}:A4Int).x2)),.d (di (({x0:=t19.Primary,x1:=t19.Secondary,x2:=t19.Tertiary,x3:=0}:A4Int).x3))]),(1005,.row 121 eA4Int.size false (eA4Int.all r1005))]⟩ ?_ ?_
 refine z1 hy2 (fun hy2=>?_) (fun hy2=>?_)
 refine xG<|q5 zUI ?_
 refine q6 O4 ?_
 refine Q1 ?_
 cases hy2
 exact zH (wc)
 refine zL ?_
 cases hy2
 exact zH (wc)
 refine kF ?_
 have ⟨y3,hy3,p1⟩:=bE p1
 refine tl .normal ⟨[(0,.d (zS eElement a0)),(1,.d (di a1)),(5,.row 1005),(6,.d (db y2)),(7,.d (di v7)),(9,.ptr 9 0)],[(9,.box 121 [.d (di y3.1),.d (di y3.2.1),.d (di y3.2.2.1),.d (di y3.2.2.2)]),(1005,.row 121 eA4Int.size false (eA4Int.all r1005))]⟩ ?_ ?_
 refine Q80 ?_
 refine Q88 ?_
 refine z1 hy3 (fun hy3=>?_) (fun hy3=>?_)
 refine Q2 ?_
 refine Q42 ?_
 refine z1 hy3 (fun hy3=>?_) (fun hy3=>?_)
 refine xG<|q65 zJ0 ?_
 refine zYX ?_
 cases hy3
 exact zH (wc)
 refine zL ?_
 cases hy3
 exact zH (wc)
 refine Q35 ?_
 refine z1 hy3 (fun hy3=>?_) (fun hy3=>?_)
 refine Q0 ?_
 refine q78 zJ0 ?_
 refine q16 zOE ?_
 refine zK<|Q2 ?_
 refine q39 ?_
 have ⟨b61,hb61,hy3⟩:=bE hy3
 refine z9 ((zC (lq rfl) rfl).bool (oi hb61)) ?_
 refine q54 (.ip (eElement.cells t19) (0+3)) zUI ?_
 refine q62 (.d (db t19.Variable)) O4 ?_
 refine Q36 ?_
 refine z1 hy3 (fun hy3=>?_) (fun hy3=>?_)
 refine xG<|Q85 ?_
 refine q65 zJ0 ?_
 refine zYX ?_
 cases hy3
 exact zH (wc)
 refine zL ?_
 cases hy3
 exact zH (wc)
 refine Q2 ?_
 refine q39 ?_
 have ⟨b71,hb71,hy3⟩:=bE hy3
 refine z9 ((zC (lq rfl) rfl).bool (oi hb71)) ?_
 refine q13 (.d (db (b36&&(decide (t19.Tertiary=0))))) ?_
 refine zYP (.d (db (!(b36&&(decide (t19.Tertiary=0)))))) ?_
 refine Q41 ?_
 refine z1 hy3 (fun hy3=>?_) (fun hy3=>?_)
 refine xG<|q65 zJ0 ?_
 refine zYX ?_
 cases hy3
 exact zH (wc)
 refine zL ?_
 cases hy3
 exact zH (wc)
 refine Q64 ?_
 refine z9 ((kM (lq rfl) zOE rfl rfl rfl rfl).data rfl) ?_
 refine q24 z5B ?_
 have ⟨r1005_4,hr1005_4,p1⟩:=bE p1
 refine yF rfl (yK (en:=eA4Int) (l:=r1005) (m:=[({x0:=y3.1,x1:=y3.2.1,x2:=y3.2.2.1,x3:=y3.2.2.2}:A4Int)]) (lq rfl) z5B rfl rfl rfl hr1005_4 (by decide) (by decide) rfl rfl) ?_
 refine Q13 ?_
 refine Q11 ?_
 cases p1
 exact wc
 refine zF ?_
 cases p1
 intro q;cases q
 exact zH (wc)
 refine Q61 ?_
 cases h
 refine zB ?_
 exact zI rfl
theorem zP4 {a0 a1 r} (h:zDN a0 a1=some r):zG Tryz.prog 46 [(zS eElement a0),(eOptions.dv a1)] [(zS (eL eI) r)]:=by
 refine co Tryz.func46 ?_;intro _ _ _ _
 unfold zDN at h
 refine Q0 ?_
 refine q89 ?_
 refine Q39 ?_
 refine z9 ((kM (lq rfl) G49 rfl rfl rfl rfl).data rfl) ?_
 have ⟨t12,ht12,h⟩:=bE h
 refine q8 (zJY ht12) ?_
 refine z1O ?_
 refine Q2 ?_
 refine q51 zYJ ?_
 refine q28 O3 ?_
 have ⟨t16,ht16,h⟩:=bE h
 refine q8 (zP3 ht16) ?_
 refine Q1 ?_
 refine Q3 ?_
 refine zO (xC (t:=6) 1006 33 (eL eI).size (lq rfl) (lq rfl) rfl rfl) ?_
 refine Q32 ?_
 have ⟨y1,hy1,h⟩:=bE h
 refine tl (.exit 0) ⟨[(6,.row 1006)],[(1006,.row 33 (eL eI).size false ((eL eI).all y1))]⟩ ?_ ?_
 refine zD (fun x=>⟨[(3,.ptr 3 0),(5,.d (zS eA4Int t16)),(6,.row 1006),(7,.d (di x.1))],[(3,.box 49 [.d (di t12.Strength),.d (di t12.Variable),.d (db t12.Backward),.d (db t12.Identical)]),(1006,.row 33 (eL eI).size false ((eL eI).all x.2))]⟩) hy1 (wc) ?_
 rintro ⟨v7,r1006⟩ sy1 p1
 replace p1:uL t12 t16 v7 r1006=some sy1:=p1
 unfold uL at p1
 refine Q4 ?_
 refine q51 zPD ?_
 refine q28 O3 ?_
 refine Q6 ?_
 refine z1 p1 (fun p1=>?_) (fun p1=>?_)
 refine Q8 ?_
 refine Q3 ?_
 refine zO (xC (t:=8) 1008 3 eI.size (lq rfl) (lq rfl) rfl rfl) ?_
 refine Q32 ?_
 have ⟨y2,hy2,p1⟩:=bE p1
 refine tl (.exit 2) ⟨[(3,.ptr 3 0),(5,.d (zS eA4Int t16)),(6,.row 1006),(7,.d (di v7)),(8,.row 1008)],[(3,.box 49 [.d (di t12.Strength),.d (di t12.Variable),.d (db t12.Backward),.d (db t12.Identical)]),(1006,.row 33 (eL eI).size false ((eL eI).all r1006)),(1008,.row 3 eI.size false (eI.all y2))]⟩ ?_ ?_
 refine zD (fun x=>⟨[(3,.ptr 3 0),(5,.d (zS eA4Int t16)),(6,.row 1006),(7,.d (di v7)),(8,.row 1008),(9,.d (di x.1))],[(3,.box 49 [.d (di t12.Strength),.d (di t12.Variable),.d (db t12.Backward),.d (db t12.Identical)]),(1006,.row 33 (eL eI).size false ((eL eI).all r1006)),(1008,.row 3 eI.size false (eI.all x.2))]⟩) hy2 (wc) ?_
 rintro ⟨v9,r1008⟩ sy2 p2
 replace p2:uK t16 v7 t12 v9 r1008=some sy2:=p2
 unfold uK at p2
 refine Q12 ?_
 refine q4 z5B ?_
 refine Q6 ?_
 refine z1 p2 (fun p2=>?_) (fun p2=>?_)
 refine Q5 ?_
 have ⟨y3,hy3,p2⟩:=bE p2
 refine tl .normal ⟨[(3,.ptr 3 0),(5,.d (zS eA4Int t16)),(6,.row 1006),(7,.d (di v7)),(8,.row 1008),(9,.d (di v9))],[(3,.box 49 [.d (di t12.Strength),.d (di t12.Variable),.d (db t12.Backward),.d (db t12.Identical)]),(1006,.row 33 (eL eI).size false ((eL eI).all r1006)),(1008,.row 3 eI.size false (eI.all y3))]⟩ ?_ ?_
 refine yY<|Q35 ?_
 refine Q4 ?_
 refine q39 ?_
 have ⟨b32,hb32,hy3⟩:=bE hy3
 refine z9 ((zC (lq rfl) rfl).bool (oi hb32)) ?_
 refine sqt (.ptr 3 2) rfl (fun hb=>by subst hb;exact zDQ (lq rfl) yEP rfl) ?_
 refine sqt (.d (db t12.Backward)) rfl (fun hb=>by subst hb;exact zCK (lq rfl) O4 rfl rfl rfl) ?_
 refine Q36 ?_
 have ⟨y4,hy4,hy3⟩:=bE hy3
 refine tl .normal ⟨[(3,.ptr 3 0),(5,.d (zS eA4Int t16)),(6,.row 1006),(7,.d (di v7)),(8,.row 1008),(9,.d (di v9)),(10,.d (di y4))],[(3,.box 49 [.d (di t12.Strength),.d (di t12.Variable),.d (db t12.Backward),.d (db t12.Identical)]),(1006,.row 33 (eL eI).size false ((eL eI).all r1006)),(1008,.row 3 eI.size false (eI.all r1008))]⟩ ?_ ?_
 refine z1 hy4 (fun hy4=>?_) (fun hy4=>?_)
 refine Q7 ?_
 refine q4 z5B ?_
 refine q31 ?_
 refine q0 ?_
 refine Q73 ?_
 cases hy4
 exact zH (wc)
 refine zL ?_
 cases hy4
 exact zH (wc)
 refine Q15 ?_
 refine q0 ?_
 have ⟨t44,ht44,hy3⟩:=bE hy3
 refine q11 z5B ht44 ?_
 have ⟨t45,ht45,hy3⟩:=bE hy3
 refine z9 (zUC (en:=eI) (l:=[t44.x0,t44.x1,t44.x2,t44.x3]) (lq rfl) zJ0 rfl rfl rfl ht45) ?_
 refine z9 (zYC (en:=eA4Int) (en2:=eI) (ls:=t16) (l:=[t44.x0,t44.x1,t44.x2,t44.x3]) (i:=y4) (j:=v7) (v:=t44) (lq rfl) O3 rfl ht44 ht45 rfl rfl) ?_
 refine Q33 ?_
 refine z1 hy3 (fun hy3=>?_) (fun hy3=>?_)
 refine Q63 ?_
 refine q0 ?_
 have ⟨t52,ht52,hy3⟩:=bE hy3
 refine q11 z5B ht52 ?_
 have ⟨t53,ht53,hy3⟩:=bE hy3
 refine z9 (zUC (en:=eI) (l:=[t52.x0,t52.x1,t52.x2,t52.x3]) (lq rfl) zJ0 rfl rfl rfl ht53) ?_
 refine z9 (zYC (en:=eA4Int) (en2:=eI) (ls:=t16) (l:=[t52.x0,t52.x1,t52.x2,t52.x3]) (i:=y4) (j:=v7) (v:=t52) (lq rfl) O3 rfl ht52 ht53 rfl rfl) ?_
 refine q24 yD ?_
 have ⟨r1008_5,hr1008_5,hy3⟩:=bE hy3
 refine yF rfl (yK (en:=eI) (l:=r1008) (m:=[t53]) (lq rfl) yD rfl rfl rfl hr1008_5 (by decide) (by decide) rfl rfl) ?_
 refine Q13 ?_
 cases hy3
 exact zH (wc)
 refine zL ?_
 cases hy3
 exact zH (wc)
 refine Q11 ?_
 cases p2
 exact wc
 refine zF ?_
 cases p2
 intro q;cases q
 exact zH (wc)
 refine Q64 ?_
 refine q10 ?_
 refine zHK (zCL (t:=58) (lq rfl) rfl rfl) ?_ (by simp)
 refine q24 S78 ?_
 have ⟨r1006_6,hr1006_6,p1⟩:=bE p1
 refine yF rfl (yK (en:=(eL eI)) (l:=r1006) (m:=[y2]) (lq rfl) S78 rfl rfl rfl hr1006_6 (by decide) (by decide) rfl rfl) ?_
 refine Q13 ?_
 refine Q11 ?_
 cases p1
 exact wc
 refine zF ?_
 cases p1
 intro q;cases q
 exact zH (wc)
 refine Q61 ?_
 cases h
 refine zB ?_
 exact zI rfl
theorem zV3 {a0} {r:(List Int)} (h:zI8 a0=some r):GC Tryz.prog 45 [.d (zS (eL eI) a0)] [] [] [.row 1003] [(1003,.row 3 eI.size false (eI.all r))]:=by
 refine zC7 Tryz.func45 (by kernel_rfl) rfl (lq rfl) (lq rfl) fun w0 I0 hG0 p0=>?_
 unfold zI8 at h
 refine z1C ?_
 refine zO (xC (t:=3) 1003 3 eI.size (lq rfl) (lq rfl) rfl rfl) ?_
 refine Q32 ?_
 have ⟨y1,hy1,h⟩:=bE h
 refine tl (.exit 0) ⟨[(3,.row 1003)],[(1003,.row 3 eI.size false (eI.all y1))]⟩ ?_ ?_
 refine zD (fun x=>⟨[(0,.d (zS (eL eI) a0)),(3,.row 1003),(4,.d (di x.1))],[(1003,.row 3 eI.size false (eI.all x.2))]⟩) hy1 (wc) ?_
 rintro ⟨v4,r1003⟩ sy1 p1
 replace p1:zCB a0 v4 r1003=some sy1:=p1
 unfold zCB at p1
 refine Q12 ?_
 refine q4 S78 ?_
 refine Q6 ?_
 refine z1 p1 (fun p1=>?_) (fun p1=>?_)
 refine Q8 ?_
 refine Q4 ?_
 refine Q54 ?_
 have ⟨y2,hy2,p1⟩:=bE p1
 refine tl .normal ⟨[(0,.d (zS (eL eI) a0)),(3,.row 1003),(4,.d (di v4))],[(1003,.row 3 eI.size false (eI.all y2))]⟩ ?_ ?_
 refine z1 hy2 (fun hy2=>?_) (fun hy2=>?_)
 refine Q64 ?_
 refine q24 yD ?_
 have ⟨r1003_3,hr1003_3,hy2⟩:=bE hy2
 refine yF rfl (yK (en:=eI) (l:=r1003) (m:=[0]) (lq rfl) yD rfl rfl rfl hr1003_3 (by decide) (by decide) rfl rfl) ?_
 refine Q13 ?_
 cases hy2
 exact zH (wc)
 refine zL ?_
 cases hy2
 exact zH (wc)
 refine Q63 ?_
 have ⟨t19,ht19,p1⟩:=bE p1
 refine q11 S78 ht19 ?_
 refine yGK O33 ht19 ?_
 have ⟨r1003_4,hr1003_4,p1⟩:=bE p1
 refine yF rfl (yK (en:=eI) (l:=y2) (m:=t19) (lq rfl) yD rfl rfl rfl hr1003_4 (by decide) (by decide) rfl rfl) ?_
 refine Q13 ?_
 refine Q11 ?_
 cases p1
 exact wc
 refine zF ?_
 cases p1
 intro q;cases q
 exact zH (wc)
 refine Q61 ?_
 cases h
 refine zB ?_
 exact ⟨⟨_,_,rfl,rfl,rfl⟩,⟨rfl,trivial⟩⟩
end Go.Proofs.YtjcbhabmkcdcnaaGreatDoor.Walk


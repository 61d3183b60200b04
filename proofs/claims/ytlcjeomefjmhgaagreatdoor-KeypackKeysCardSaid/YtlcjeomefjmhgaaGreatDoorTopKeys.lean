/- The packed keys of texts are what the chapter says, and are in the order of the keys: KeypackKeys returns true. Conditions: none: for every input. (The frame follows the kit's shell of a law's proof; the walk is by the contract.) -/
import Derived.Test.YtlcjeomefjmhgaaGreatDoorRows
import Derived.Test.YtlcjeomefjmhgaaGreatDoorCards
import Derived.Test.YtlcjeomefjmhgaaGreatDoorTie
import Derived.LaidMore
import Derived.Stop.Joined
import Derived.SevenTiedAt
import Derived.Test.YtlcjeomefjmhgaaGreatDoorWk2
import Derived.Test.YtlcjeomefjmhgaaGreatDoorLa3
import Derived.Test.YtlcjeomefjmhgaaGreatDoorPu3
import Derived.WalkKit
import Derived.ProofKit
import Derived.OpenShut
import Derived.ShutString
import Derived.ChangeOld
import Derived.Below
set_option linter.unusedSimpArgs false
set_option linter.unusedVariables false
set_option linter.unnecessarySimpa false
set_option linter.unusedSimpArgs false
set_option linter.unusedVariables false
set_option linter.unnecessarySimpa false
namespace Go.Proofs.YtlcjeomefjmhgaaGreatDoor.keypackKeys
open Go.AV Go.M
open Go.ChangeShapes Go.WideShapes Go.ChangeAt Go.RowKit
open Go.ChangeMaps (open_string shut_string)
theorem own:ownKnob Tryz.prog.godebug=none:=by kernel_rfl
theorem z0D:laidOutB Tryz.prog=true:=by kernel_rfl
theorem yO9:zFM Tryz.prog 137 eSpan okSpan:=by intro H enc w G z O fuel cs x h;obtain⟨T,q0,r0,o0⟩:=yY Tryz.underlying137 h (k:=0) (en:=eI) rfl (by kernel_rfl) (j7 Tryz.underlying3);obtain⟨a1,q1,r1,Z⟩:=yY Tryz.underlying137 h (k:=1) (en:=eI) rfl (by kernel_rfl) (j7 Tryz.underlying3);obtain⟨a2,q2,r2,o2⟩:=yY Tryz.underlying137 h (k:=2) (en:=eI) rfl (by kernel_rfl) (j7 Tryz.underlying3);have Y:cs.length=3:=(zAE Tryz.underlying137 h).trans (by kernel_rfl);exact⟨⟨T,a1,a2⟩,⟨q0,q1,q2⟩,(yL (off:=0) r0 o0 (yL r1 Z (yL r2 o2 (zBP Y))))⟩
theorem yQT:zFM Tryz.prog 72 eMapping zW6:=by intro H enc w G z O fuel cs x h;obtain⟨T,q0,r0,o0⟩:=yY Tryz.underlying72 h (k:=0) (en:=eI) rfl (by kernel_rfl) (j7 Tryz.underlying3);obtain⟨a1,q1,r1,Z⟩:=yY Tryz.underlying72 h (k:=1) (en:=(eL eI)) rfl (by kernel_rfl) (uR Tryz.underlying37 (by kernel_rfl) (by decide) (j7 Tryz.underlying3));obtain⟨a2,q2,r2,o2⟩:=yY Tryz.underlying72 h (k:=2) (en:=eS) rfl (by kernel_rfl) (zW4 Tryz.underlying9);have Y:cs.length=3:=(zAE Tryz.underlying72 h).trans (by kernel_rfl);exact⟨⟨T,a1,a2⟩,⟨q0,q1,q2⟩,(yL (off:=0) r0 o0 (yL r1 Z (yL r2 o2 (zBP Y))))⟩
theorem yPA:zFM Tryz.prog 184 eRange z6Q:=by intro H enc w G z O fuel cs x h;obtain⟨T,q0,r0,o0⟩:=yY Tryz.underlying184 h (k:=0) (en:=eI) rfl (by kernel_rfl) (j7 Tryz.underlying3);obtain⟨a1,q1,r1,Z⟩:=yY Tryz.underlying184 h (k:=1) (en:=eI) rfl (by kernel_rfl) (j7 Tryz.underlying3);have Y:cs.length=2:=(zAE Tryz.underlying184 h).trans (by kernel_rfl);exact⟨⟨T,a1⟩,⟨q0,q1⟩,(yL (off:=0) r0 o0 (yL r1 Z (zBP Y)))⟩
theorem yQU:zFM Tryz.prog 26 eSet yJ2:=by intro H enc w G z O fuel cs x h;obtain⟨T,q0,Z,o0⟩:=yY Tryz.underlying26 h (k:=0) (en:=(eL eRange)) rfl (by kernel_rfl) (uR Tryz.underlying24 (by kernel_rfl) (by decide) yPA);have Y:cs.length=1:=(zAE Tryz.underlying26 h).trans (by kernel_rfl);exact⟨⟨T⟩,q0,(yL (off:=0) Z o0 (zBP Y))⟩
theorem yQV:zFM Tryz.prog 28 eNorm zC5:=by intro H enc w G z O fuel cs x h;obtain⟨T,q0,r0,o0⟩:=yY Tryz.underlying28 h (k:=0) (en:=(eL eSpan)) rfl (by kernel_rfl) (uR Tryz.underlying22 (by kernel_rfl) (by decide) yO9);obtain⟨a1,q1,r1,Z⟩:=yY Tryz.underlying28 h (k:=1) (en:=(eL eMapping)) rfl (by kernel_rfl) (uR Tryz.underlying23 (by kernel_rfl) (by decide) yQT);obtain⟨a2,q2,r2,o2⟩:=yY Tryz.underlying28 h (k:=2) (en:=eSet) rfl (by kernel_rfl) yQU;have Y:cs.length=3:=(zAE Tryz.underlying28 h).trans (by kernel_rfl);exact⟨⟨T,a1,a2⟩,⟨q0,q1,q2⟩,(yL (off:=0) r0 o0 (yL r1 Z (yL r2 o2 (zBP Y))))⟩
theorem yPB:zFM Tryz.prog 100 eElement zW5:=by intro H enc w G z O fuel cs x h;obtain⟨T,q0,r0,o0⟩:=yY Tryz.underlying100 h (k:=0) (en:=eI) rfl (by kernel_rfl) (j7 Tryz.underlying3);obtain⟨a1,q1,r1,o1⟩:=yY Tryz.underlying100 h (k:=1) (en:=eI) rfl (by kernel_rfl) (j7 Tryz.underlying3);obtain⟨a2,q2,r2,o2⟩:=yY Tryz.underlying100 h (k:=2) (en:=eI) rfl (by kernel_rfl) (j7 Tryz.underlying3);obtain⟨Y,q3,r3,o3⟩:=yY Tryz.underlying100 h (k:=3) (en:=eB) rfl (by kernel_rfl) (zN1 Tryz.underlying4);have Z:cs.length=4:=(zAE Tryz.underlying100 h).trans (by kernel_rfl);exact⟨⟨T,a1,a2,Y⟩,⟨q0,q1,q2,q3⟩,(yL (off:=0) r0 o0 (yL r1 o1 (yL r2 o2 (yL r3 o3 (zBP Z)))))⟩
theorem yQW:zFM Tryz.prog 82 eEntry z6R:=by intro H enc w G z O fuel cs x h;obtain⟨T,q0,r0,o0⟩:=yY Tryz.underlying82 h (k:=0) (en:=(eL eI)) rfl (by kernel_rfl) (uR Tryz.underlying37 (by kernel_rfl) (by decide) (j7 Tryz.underlying3));obtain⟨a1,q1,r1,Z⟩:=yY Tryz.underlying82 h (k:=1) (en:=(eL eElement)) rfl (by kernel_rfl) (uR Tryz.underlying66 (by kernel_rfl) (by decide) yPB);have Y:cs.length=2:=(zAE Tryz.underlying82 h).trans (by kernel_rfl);exact⟨⟨T,a1⟩,⟨q0,q1⟩,(yL (off:=0) r0 o0 (yL r1 Z (zBP Y)))⟩
theorem yQX:zFM Tryz.prog 85 eGroup z6S:=by intro H enc w G z O fuel cs x h;obtain⟨T,q0,r0,o0⟩:=yY Tryz.underlying85 h (k:=0) (en:=eS) rfl (by kernel_rfl) (zW4 Tryz.underlying9);obtain⟨a1,q1,r1,Z⟩:=yY Tryz.underlying85 h (k:=1) (en:=eI) rfl (by kernel_rfl) (j7 Tryz.underlying3);obtain⟨a2,q2,r2,o2⟩:=yY Tryz.underlying85 h (k:=2) (en:=eI) rfl (by kernel_rfl) (j7 Tryz.underlying3);have Y:cs.length=3:=(zAE Tryz.underlying85 h).trans (by kernel_rfl);exact⟨⟨T,a1,a2⟩,⟨q0,q1,q2⟩,(yL (off:=0) r0 o0 (yL r1 Z (yL r2 o2 (zBP Y))))⟩
theorem yQY:zFM Tryz.prog 32 eCollation zME:=by intro H enc w G z O fuel cs x h;obtain⟨T,q0,r0,o0⟩:=yY Tryz.underlying32 h (k:=0) (en:=(eL eEntry)) rfl (by kernel_rfl) (uR Tryz.underlying29 (by kernel_rfl) (by decide) yQW);obtain⟨a1,q1,r1,o1⟩:=yY Tryz.underlying32 h (k:=1) (en:=(eL eGroup)) rfl (by kernel_rfl) (uR Tryz.underlying30 (by kernel_rfl) (by decide) yQX);obtain⟨a2,q2,r2,o2⟩:=yY Tryz.underlying32 h (k:=2) (en:=eI) rfl (by kernel_rfl) (j7 Tryz.underlying3);obtain⟨Y,q3,r3,o3⟩:=yY Tryz.underlying32 h (k:=3) (en:=eI) rfl (by kernel_rfl) (j7 Tryz.underlying3);obtain⟨Z,q4,r4,o4⟩:=yY Tryz.underlying32 h (k:=4) (en:=eI) rfl (by kernel_rfl) (j7 Tryz.underlying3);have hl:cs.length=5:=(zAE Tryz.underlying32 h).trans (by kernel_rfl);exact⟨⟨T,a1,a2,Y,Z⟩,⟨q0,q1,q2,q3,q4⟩,(yL (off:=0) r0 o0 (yL r1 o1 (yL r2 o2 (yL r3 o3 (yL r4 o4 (zBP hl))))))⟩
theorem yQZ:zFM Tryz.prog 34 eOptions zW7:=by intro H enc w G z O fuel cs x h;obtain⟨T,q0,r0,o0⟩:=yY Tryz.underlying34 h (k:=0) (en:=eI) rfl (by kernel_rfl) (j7 Tryz.underlying3);obtain⟨a1,q1,r1,o1⟩:=yY Tryz.underlying34 h (k:=1) (en:=eI) rfl (by kernel_rfl) (j7 Tryz.underlying3);obtain⟨a2,q2,r2,o2⟩:=yY Tryz.underlying34 h (k:=2) (en:=eB) rfl (by kernel_rfl) (zN1 Tryz.underlying4);obtain⟨Y,q3,r3,o3⟩:=yY Tryz.underlying34 h (k:=3) (en:=eB) rfl (by kernel_rfl) (zN1 Tryz.underlying4);have Z:cs.length=4:=(zAE Tryz.underlying34 h).trans (by kernel_rfl);exact⟨⟨T,a1,a2,Y⟩,⟨q0,q1,q2,q3⟩,(yL (off:=0) r0 o0 (yL r1 o1 (yL r2 o2 (yL r3 o3 (zBP Z)))))⟩
theorem yQ0:zFM Tryz.prog 36 eUnicodetextlaw44_Data zEU:=by intro H enc w G z O fuel cs x h;obtain⟨T,q0,r0,o0⟩:=yY Tryz.underlying36 h (k:=0) (en:=eNorm) rfl (by kernel_rfl) yQV;obtain⟨a1,q1,r1,Z⟩:=yY Tryz.underlying36 h (k:=1) (en:=eCollation) rfl (by kernel_rfl) yQY;obtain⟨a2,q2,r2,o2⟩:=yY Tryz.underlying36 h (k:=2) (en:=eOptions) rfl (by kernel_rfl) yQZ;have Y:cs.length=12:=(zAE Tryz.underlying36 h).trans (by kernel_rfl);exact⟨⟨T,a1,a2⟩,⟨q0,q1,q2⟩,(yL (off:=0) r0 o0 (yL r1 Z (yL r2 o2 (zBP Y))))⟩
def laidD:List (String×DataW Unit):=[("unicodetext/ordering.hangulRanges",Rows.laid_unicodetext_ordering_hangulRanges)]
theorem gVar:Tryz.prog.globalNamed "unicodetext/ordering.hangulRanges" =some 0:=by kernel_rfl
theorem tVar:(Tryz.prog.globals[0]?).map (·.type)=some 207:=by kernel_rfl
theorem yFW (os:Os) (args:Array Value):laidMetH Tryz.prog laidD ((World.doorLaid Tryz.prog 400 os).forCall (fun _ _=>0) ⟨#[],args,[]⟩).memory:=
  laidMetH_of_parts3 (fuel:=8) (laidMet_of_run' 8 (by kernel_rfl) (by kernel_rfl)) (by kernel_rfl) (by kernel_rfl)
set_option maxRecDepth 100000 in
theorem yNJ {W:World} {cs:List Value} {f:Nat} {p:List MemPlace} (hd:DataW.trod (fun (_:TypeId×Value)=>()) Tryz.prog W 0 (fun _=>true) false f 207 cs=some (Rows.laid_unicodetext_ordering_hangulRanges,p)):
  cs= [.int .i64 4352,.int .i64 4370,.int .i64 4449,.int .i64 4469,.int .i64 4520,.int .i64 4546,.int .i64 44032,.int .i64 55203]:=by
 obtain⟨xs,m1,rfl,H,G,O,z⟩:=DataW.trod_array Tryz.underlying207 hd;have cR:Tryz.prog.cellsOf 184=2:=by kernel_rfl
 have cA:Tryz.prog.cellsOf 207=8:=by kernel_rfl
 have cI:Tryz.prog.cellsOf 3=1:=by kernel_rfl
 rw[cA] at G;rw[cR] at z
 match cs,G with
 | [c0,c1,c2,c3,c4,c5,c6,c7],_=>
 match xs,O with
 | [x0,x1,x2,x3],_=>
  have h:∀(a b:Value) (x:DataW Unit×List MemPlace),DataW.trod (fun (_:TypeId×Value)=>()) Tryz.prog W 0 (fun _=>true) false m1 184 [a,b]=some x→∃i j:Int,a= .int .i64 i∧b= .int .i64 j∧x.1= .agg [.lit (.int .i64 i),.lit (.int .i64 j)]:=by
   intro a b x hx;obtain⟨y0,y1,k,rfl,_,Z,h1⟩:=trod_struct2 Tryz.underlying184 hx;rw[cI] at Z h1;obtain⟨i,T,e2,_⟩:=DataW.trod_int Tryz.underlying3 Z;obtain⟨j,Y,e4,_⟩:=DataW.trod_int Tryz.underlying3 h1;simp only[List.drop_zero,List.take_succ_cons,List.take_zero,List.cons.injEq,and_true,List.drop_succ_cons] at T Y;refine⟨i,j,T,Y,?_⟩;rw[e2,e4]
  obtain⟨i0,j0,rfl,rfl,q0⟩:=h c0 c1 x0 (z 0 (by decide));obtain⟨i1,j1,rfl,rfl,q1⟩:=h c2 c3 x1 (z 1 (by decide));obtain⟨i2,j2,rfl,rfl,q2⟩:=h c4 c5 x2 (z 2 (by decide));obtain⟨i3,j3,rfl,rfl,q3⟩:=h c6 c7 x3 (z 3 (by decide));simp only[Prod.mk.injEq,List.map_cons,List.map_nil,q0,q1,q2,q3,Rows.laid_unicodetext_ordering_hangulRanges,DataW.agg.injEq,List.cons.injEq,DataW.lit.injEq,Lit.int.injEq,and_true,true_and] at H;obtain⟨⟨⟨rfl,rfl⟩,⟨rfl,rfl⟩,⟨rfl,rfl⟩,⟨rfl,rfl⟩⟩,_⟩:=H;rfl
theorem yJU {g:Nat} {ys:List Value} (h:zBO Tryz.prog g=some ys):g=0∧ys= [.int .i64 4352,.int .i64 4370,.int .i64 4449,.int .i64 4469,.int .i64 4520,.int .i64 4546,.int .i64 44032,.int .i64 55203]:=by
  have k:zBO Tryz.prog 0=some [.int .i64 4352,.int .i64 4370,.int .i64 4449,.int .i64 4469,.int .i64 4520,.int .i64 4546,.int .i64 44032,.int .i64 55203]:=by kernel_rfl
  have z:g=0:=by
    unfold zBO gdNames at h;simp only[List.find?,gVar] at h;by_cases e:(some 0==some g)=true
    · exact(by simpa using e:0=g).symm
    · simp only[e] at h
      cases h
  subst z;rw[k] at h;cases h;exact⟨rfl,rfl⟩
theorem yFX {W:World} {g j:Nat} {v:Value} (h:W.cell? ⟨g,j,none⟩=some v):g<W.heap.size:=by
  rcases Nat.lt_or_ge g W.heap.size with k | hge
  · exact k
  · unfold World.cell? at h
    rw[Array.getElem?_eq_none hge] at h;cases h
theorem z56 {W:World} (h:laidMetH Tryz.prog laidD W):GlI (zBO Tryz.prog) W (zTJ W):=by
  rw[MakeChecks.laidMetH_plain _ _ _ (by kernel_rfl)] at h;obtain⟨ps,⟨g0,t0,z,f0,p0,q0,k,T,Y,O,_⟩,_,_⟩:=h;obtain rfl:=Option.some.inj (gVar.symm.trans k);obtain rfl:=Option.some.inj (tVar.symm.trans T);have H:=yNJ O;intro g ys hg j v Z;obtain⟨rfl,rfl⟩:=yJU hg;have G:=World.var?_cell k Y j;have hv:z[j]? =some v:=by
    rw[←H] at Z;simpa using Z
  rw[hv] at G;exact⟨G,yFX G⟩
set_option maxRecDepth 100000 in
theorem yNK (os:Os) (G:os.Started) (H:Type) (enc:TypeId×Value→H):
  ReturnsInHanded {} Tryz.checked os 3 .any (fun w args=>(Rows.keypackKeysSpec.pre enc Tryz.prog Tryz.f3 [] false w args∧laidMetH Tryz.prog laidD w)∧sizedMet enc Tryz.prog Tryz.f3 (OpenSpec.ofChange Rows.keypackKeysSpec) false w args) (Rows.keypackKeysSpec.post enc Tryz.prog Tryz.f3 false true false false):=by
 refine returnsInHanded_of_change_and (C:=Tryz.checked) (X:=fun w _=>laidMetH Tryz.prog laidD w) (fun _ _ _ hh h=>h.of_heap hh) own G (by kernel_rfl) Tryz.func3
  (ChangeSpec.witness_shaped (enc:=enc) (C:=Tryz.checked) (os:=os) (X:=fun w _=>laidMetH Tryz.prog laidD w) false (World.doorLaid Tryz.prog 400 os) #[(.agg #[(.slice none 0 0),(.slice none 0 0),(.slice none 0 0),(.slice none 0 0),(.slice none 0 0),(.int IntKind.i64 (0)),(.int IntKind.i64 (0)),(.int IntKind.i64 (0)),(.int IntKind.i64 (0)),(.int IntKind.i64 (0)),(.bool false),(.bool false)]),(.slice none 0 0),(.slice none 0 0)] 8 rfl (World.shaped_of_RefB (by kernel_rfl) (by kernel_rfl)) (by kernel_rfl) (by kernel_rfl) (by kernel_rfl) (yFW os _)) ?_
 intro W Y args ds gs ag z hW _ _ hL _;have k:∀(j:Nat) t v,Tryz.f3.params[j]? =some t→args[j]? =some v→Value.okWide Tryz.prog W .any Y t v:=z;have al:=hW;obtain⟨p,q,Z,hV,rfl,bn,bp⟩:=hW;have hA:DataW.TrodAll enc Tryz.prog W 0 (fun _=>true) true Tryz.f3.params.toList args.toList ds p:=Z;rw[Tryz.params3] at hA k;obtain⟨v0,bx,d0,be,p0,q0,am,rfl,rfl,h0,r0⟩:=trodAll_cons hA;obtain⟨v1,bz,d1,bf,p1,q1,rfl,rfl,rfl,h1,r1⟩:=trodAll_cons r0;obtain⟨v2,ca,d2,bg,p2,q2,rfl,rfl,rfl,h2,r2⟩:=trodAll_cons r1;obtain⟨rfl,rfl,rfl⟩:=trodAll_nil r2;obtain rfl:args= #[v0,v1,v2]:=by cases args;simp_all
 obtain⟨rfl,rfl⟩:=trodVars_none hV;have k0:=h0;have an:∀x∈p0,x.block<W.heap.size:=by obtain⟨m,hm⟩:=k0;exact DataW.trod_lt m _ _ _ hm
 obtain⟨ak,e0,_⟩:=okWide_struct Tryz.underlying36 (k 0 36 v0 rfl rfl);obtain⟨x0,aq,ab⟩:=zYR (en:=eUnicodetextlaw44_Data) yQ0 h0 (.inr ⟨ak,e0,fun _=>⟨_,rfl⟩⟩);have k1:=h1;have ao:∀x∈p1,x.block<W.heap.size:=by obtain⟨m,hm⟩:=k1;exact DataW.trod_lt m _ _ _ hm
 obtain⟨_,_,_,e1⟩:=okWide_slice Tryz.underlying37 (k 1 37 v1 rfl rfl);obtain⟨x1,ar,ac⟩:=zYR (en:=(eL eI)) (uR Tryz.underlying37 (by kernel_rfl) (by decide) (j7 Tryz.underlying3)) h1 (.inl ⟨by rw[e1];rfl,rfl,fun _=>rfl⟩)
 have k2:=h2;have ap:∀x∈p2,x.block<W.heap.size:=by obtain⟨m,hm⟩:=k2;exact DataW.trod_lt m _ _ _ hm
 obtain⟨_,_,_,e2⟩:=okWide_slice Tryz.underlying37 (k 2 37 v2 rfl rfl);obtain⟨x2,au,ad⟩:=zYR (en:=(eL eI)) (uR Tryz.underlying37 (by kernel_rfl) (by decide) (j7 Tryz.underlying3)) h2 (.inl ⟨by rw[e2];rfl,rfl,fun _=>rfl⟩)
 clear Z z;have T:Calls Tryz.prog 3 #[v0,v1,v2] W fun e w'=>e= .returned (.bool true)∧Below W.heap.size W w':=
  yGO (Walk.law48_KeypackKeys_c (Go.M.law48_KeypackKeys_true x0 x1 x2 aq ar au)) (w:=W) (hG:=z56 hL) (vs:=[v0,v1,v2]) (zQI ab (zQI ac (zQI ad (yB1 _ _))))
 refine T.mono fun e W' ⟨he,O⟩=>?_;subst he;exact⟨_,rfl,_,_,_,[],_,[],al,trodAll_mk1 (shut_bool Tryz.underlying4 _),(trodAll_cons_mk (Below.trod z0D (by kernel_rfl) (of_decide_eq_true (by kernel_rfl)) k0 O an) (trodAll_cons_mk (Below.trod z0D (by kernel_rfl) (of_decide_eq_true (by kernel_rfl)) k1 O ao) (trodAll_cons_mk (Below.trod z0D (by kernel_rfl) (of_decide_eq_true (by kernel_rfl)) k2 O ap) trodAll_mk0))),rfl,O.frame _,fun h=>by cases h⟩
theorem jf_all {P:Program} {f:FuncId} {h:Func} {s:ChangeSpec} {c:OpenClaim} (h2:laidOutB P=true) (h3:mapsRowed P=true) (h8:(c.inPlace==P.inPlace f)=true) (h9:(c.unfollowed==P.unfollowed f)=true) (D:(c.recurses==P.recurses f)=true) (G:(c.named==P.varsNamed f)=true) (H:(c.plainKeys==P.plainKeys)=true) (K:P.stopsHeard=true) (O:P.mayEnter=true) (T:(c.lifted==P.liftsFinal)=true) (Y:(P.make==some c.make)=true)
    (Z:(c.wf (OpenSpec.ofChange s)&&h.params.all (P.readableRec ·)&&namedTie P c.named s.vars&&(c.stops== [])&&(P.stops== [])&&(c.knobs== [])&&(P.stopKnobs== [])&&(c.maps==(h.params.toList++s.plain.varTypes P).any (P.mapsRec ·))&&(c.ifaces==(h.params.toList++s.plain.varTypes P).any (P.ifacesRec ·))&&(c.mapsOut==P.mapsAmong h.resultTypes.toList)&&(c.loops==(h.params.toList++s.plain.varTypes P).any (P.loopsFrom ·))&&(c.wideKeys==(h.params.toList++s.plain.varTypes P++h.resultTypes.toList).any (P.wideKeysFrom ·))&&
  s.vars.all (P.varReadable ·)&&h.resultTypes.all (fun t=>P.readableRec t&&decide (t<P.types.size))&&(c.ifacesOut==h.resultTypes.toList.any (P.ifacesRec ·))&&(c.loopsOut==h.resultTypes.toList.any (P.loopsFrom ·))&&c.shortTexts.isNone&&(c.kinds==(if c.domain.isEmpty then [] else h.params.toList.map fun t=>match P.underlying t with | some (.int k)=>some k | _=>none))&&(c.pinned==c.pinnedBy)&&(c.veiled==(h.params.toList++s.plain.varTypes P++h.resultTypes.toList).any (P.veiledRec ·))&&c.veiledFits P h.params.toList (h.params.toList++s.plain.varTypes P++h.resultTypes.toList))=true):joinedFacts P f h s c=true:=by
  unfold joinedFacts;simp only[h2,h3,h8,h9,D,G,H,K,O,T,Y,Bool.and_true];exact Z
theorem jf2:laidOutB Tryz.prog=true:=by kernel_rfl
theorem jf3:mapsRowed Tryz.prog=true:=by kernel_rfl
theorem jf8:(Rows.keypackKeysRow.inPlace==Tryz.prog.inPlace 3)=true:=by kernel_rfl
theorem jf9:(Rows.keypackKeysRow.unfollowed==Tryz.prog.unfollowed 3)=true:=by kernel_rfl
theorem jf10:(Rows.keypackKeysRow.recurses==Tryz.prog.recurses 3)=true:=by kernel_rfl
theorem jf11:(Rows.keypackKeysRow.named==Tryz.prog.varsNamed 3)=true:=by kernel_rfl
theorem jf13:(Rows.keypackKeysRow.plainKeys==Tryz.prog.plainKeys)=true:=by kernel_rfl
theorem jf14:Tryz.prog.stopsHeard=true:=by kernel_rfl
theorem jf15:Tryz.prog.mayEnter=true:=by kernel_rfl
theorem jf16:(Rows.keypackKeysRow.lifted==Tryz.prog.liftsFinal)=true:=by kernel_rfl
theorem jf17:(Tryz.prog.make==some Rows.keypackKeysRow.make)=true:=by kernel_rfl
theorem over:Rows.keypackKeysRow.holds Tryz.pinned (OpenSpec.ofChange Rows.keypackKeysSpec):=
  OpenClaim.holds_of_wide 3 Tryz.f3 rfl rfl rfl rfl rfl rfl rfl ⟨rfl,rfl,rfl,rfl,rfl⟩ rfl rfl rfl rfl rfl (by kernel_rfl) Tryz.func3 (jf_all jf2 jf3 jf8 jf9 jf10 jf11 jf13 jf14 jf15 jf16 jf17 (by kernel_rfl))
    (of_decide_eq_true (by kernel_rfl)) (by unfold Func.isWrapper;first | (rw[if_pos (by decide +kernel)];kernel_rfl) | (rw[if_neg (by decide +kernel)];exact⟨rfl,rfl⟩))
    (fun os h H enc _=>yNK os h H enc)
theorem pv1:Rows.keypackKeysRow.wfByText (OpenSpec.ofChange Rows.keypackKeysSpec)=true:=by kernel_rfl
theorem pv2:Tryz.prog.mainIs=some (true,("f71c83ed2d7214a5ef2cd7f0fe9b7edf2c3a21666316f92d2e2cfe56710357e8":String).toList):=by kernel_rfl
theorem pv3:Tryz.prog.funcNamed "unicodetext/unicodetextlaw48.KeypackKeys" =some 3:=by kernel_rfl
theorem pv4:false=Tryz.prog.looks []:=by kernel_rfl
theorem pv5:([36,37,37].all fun u=>!Tryz.prog.wantsStandIn u)=true:=by kernel_rfl
theorem pv6:false=Rows.keypackKeysRow.goesBy Tryz.prog:=by kernel_rfl
theorem proved:Rows.KeypackKeysCardSaid:=
  Claim7.holds_tied_plain_at .later [] [.data] true (true, "f71c83ed2d7214a5ef2cd7f0fe9b7edf2c3a21666316f92d2e2cfe56710357e8") false
    over (fun _ h=>by cases h) pv1 (fun _ h=>by cases h) keypackKeys_row_tie rfl ⟨rfl,rfl⟩ pv2 rfl
    (fun f H O z=>by
      obtain rfl:f=3:=Option.some.inj (pv3.symm.trans O) |>.symm;obtain rfl:H=Tryz.f3:=(Option.some.inj (Tryz.func3.symm.trans z)).symm;exact⟨pv4,fun j t G=>by
        rw[Tryz.params3] at G;have T:t∈[36,37,37]:=by simpa using Array.mem_of_getElem? G
        have k:([36,37,37].all fun u=>!Tryz.prog.wantsStandIn u)=true:=pv5
        exact(show Tryz.prog.wantsStandIn t=false by simpa using List.all_eq_true.1 k t T)⟩)
    pv6
#print axioms proved
end Go.Proofs.YtlcjeomefjmhgaaGreatDoor.keypackKeys


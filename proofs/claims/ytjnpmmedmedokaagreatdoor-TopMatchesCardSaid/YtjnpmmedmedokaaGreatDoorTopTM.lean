/- Each match that Find hands back compares as equal to the pattern. Conditions: none: for every input. (The frame follows the kit's shell of a law's proof; the walk is by the contract.) -/
import Derived.Test.YtjnpmmedmedokaaGreatDoorRows
import Derived.Test.YtjnpmmedmedokaaGreatDoorCards
import Derived.Test.YtjnpmmedmedokaaGreatDoorTie
import Derived.LaidMore
import Derived.Lib.LaidTab
import Derived.Lib.ItoaNum
import Derived.Stop.Joined
import Derived.SevenTiedAt
import Derived.Test.YtjnpmmedmedokaaGreatDoorWk2
import Derived.Test.YtjnpmmedmedokaaGreatDoorLa4
import Derived.Test.YtjnpmmedmedokaaGreatDoorPu3
import Derived.WalkKit
import Derived.ProofKit
import Derived.OpenShut
import Derived.ShutString
import Derived.ChangeOld
import Derived.Below
set_option linter.unusedSimpArgs false
set_option linter.unusedVariables false
set_option linter.unnecessarySimpa false
set_option linter.unusedSimpArgs false
set_option linter.unusedVariables false
set_option linter.unnecessarySimpa false
namespace Go.Proofs.YtjnpmmedmedokaaGreatDoor.topMatches
open Go.AV Go.M
open Go.ChangeShapes Go.WideShapes Go.ChangeAt Go.RowKit
open Go.ChangeMaps (open_string shut_string)
theorem own:ownKnob Tryz.prog.godebug=none:=by kernel_rfl
theorem zXT:laidOutB Tryz.prog=true:=by kernel_rfl
theorem yMV:zEP Tryz.prog 144 bA b9:=by intro H enc w D z G fuel cs x h;obtain⟨K,q0,r0,T⟩:=kC Tryz.underlying144 h (k:=0) (en:=eI) rfl (by kernel_rfl) (xB Tryz.underlying3);obtain⟨a1,q1,r1,Y⟩:=kC Tryz.underlying144 h (k:=1) (en:=eI) rfl (by kernel_rfl) (xB Tryz.underlying3);obtain⟨a2,q2,r2,Z⟩:=kC Tryz.underlying144 h (k:=2) (en:=eI) rfl (by kernel_rfl) (xB Tryz.underlying3);have O:cs.length=3:=(uY Tryz.underlying144 h).trans (by kernel_rfl);exact⟨⟨K,a1,a2⟩,⟨q0,q1,q2⟩,(yG (off:=0) r0 T (yG r1 Y (yG r2 Z (zAY O))))⟩
theorem yOC:zEP Tryz.prog 60 aR zPO:=by intro H enc w D z G fuel cs x h;obtain⟨K,q0,r0,T⟩:=kC Tryz.underlying60 h (k:=0) (en:=eI) rfl (by kernel_rfl) (xB Tryz.underlying3);obtain⟨a1,q1,r1,Y⟩:=kC Tryz.underlying60 h (k:=1) (en:=(eL eI)) rfl (by kernel_rfl) (uJ Tryz.underlying37 (by kernel_rfl) (by decide) (xB Tryz.underlying3));obtain⟨a2,q2,r2,Z⟩:=kC Tryz.underlying60 h (k:=2) (en:=eS) rfl (by kernel_rfl) (zVA Tryz.underlying9);have O:cs.length=3:=(uY Tryz.underlying60 h).trans (by kernel_rfl);exact⟨⟨K,a1,a2⟩,⟨q0,q1,q2⟩,(yG (off:=0) r0 T (yG r1 Y (yG r2 Z (zAY O))))⟩
theorem yOD:zEP Tryz.prog 43 aF z2U:=by intro H enc w D z G fuel cs x h;obtain⟨K,q0,r0,T⟩:=kC Tryz.underlying43 h (k:=0) (en:=eI) rfl (by kernel_rfl) (xB Tryz.underlying3);obtain⟨a1,q1,Z,Y⟩:=kC Tryz.underlying43 h (k:=1) (en:=eI) rfl (by kernel_rfl) (xB Tryz.underlying3);have O:cs.length=2:=(uY Tryz.underlying43 h).trans (by kernel_rfl);exact⟨⟨K,a1⟩,⟨q0,q1⟩,(yG (off:=0) r0 T (yG Z Y (zAY O)))⟩
theorem yOE:zEP Tryz.prog 26 cH z8R:=by intro H enc w D z G fuel cs x h;obtain⟨K,q0,r0,T⟩:=kC Tryz.underlying26 h (k:=0) (en:=(eL aF)) rfl (by kernel_rfl) (uJ Tryz.underlying24 (by kernel_rfl) (by decide) yOD);have O:cs.length=1:=(uY Tryz.underlying26 h).trans (by kernel_rfl);exact⟨⟨K⟩,q0,(yG (off:=0) r0 T (zAY O))⟩
theorem yOF:zEP Tryz.prog 28 bH wV:=by intro H enc w D z G fuel cs x h;obtain⟨K,q0,r0,T⟩:=kC Tryz.underlying28 h (k:=0) (en:=(eL bA)) rfl (by kernel_rfl) (uJ Tryz.underlying22 (by kernel_rfl) (by decide) yMV);obtain⟨a1,q1,r1,Y⟩:=kC Tryz.underlying28 h (k:=1) (en:=(eL aR)) rfl (by kernel_rfl) (uJ Tryz.underlying23 (by kernel_rfl) (by decide) yOC);obtain⟨a2,q2,r2,Z⟩:=kC Tryz.underlying28 h (k:=2) (en:=cH) rfl (by kernel_rfl) yOE;have O:cs.length=3:=(uY Tryz.underlying28 h).trans (by kernel_rfl);exact⟨⟨K,a1,a2⟩,⟨q0,q1,q2⟩,(yG (off:=0) r0 T (yG r1 Y (yG r2 Z (zAY O))))⟩
theorem yOG:zEP Tryz.prog 82 aO zVB:=by intro H enc w D z G fuel cs x h;obtain⟨K,q0,r0,T⟩:=kC Tryz.underlying82 h (k:=0) (en:=eI) rfl (by kernel_rfl) (xB Tryz.underlying3);obtain⟨a1,q1,r1,Y⟩:=kC Tryz.underlying82 h (k:=1) (en:=eI) rfl (by kernel_rfl) (xB Tryz.underlying3);obtain⟨a2,q2,r2,Z⟩:=kC Tryz.underlying82 h (k:=2) (en:=eI) rfl (by kernel_rfl) (xB Tryz.underlying3);obtain⟨a3,q3,r3,o3⟩:=kC Tryz.underlying82 h (k:=3) (en:=eB) rfl (by kernel_rfl) (zM2 Tryz.underlying4);have O:cs.length=4:=(uY Tryz.underlying82 h).trans (by kernel_rfl);exact⟨⟨K,a1,a2,a3⟩,⟨q0,q1,q2,q3⟩,(yG (off:=0) r0 T (yG r1 Y (yG r2 Z (yG r3 o3 (zAY O)))))⟩
theorem yOH:zEP Tryz.prog 91 bI z2V:=by intro H enc w D z G fuel cs x h;obtain⟨K,q0,r0,T⟩:=kC Tryz.underlying91 h (k:=0) (en:=(eL eI)) rfl (by kernel_rfl) (uJ Tryz.underlying37 (by kernel_rfl) (by decide) (xB Tryz.underlying3));obtain⟨a1,q1,Z,Y⟩:=kC Tryz.underlying91 h (k:=1) (en:=(eL aO)) rfl (by kernel_rfl) (uJ Tryz.underlying79 (by kernel_rfl) (by decide) yOG);have O:cs.length=2:=(uY Tryz.underlying91 h).trans (by kernel_rfl);exact⟨⟨K,a1⟩,⟨q0,q1⟩,(yG (off:=0) r0 T (yG Z Y (zAY O)))⟩
theorem yMW:zEP Tryz.prog 206 bL z2W:=by intro H enc w D z G fuel cs x h;obtain⟨K,q0,r0,T⟩:=kC Tryz.underlying206 h (k:=0) (en:=eS) rfl (by kernel_rfl) (zVA Tryz.underlying9);obtain⟨a1,q1,r1,Y⟩:=kC Tryz.underlying206 h (k:=1) (en:=eI) rfl (by kernel_rfl) (xB Tryz.underlying3);obtain⟨a2,q2,r2,Z⟩:=kC Tryz.underlying206 h (k:=2) (en:=eI) rfl (by kernel_rfl) (xB Tryz.underlying3);have O:cs.length=3:=(uY Tryz.underlying206 h).trans (by kernel_rfl);exact⟨⟨K,a1,a2⟩,⟨q0,q1,q2⟩,(yG (off:=0) r0 T (yG r1 Y (yG r2 Z (zAY O))))⟩
theorem yOI:zEP Tryz.prog 32 aU zK1:=by intro H enc w D z G fuel cs x h;obtain⟨K,q0,r0,Y⟩:=kC Tryz.underlying32 h (k:=0) (en:=(eL bI)) rfl (by kernel_rfl) (uJ Tryz.underlying29 (by kernel_rfl) (by decide) yOH);obtain⟨a1,q1,r1,Z⟩:=kC Tryz.underlying32 h (k:=1) (en:=(eL bL)) rfl (by kernel_rfl) (uJ Tryz.underlying30 (by kernel_rfl) (by decide) yMW);obtain⟨a2,q2,r2,o2⟩:=kC Tryz.underlying32 h (k:=2) (en:=eI) rfl (by kernel_rfl) (xB Tryz.underlying3);obtain⟨a3,q3,r3,o3⟩:=kC Tryz.underlying32 h (k:=3) (en:=eI) rfl (by kernel_rfl) (xB Tryz.underlying3);obtain⟨O,q4,r4,o4⟩:=kC Tryz.underlying32 h (k:=4) (en:=eI) rfl (by kernel_rfl) (xB Tryz.underlying3);have T:cs.length=5:=(uY Tryz.underlying32 h).trans (by kernel_rfl);exact⟨⟨K,a1,a2,a3,O⟩,⟨q0,q1,q2,q3,q4⟩,(yG (off:=0) r0 Y (yG r1 Z (yG r2 o2 (yG r3 o3 (yG r4 o4 (zAY T))))))⟩
theorem yOJ:zEP Tryz.prog 34 bR zVC:=by intro H enc w D z G fuel cs x h;obtain⟨K,q0,r0,T⟩:=kC Tryz.underlying34 h (k:=0) (en:=eI) rfl (by kernel_rfl) (xB Tryz.underlying3);obtain⟨a1,q1,r1,Y⟩:=kC Tryz.underlying34 h (k:=1) (en:=eI) rfl (by kernel_rfl) (xB Tryz.underlying3);obtain⟨a2,q2,r2,Z⟩:=kC Tryz.underlying34 h (k:=2) (en:=eB) rfl (by kernel_rfl) (zM2 Tryz.underlying4);obtain⟨a3,q3,r3,o3⟩:=kC Tryz.underlying34 h (k:=3) (en:=eB) rfl (by kernel_rfl) (zM2 Tryz.underlying4);have O:cs.length=4:=(uY Tryz.underlying34 h).trans (by kernel_rfl);exact⟨⟨K,a1,a2,a3⟩,⟨q0,q1,q2,q3⟩,(yG (off:=0) r0 T (yG r1 Y (yG r2 Z (yG r3 o3 (zAY O)))))⟩
theorem yOK:zEP Tryz.prog 36 aY zC2:=by intro H enc w D z G fuel cs x h;obtain⟨K,q0,r0,T⟩:=kC Tryz.underlying36 h (k:=0) (en:=bH) rfl (by kernel_rfl) yOF;obtain⟨a1,q1,r1,Y⟩:=kC Tryz.underlying36 h (k:=1) (en:=aU) rfl (by kernel_rfl) yOI;obtain⟨a2,q2,r2,Z⟩:=kC Tryz.underlying36 h (k:=2) (en:=bR) rfl (by kernel_rfl) yOJ;have O:cs.length=12:=(uY Tryz.underlying36 h).trans (by kernel_rfl);exact⟨⟨K,a1,a2⟩,⟨q0,q1,q2⟩,(yG (off:=0) r0 T (yG r1 Y (yG r2 Z (zAY O))))⟩
def laidD:List (String×DataW Unit):=[("unicodetext/ordering.hangulRanges",Rows.laid_unicodetext_ordering_hangulRanges)]
theorem gVar0:Tryz.prog.globalNamed "unicodetext/ordering.hangulRanges" =some 0:=by kernel_rfl
theorem tVar0:(Tryz.prog.globals[0]?).map (·.type)=some 210:=by kernel_rfl
theorem yBY (os:Os) (args:Array Value):laidMetH Tryz.prog laidD ((World.doorLaid Tryz.prog 400 os).forCall (fun _ _=>0) ⟨#[],args,[]⟩).memory:=
  laidMetH_of_parts3 (fuel:=8) (laidMet_of_run' 8 (by kernel_rfl) (by kernel_rfl)) (by kernel_rfl) (by kernel_rfl)
set_option maxRecDepth 100000 in
theorem yJ9 {W:World} {cs:List Value} {f:Nat} {p:List MemPlace} (hd:DataW.trod (fun (_:TypeId×Value)=>()) Tryz.prog W 0 (fun _=>true) false f 210 cs=some (Rows.laid_unicodetext_ordering_hangulRanges,p)):
  cs= [.int .i64 4352,.int .i64 4370,.int .i64 4449,.int .i64 4469,.int .i64 4520,.int .i64 4546,.int .i64 44032,.int .i64 55203]:=by
 obtain⟨xs,m1,rfl,G,D,H,z⟩:=DataW.trod_array Tryz.underlying210 hd;have cR:Tryz.prog.cellsOf 43=2:=by kernel_rfl
 have cA:Tryz.prog.cellsOf 210=8:=by kernel_rfl
 have cI:Tryz.prog.cellsOf 3=1:=by kernel_rfl
 rw[cA] at D;rw[cR] at z
 match cs,D with
 | [c0,Z,c2,c3,c4,c5,c6,c7],_=>
 match xs,H with
 | [x0,x1,x2,x3],_=>
  have h:∀(a b:Value) (x:DataW Unit×List MemPlace),DataW.trod (fun (_:TypeId×Value)=>()) Tryz.prog W 0 (fun _=>true) false m1 43 [a,b]=some x→∃i j:Int,a= .int .i64 i∧b= .int .i64 j∧x.1= .agg [.lit (.int .i64 i),.lit (.int .i64 j)]:=by
   intro a b x hx;obtain⟨y0,y1,k,rfl,_,T,Y⟩:=trod_struct2 Tryz.underlying43 hx;rw[cI] at T Y;obtain⟨i,K,e2,_⟩:=DataW.trod_int Tryz.underlying3 T;obtain⟨j,O,e4,_⟩:=DataW.trod_int Tryz.underlying3 Y;simp only[List.drop_zero,List.take_succ_cons,List.take_zero,List.cons.injEq,and_true,List.drop_succ_cons] at K O;refine⟨i,j,K,O,?_⟩;rw[e2,e4]
  obtain⟨i0,j0,rfl,rfl,q0⟩:=h c0 Z x0 (z 0 (by decide));obtain⟨i1,j1,rfl,rfl,q1⟩:=h c2 c3 x1 (z 1 (by decide));obtain⟨i2,j2,rfl,rfl,q2⟩:=h c4 c5 x2 (z 2 (by decide));obtain⟨i3,j3,rfl,rfl,q3⟩:=h c6 c7 x3 (z 3 (by decide));simp only[Prod.mk.injEq,List.map_cons,List.map_nil,q0,q1,q2,q3,Rows.laid_unicodetext_ordering_hangulRanges,DataW.agg.injEq,List.cons.injEq,DataW.lit.injEq,Lit.int.injEq,and_true,true_and] at G;obtain⟨⟨⟨rfl,rfl⟩,⟨rfl,rfl⟩,⟨rfl,rfl⟩,⟨rfl,rfl⟩⟩,_⟩:=G;rfl
theorem yF1 {g:Nat} {ys:List Value} (h:zAU Tryz.prog g=some ys):(g=0∧ys= [.int .i64 4352,.int .i64 4370,.int .i64 4449,.int .i64 4469,.int .i64 4520,.int .i64 4546,.int .i64 44032,.int .i64 55203]):=by
  have z:=h;unfold zAU gdNames at h;simp only[List.find?,gVar0] at h;by_cases k:(some 0==some g)=true
  · obtain rfl:0=g:=by simpa using k
    have D:zAU Tryz.prog 0=some [.int .i64 4352,.int .i64 4370,.int .i64 4449,.int .i64 4469,.int .i64 4520,.int .i64 4546,.int .i64 44032,.int .i64 55203]:=by kernel_rfl
    rw[D] at z;cases z;exact⟨rfl,rfl⟩
  simp only[k] at h;cases h
theorem yBZ {W:World} {g j:Nat} {v:Value} (h:W.cell? ⟨g,j,none⟩=some v):g<W.heap.size:=by
  rcases Nat.lt_or_ge g W.heap.size with k | hge
  · exact k
  · unfold World.cell? at h
    rw[Array.getElem?_eq_none hge] at h;cases h
theorem z2G {W:World} (h:laidMetH Tryz.prog laidD W):GlI (zAU Tryz.prog) W (zSF W):=by
  rw[MakeChecks.laidMetH_plain _ _ _ (by kernel_rfl)] at h;obtain⟨ps,⟨Z,t0,O,Y,p0,q0,D,H,K,G,_,_⟩,_,_⟩:=h;obtain rfl:=Option.some.inj (gVar0.symm.trans D);obtain rfl:=Option.some.inj (tVar0.symm.trans H);have z:=yJ9 G;have k:∀j,W.cell? ⟨0,j,none⟩= [.int .i64 4352,.int .i64 4370,.int .i64 4449,.int .i64 4469,.int .i64 4520,.int .i64 4546,.int .i64 44032,.int .i64 55203][j]?:=fun j=>by
    rw[World.var?_cell D K j,←z];simp
  intro g ys T j;rcases yF1 T with ⟨rfl,rfl⟩
  · exact⟨k j,yBZ (k 0)⟩
set_option maxRecDepth 100000 in
theorem lifted (os:Os) (D:os.Started) (H:Type) (enc:TypeId×Value→H):
  ReturnsInHanded {} Tryz.checked os 3 .any (fun w args=>(Rows.topMatchesSpec.pre enc Tryz.prog Tryz.f3 [] false w args∧laidMetH Tryz.prog laidD w)∧sizedMet enc Tryz.prog Tryz.f3 (OpenSpec.ofChange Rows.topMatchesSpec) false w args) (Rows.topMatchesSpec.post enc Tryz.prog Tryz.f3 false true false false):=by
 refine returnsInHanded_of_change_and (C:=Tryz.checked) (X:=fun w _=>laidMetH Tryz.prog laidD w) (fun _ _ _ hh h=>h.of_heap hh) own D (by kernel_rfl) Tryz.func3
  (ChangeSpec.witness_shaped (enc:=enc) (C:=Tryz.checked) (os:=os) (X:=fun w _=>laidMetH Tryz.prog laidD w) false (World.doorLaid Tryz.prog 400 os) #[(.agg #[(.slice none 0 0),(.slice none 0 0),(.slice none 0 0),(.slice none 0 0),(.slice none 0 0),(.int IntKind.i64 (0)),(.int IntKind.i64 (0)),(.int IntKind.i64 (0)),(.int IntKind.i64 (0)),(.int IntKind.i64 (0)),(.bool false),(.bool false)]),(.slice none 0 0),(.slice none 0 0)] 8 rfl (World.shaped_of_RefB (by kernel_rfl) (by kernel_rfl)) (by kernel_rfl) (by kernel_rfl) (by kernel_rfl) (yBY os _)) ?_
 intro W O args ds gs ac z hW _ _ hL _;have k:∀(j:Nat) t v,Tryz.f3.params[j]? =some t→args[j]? =some v→Value.okWide Tryz.prog W .any O t v:=z;have aj:=hW;obtain⟨p,q,T,hV,rfl,bl,bn⟩:=hW;have hA:DataW.TrodAll enc Tryz.prog W 0 (fun _=>true) true Tryz.f3.params.toList args.toList ds p:=T;rw[Tryz.params3] at hA k;obtain⟨v0,bu,d0,bc,p0,q0,ak,rfl,rfl,h0,r0⟩:=trodAll_cons hA;obtain⟨v1,bv,d1,bd,p1,q1,rfl,rfl,rfl,h1,r1⟩:=trodAll_cons r0;obtain⟨v2,bw,d2,be,p2,q2,rfl,rfl,rfl,h2,r2⟩:=trodAll_cons r1;obtain⟨rfl,rfl,rfl⟩:=trodAll_nil r2;obtain rfl:args= #[v0,v1,v2]:=by cases args;simp_all
 obtain⟨rfl,rfl⟩:=trodVars_none hV;have k0:=h0;have al:∀x∈p0,x.block<W.heap.size:=by obtain⟨m,Y⟩:=k0;exact DataW.trod_lt m _ _ _ Y
 obtain⟨ai,e0,_⟩:=okWide_struct Tryz.underlying36 (k 0 36 v0 rfl rfl);obtain⟨x0,ao,Z⟩:=zWO (en:=aY) yOK h0 (.inr ⟨ai,e0,fun _=>⟨_,rfl⟩⟩);have k1:=h1;have am:∀x∈p1,x.block<W.heap.size:=by obtain⟨m,Y⟩:=k1;exact DataW.trod_lt m _ _ _ Y
 obtain⟨_,_,_,e1⟩:=okWide_slice Tryz.underlying37 (k 1 37 v1 rfl rfl);obtain⟨x1,ap,aa⟩:=zWO (en:=(eL eI)) (uJ Tryz.underlying37 (by kernel_rfl) (by decide) (xB Tryz.underlying3)) h1 (.inl ⟨by rw[e1];rfl,rfl,fun _=>rfl⟩)
 have k2:=h2;have an:∀x∈p2,x.block<W.heap.size:=by obtain⟨m,Y⟩:=k2;exact DataW.trod_lt m _ _ _ Y
 obtain⟨_,_,_,e2⟩:=okWide_slice Tryz.underlying37 (k 2 37 v2 rfl rfl);obtain⟨x2,aq,ab⟩:=zWO (en:=(eL eI)) (uJ Tryz.underlying37 (by kernel_rfl) (by decide) (xB Tryz.underlying3)) h2 (.inl ⟨by rw[e2];rfl,rfl,fun _=>rfl⟩)
 clear T z;have K:Calls Tryz.prog 3 #[v0,v1,v2] W fun e w'=>e= .returned (.bool true)∧Below W.heap.size W w':=
  yCW (Walk.top_TopMatches_c (Go.M.top_TopMatches_true x0 x1 x2 ao ap aq)) (w:=W) (hG:=z2G hL) (vs:=[v0,v1,v2]) (zPJ Z (zPJ aa (zPJ ab (z7V _ _))))
 refine K.mono fun e W' ⟨he,G⟩=>?_;subst he;exact⟨_,rfl,_,_,_,[],_,[],aj,trodAll_mk1 (shut_bool Tryz.underlying4 _),(trodAll_cons_mk (Below.trod zXT (by kernel_rfl) (of_decide_eq_true (by kernel_rfl)) k0 G al) (trodAll_cons_mk (Below.trod zXT (by kernel_rfl) (of_decide_eq_true (by kernel_rfl)) k1 G am) (trodAll_cons_mk (Below.trod zXT (by kernel_rfl) (of_decide_eq_true (by kernel_rfl)) k2 G an) trodAll_mk0))),rfl,G.frame _,fun h=>by cases h⟩
theorem yKA {P:Program} {f:FuncId} {h:Func} {s:ChangeSpec} {c:OpenClaim} (Z:laidOutB P=true) (h3:mapsRowed P=true) (h8:(c.inPlace==P.inPlace f)=true) (h9:(c.unfollowed==P.unfollowed f)=true) (z:(c.recurses==P.recurses f)=true) (D:(c.named==P.varsNamed f)=true) (G:(c.plainKeys==P.plainKeys)=true) (H:P.stopsHeard=true) (K:P.mayEnter=true) (O:(c.lifted==P.liftsFinal)=true) (T:(P.make==some c.make)=true)
    (Y:(c.wf (OpenSpec.ofChange s)&&h.params.all (P.readableRec ·)&&namedTie P c.named s.vars&&(c.stops== [])&&(P.stops== [])&&(c.knobs== [])&&(P.stopKnobs== [])&&(c.maps==(h.params.toList++s.plain.varTypes P).any (P.mapsRec ·))&&(c.ifaces==(h.params.toList++s.plain.varTypes P).any (P.ifacesRec ·))&&(c.mapsOut==P.mapsAmong h.resultTypes.toList)&&(c.loops==(h.params.toList++s.plain.varTypes P).any (P.loopsFrom ·))&&(c.wideKeys==(h.params.toList++s.plain.varTypes P++h.resultTypes.toList).any (P.wideKeysFrom ·))&&
  s.vars.all (P.varReadable ·)&&h.resultTypes.all (fun t=>P.readableRec t&&decide (t<P.types.size))&&(c.ifacesOut==h.resultTypes.toList.any (P.ifacesRec ·))&&(c.loopsOut==h.resultTypes.toList.any (P.loopsFrom ·))&&c.shortTexts.isNone&&(c.kinds==(if c.domain.isEmpty then [] else h.params.toList.map fun t=>match P.underlying t with | some (.int k)=>some k | _=>none))&&(c.pinned==c.pinnedBy)&&(c.veiled==(h.params.toList++s.plain.varTypes P++h.resultTypes.toList).any (P.veiledRec ·))&&c.veiledFits P h.params.toList (h.params.toList++s.plain.varTypes P++h.resultTypes.toList))=true):joinedFacts P f h s c=true:=by
  unfold joinedFacts;simp only[Z,h3,h8,h9,z,D,G,H,K,O,T,Bool.and_true];exact Y
theorem jf2:laidOutB Tryz.prog=true:=by kernel_rfl
theorem jf3:mapsRowed Tryz.prog=true:=by kernel_rfl
theorem jf8:(Rows.topMatchesRow.inPlace==Tryz.prog.inPlace 3)=true:=by kernel_rfl
theorem jf9:(Rows.topMatchesRow.unfollowed==Tryz.prog.unfollowed 3)=true:=by kernel_rfl
theorem yOL:(Rows.topMatchesRow.recurses==Tryz.prog.recurses 3)=true:=by kernel_rfl
theorem yOM:(Rows.topMatchesRow.named==Tryz.prog.varsNamed 3)=true:=by kernel_rfl
theorem yON:(Rows.topMatchesRow.plainKeys==Tryz.prog.plainKeys)=true:=by kernel_rfl
theorem yOO:Tryz.prog.stopsHeard=true:=by kernel_rfl
theorem yOP:Tryz.prog.mayEnter=true:=by kernel_rfl
theorem yOQ:(Rows.topMatchesRow.lifted==Tryz.prog.liftsFinal)=true:=by kernel_rfl
theorem yOR:(Tryz.prog.make==some Rows.topMatchesRow.make)=true:=by kernel_rfl
theorem over:Rows.topMatchesRow.holds Tryz.pinned (OpenSpec.ofChange Rows.topMatchesSpec):=
  OpenClaim.holds_of_wide 3 Tryz.f3 rfl rfl rfl rfl rfl rfl rfl ⟨rfl,rfl,rfl,rfl,rfl⟩ rfl rfl rfl rfl rfl (by kernel_rfl) Tryz.func3 (yKA jf2 jf3 jf8 jf9 yOL yOM yON yOO yOP yOQ yOR (by kernel_rfl))
    (of_decide_eq_true (by kernel_rfl)) (by unfold Func.isWrapper;first | (rw[if_pos (by decide +kernel)];kernel_rfl) | (rw[if_neg (by decide +kernel)];exact⟨rfl,rfl⟩))
    (fun os h H enc _=>lifted os h H enc)
theorem pv1:Rows.topMatchesRow.wfByText (OpenSpec.ofChange Rows.topMatchesSpec)=true:=by kernel_rfl
theorem pv2:Tryz.prog.mainIs=some (true,("db9bf375d85a957bb5d2823de4c7b3899c2d55efe17b344fb860ca3c07b0cce3":String).toList):=by kernel_rfl
theorem pv3:Tryz.prog.funcNamed "unicodetext/unicodetexttop.TopMatches" =some 3:=by kernel_rfl
theorem pv4:false=Tryz.prog.looks []:=by kernel_rfl
theorem pv5:([36,37,37].all fun u=>!Tryz.prog.wantsStandIn u)=true:=by kernel_rfl
theorem pv6:false=Rows.topMatchesRow.goesBy Tryz.prog:=by kernel_rfl
theorem proved:Rows.TopMatchesCardSaid:=
  Claim7.holds_tied_plain_at .later [] [.data] true (true, "db9bf375d85a957bb5d2823de4c7b3899c2d55efe17b344fb860ca3c07b0cce3") false
    over (fun _ h=>by cases h) pv1 (fun _ h=>by cases h) topMatches_row_tie rfl ⟨rfl,rfl⟩ pv2 rfl
    (fun f G H z=>by
      obtain rfl:f=3:=Option.some.inj (pv3.symm.trans H) |>.symm;obtain rfl:G=Tryz.f3:=(Option.some.inj (Tryz.func3.symm.trans z)).symm;exact⟨pv4,fun j t D=>by
        rw[Tryz.params3] at D;have K:t∈[36,37,37]:=by simpa using Array.mem_of_getElem? D
        have k:([36,37,37].all fun u=>!Tryz.prog.wantsStandIn u)=true:=pv5
        exact(show Tryz.prog.wantsStandIn t=false by simpa using List.all_eq_true.1 k t K)⟩)
    pv6
#print axioms proved
end Go.Proofs.YtjnpmmedmedokaaGreatDoor.topMatches


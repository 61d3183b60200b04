/- The matches of Find are among those of All, ascend and do not overlap. Conditions: none: for every input. (The frame follows the kit's shell of a law's proof; the walk is by the contract.) -/
import Derived.Test.YtjnpmmedmedokaaGreatDoorRows
import Derived.Test.YtjnpmmedmedokaaGreatDoorCards
import Derived.Test.YtjnpmmedmedokaaGreatDoorTie
import Derived.LaidMore
import Derived.Lib.LaidTab
import Derived.Lib.ItoaNum
import Derived.Stop.Joined
import Derived.SevenTiedAt
import Derived.Test.YtjnpmmedmedokaaGreatDoorWk3
import Derived.Test.YtjnpmmedmedokaaGreatDoorLa4
import Derived.Test.YtjnpmmedmedokaaGreatDoorPu3
import Derived.WalkKit
import Derived.ProofKit
import Derived.OpenShut
import Derived.ShutString
import Derived.ChangeOld
import Derived.Below
set_option linter.unusedSimpArgs false
set_option linter.unusedVariables false
set_option linter.unnecessarySimpa false
set_option linter.unusedSimpArgs false
set_option linter.unusedVariables false
set_option linter.unnecessarySimpa false
namespace Go.Proofs.YtjnpmmedmedokaaGreatDoor.searchDisjoint
open Go.AV Go.M
open Go.ChangeShapes Go.WideShapes Go.ChangeAt Go.RowKit
open Go.ChangeMaps (open_string shut_string)
theorem own:ownKnob Tryz.prog.godebug=none:=by kernel_rfl
theorem laidOut:laidOutB Tryz.prog=true:=by kernel_rfl
theorem Op144:jK Tryz.prog 144 aR b9:=by intro H enc w K D O fuel cs x h;obtain⟨T,q0,r0,Z⟩:=zC Tryz.underlying144 h (k:=0) (en:=eI) rfl (by kernel_rfl) (zH Tryz.underlying3);obtain⟨a1,q1,r1,o1⟩:=zC Tryz.underlying144 h (k:=1) (en:=eI) rfl (by kernel_rfl) (zH Tryz.underlying3);obtain⟨a2,q2,r2,o2⟩:=zC Tryz.underlying144 h (k:=2) (en:=eI) rfl (by kernel_rfl) (zH Tryz.underlying3);have Y:cs.length=3:=(zV Tryz.underlying144 h).trans (by kernel_rfl);exact⟨⟨T,a1,a2⟩,⟨q0,q1,q2⟩,(zB (off:=0) r0 Z (zB r1 o1 (zB r2 o2 (z6 Y))))⟩
theorem Op60:jK Tryz.prog 60 aC zJB:=by intro H enc w K D O fuel cs x h;obtain⟨T,q0,r0,Z⟩:=zC Tryz.underlying60 h (k:=0) (en:=eI) rfl (by kernel_rfl) (zH Tryz.underlying3);obtain⟨a1,q1,r1,o1⟩:=zC Tryz.underlying60 h (k:=1) (en:=(eL eI)) rfl (by kernel_rfl) (zR Tryz.underlying37 (by kernel_rfl) (by decide) (zH Tryz.underlying3));obtain⟨a2,q2,r2,o2⟩:=zC Tryz.underlying60 h (k:=2) (en:=eS) rfl (by kernel_rfl) (zDS Tryz.underlying9);have Y:cs.length=3:=(zV Tryz.underlying60 h).trans (by kernel_rfl);exact⟨⟨T,a1,a2⟩,⟨q0,q1,q2⟩,(zB (off:=0) r0 Z (zB r1 o1 (zB r2 o2 (z6 Y))))⟩
theorem Op43:jK Tryz.prog 43 aE zO1:=by intro H enc w K D O fuel cs x h;obtain⟨T,q0,r0,Z⟩:=zC Tryz.underlying43 h (k:=0) (en:=eI) rfl (by kernel_rfl) (zH Tryz.underlying3);obtain⟨a1,q1,r1,o1⟩:=zC Tryz.underlying43 h (k:=1) (en:=eI) rfl (by kernel_rfl) (zH Tryz.underlying3);have Y:cs.length=2:=(zV Tryz.underlying43 h).trans (by kernel_rfl);exact⟨⟨T,a1⟩,⟨q0,q1⟩,(zB (off:=0) r0 Z (zB r1 o1 (z6 Y)))⟩
theorem Op26:jK Tryz.prog 26 bY zWC:=by intro H enc w K D O fuel cs x h;obtain⟨T,q0,r0,Z⟩:=zC Tryz.underlying26 h (k:=0) (en:=(eL aE)) rfl (by kernel_rfl) (zR Tryz.underlying24 (by kernel_rfl) (by decide) Op43);have Y:cs.length=1:=(zV Tryz.underlying26 h).trans (by kernel_rfl);exact⟨⟨T⟩,q0,(zB (off:=0) r0 Z (z6 Y))⟩
theorem Op28:jK Tryz.prog 28 bD wO:=by intro H enc w K D O fuel cs x h;obtain⟨T,q0,r0,Z⟩:=zC Tryz.underlying28 h (k:=0) (en:=(eL aR)) rfl (by kernel_rfl) (zR Tryz.underlying22 (by kernel_rfl) (by decide) Op144);obtain⟨a1,q1,r1,o1⟩:=zC Tryz.underlying28 h (k:=1) (en:=(eL aC)) rfl (by kernel_rfl) (zR Tryz.underlying23 (by kernel_rfl) (by decide) Op60);obtain⟨a2,q2,r2,o2⟩:=zC Tryz.underlying28 h (k:=2) (en:=bY) rfl (by kernel_rfl) Op26;have Y:cs.length=3:=(zV Tryz.underlying28 h).trans (by kernel_rfl);exact⟨⟨T,a1,a2⟩,⟨q0,q1,q2⟩,(zB (off:=0) r0 Z (zB r1 o1 (zB r2 o2 (z6 Y))))⟩
theorem Op82:jK Tryz.prog 82 aG zJA:=by intro H enc w K D O fuel cs x h;obtain⟨T,q0,r0,Z⟩:=zC Tryz.underlying82 h (k:=0) (en:=eI) rfl (by kernel_rfl) (zH Tryz.underlying3);obtain⟨a1,q1,r1,o1⟩:=zC Tryz.underlying82 h (k:=1) (en:=eI) rfl (by kernel_rfl) (zH Tryz.underlying3);obtain⟨a2,q2,r2,o2⟩:=zC Tryz.underlying82 h (k:=2) (en:=eI) rfl (by kernel_rfl) (zH Tryz.underlying3);obtain⟨a3,q3,r3,o3⟩:=zC Tryz.underlying82 h (k:=3) (en:=eB) rfl (by kernel_rfl) (vA Tryz.underlying4);have Y:cs.length=4:=(zV Tryz.underlying82 h).trans (by kernel_rfl);exact⟨⟨T,a1,a2,a3⟩,⟨q0,q1,q2,q3⟩,(zB (off:=0) r0 Z (zB r1 o1 (zB r2 o2 (zB r3 o3 (z6 Y)))))⟩
theorem Op91:jK Tryz.prog 91 bB zO2:=by intro H enc w K D O fuel cs x h;obtain⟨T,q0,r0,Z⟩:=zC Tryz.underlying91 h (k:=0) (en:=(eL eI)) rfl (by kernel_rfl) (zR Tryz.underlying37 (by kernel_rfl) (by decide) (zH Tryz.underlying3));obtain⟨a1,q1,r1,o1⟩:=zC Tryz.underlying91 h (k:=1) (en:=(eL aG)) rfl (by kernel_rfl) (zR Tryz.underlying79 (by kernel_rfl) (by decide) Op82);have Y:cs.length=2:=(zV Tryz.underlying91 h).trans (by kernel_rfl);exact⟨⟨T,a1⟩,⟨q0,q1⟩,(zB (off:=0) r0 Z (zB r1 o1 (z6 Y)))⟩
theorem Op206:jK Tryz.prog 206 bA zO3:=by intro H enc w K D O fuel cs x h;obtain⟨T,q0,r0,Z⟩:=zC Tryz.underlying206 h (k:=0) (en:=eS) rfl (by kernel_rfl) (zDS Tryz.underlying9);obtain⟨a1,q1,r1,o1⟩:=zC Tryz.underlying206 h (k:=1) (en:=eI) rfl (by kernel_rfl) (zH Tryz.underlying3);obtain⟨a2,q2,r2,o2⟩:=zC Tryz.underlying206 h (k:=2) (en:=eI) rfl (by kernel_rfl) (zH Tryz.underlying3);have Y:cs.length=3:=(zV Tryz.underlying206 h).trans (by kernel_rfl);exact⟨⟨T,a1,a2⟩,⟨q0,q1,q2⟩,(zB (off:=0) r0 Z (zB r1 o1 (zB r2 o2 (z6 Y))))⟩
theorem Op32:jK Tryz.prog 32 aH zEE:=by intro H enc w K D O fuel cs x h;obtain⟨T,q0,r0,o0⟩:=zC Tryz.underlying32 h (k:=0) (en:=(eL bB)) rfl (by kernel_rfl) (zR Tryz.underlying29 (by kernel_rfl) (by decide) Op91);obtain⟨a1,q1,r1,o1⟩:=zC Tryz.underlying32 h (k:=1) (en:=(eL bA)) rfl (by kernel_rfl) (zR Tryz.underlying30 (by kernel_rfl) (by decide) Op206);obtain⟨a2,q2,r2,o2⟩:=zC Tryz.underlying32 h (k:=2) (en:=eI) rfl (by kernel_rfl) (zH Tryz.underlying3);obtain⟨a3,q3,r3,o3⟩:=zC Tryz.underlying32 h (k:=3) (en:=eI) rfl (by kernel_rfl) (zH Tryz.underlying3);obtain⟨Y,q4,r4,o4⟩:=zC Tryz.underlying32 h (k:=4) (en:=eI) rfl (by kernel_rfl) (zH Tryz.underlying3);have Z:cs.length=5:=(zV Tryz.underlying32 h).trans (by kernel_rfl);exact⟨⟨T,a1,a2,a3,Y⟩,⟨q0,q1,q2,q3,q4⟩,(zB (off:=0) r0 o0 (zB r1 o1 (zB r2 o2 (zB r3 o3 (zB r4 o4 (z6 Z))))))⟩
theorem Op34:jK Tryz.prog 34 bH zJC:=by intro H enc w K D O fuel cs x h;obtain⟨T,q0,r0,Z⟩:=zC Tryz.underlying34 h (k:=0) (en:=eI) rfl (by kernel_rfl) (zH Tryz.underlying3);obtain⟨a1,q1,r1,o1⟩:=zC Tryz.underlying34 h (k:=1) (en:=eI) rfl (by kernel_rfl) (zH Tryz.underlying3);obtain⟨a2,q2,r2,o2⟩:=zC Tryz.underlying34 h (k:=2) (en:=eB) rfl (by kernel_rfl) (vA Tryz.underlying4);obtain⟨a3,q3,r3,o3⟩:=zC Tryz.underlying34 h (k:=3) (en:=eB) rfl (by kernel_rfl) (vA Tryz.underlying4);have Y:cs.length=4:=(zV Tryz.underlying34 h).trans (by kernel_rfl);exact⟨⟨T,a1,a2,a3⟩,⟨q0,q1,q2,q3⟩,(zB (off:=0) r0 Z (zB r1 o1 (zB r2 o2 (zB r3 o3 (z6 Y)))))⟩
theorem Op47:jK Tryz.prog 47 aS k5:=by intro H enc w K D O fuel cs x h;obtain⟨T,q0,r0,o0⟩:=zC Tryz.underlying47 h (k:=0) (en:=bD) rfl (by kernel_rfl) Op28;obtain⟨a1,q1,r1,o1⟩:=zC Tryz.underlying47 h (k:=1) (en:=aH) rfl (by kernel_rfl) Op32;obtain⟨a2,q2,r2,o2⟩:=zC Tryz.underlying47 h (k:=2) (en:=bH) rfl (by kernel_rfl) Op34;obtain⟨a3,q3,r3,o3⟩:=zC Tryz.underlying47 h (k:=3) (en:=(eL eI)) rfl (by kernel_rfl) (zR Tryz.underlying37 (by kernel_rfl) (by decide) (zH Tryz.underlying3));obtain⟨Y,q4,r4,o4⟩:=zC Tryz.underlying47 h (k:=4) (en:=(eL eI)) rfl (by kernel_rfl) (zR Tryz.underlying37 (by kernel_rfl) (by decide) (zH Tryz.underlying3));obtain⟨Z,q5,r5,o5⟩:=zC Tryz.underlying47 h (k:=5) (en:=(eL eI)) rfl (by kernel_rfl) (zR Tryz.underlying37 (by kernel_rfl) (by decide) (zH Tryz.underlying3));have hl:cs.length=15:=(zV Tryz.underlying47 h).trans (by kernel_rfl);exact⟨⟨T,a1,a2,a3,Y,Z⟩,⟨q0,q1,q2,q3,q4,q5⟩,(zB (off:=0) r0 o0 (zB r1 o1 (zB r2 o2 (zB r3 o3 (zB r4 o4 (zB r5 o5 (z6 hl)))))))⟩
def laidD:List (String×DataW Unit):=[("unicodetext/ordering.hangulRanges",Rows.laid_unicodetext_ordering_hangulRanges)]
theorem gVar0:Tryz.prog.globalNamed "unicodetext/ordering.hangulRanges" =some 0:=by kernel_rfl
theorem tVar0:(Tryz.prog.globals[0]?).map (·.type)=some 210:=by kernel_rfl
theorem door_met (os:Os) (args:Array Value):laidMetH Tryz.prog laidD ((World.doorLaid Tryz.prog 400 os).forCall (fun _ _=>0) ⟨#[],args,[]⟩).memory:=
  laidMetH_of_parts3 (fuel:=8) (laidMet_of_run' 8 (by kernel_rfl) (by kernel_rfl)) (by kernel_rfl) (by kernel_rfl)
set_option maxRecDepth 100000 in
theorem cells0 {W:World} {cs:List Value} {f:Nat} {p:List MemPlace} (hd:DataW.trod (fun (_:TypeId×Value)=>()) Tryz.prog W 0 (fun _=>true) false f 210 cs=some (Rows.laid_unicodetext_ordering_hangulRanges,p)):
  cs= [.int .i64 4352,.int .i64 4370,.int .i64 4449,.int .i64 4469,.int .i64 4520,.int .i64 4546,.int .i64 44032,.int .i64 55203]:=by
 obtain⟨xs,m1,rfl,K,H,O,D⟩:=DataW.trod_array Tryz.underlying210 hd;have cR:Tryz.prog.cellsOf 43=2:=by kernel_rfl
 have cA:Tryz.prog.cellsOf 210=8:=by kernel_rfl
 have cI:Tryz.prog.cellsOf 3=1:=by kernel_rfl
 rw[cA] at H;rw[cR] at D
 match cs,H with
 | [c0,c1,c2,c3,c4,c5,c6,c7],_=>
 match xs,O with
 | [x0,x1,x2,x3],_=>
  have h:∀(a b:Value) (x:DataW Unit×List MemPlace),DataW.trod (fun (_:TypeId×Value)=>()) Tryz.prog W 0 (fun _=>true) false m1 43 [a,b]=some x→∃i j:Int,a= .int .i64 i∧b= .int .i64 j∧x.1= .agg [.lit (.int .i64 i),.lit (.int .i64 j)]:=by
   intro a b x hx;obtain⟨y0,y1,k,rfl,_,Z,h1⟩:=trod_struct2 Tryz.underlying43 hx;rw[cI] at Z h1;obtain⟨i,T,e2,_⟩:=DataW.trod_int Tryz.underlying3 Z;obtain⟨j,Y,e4,_⟩:=DataW.trod_int Tryz.underlying3 h1;simp only[List.drop_zero,List.take_succ_cons,List.take_zero,List.cons.injEq,and_true,List.drop_succ_cons] at T Y;refine⟨i,j,T,Y,?_⟩;rw[e2,e4]
  obtain⟨i0,j0,rfl,rfl,q0⟩:=h c0 c1 x0 (D 0 (by decide));obtain⟨i1,j1,rfl,rfl,q1⟩:=h c2 c3 x1 (D 1 (by decide));obtain⟨i2,j2,rfl,rfl,q2⟩:=h c4 c5 x2 (D 2 (by decide));obtain⟨i3,j3,rfl,rfl,q3⟩:=h c6 c7 x3 (D 3 (by decide));simp only[Prod.mk.injEq,List.map_cons,List.map_nil,q0,q1,q2,q3,Rows.laid_unicodetext_ordering_hangulRanges,DataW.agg.injEq,List.cons.injEq,DataW.lit.injEq,Lit.int.injEq,and_true,true_and] at K;obtain⟨⟨⟨rfl,rfl⟩,⟨rfl,rfl⟩,⟨rfl,rfl⟩,⟨rfl,rfl⟩⟩,_⟩:=K;rfl
theorem gd_only {g:Nat} {ys:List Value} (h:uB Tryz.prog g=some ys):(g=0∧ys= [.int .i64 4352,.int .i64 4370,.int .i64 4449,.int .i64 4469,.int .i64 4520,.int .i64 4546,.int .i64 44032,.int .i64 55203]):=by
  have D:=h;unfold uB gdNames at h;simp only[List.find?,gVar0] at h;by_cases k:(some 0==some g)=true
  · obtain rfl:0=g:=by simpa using k
    have H:uB Tryz.prog 0=some [.int .i64 4352,.int .i64 4370,.int .i64 4449,.int .i64 4469,.int .i64 4520,.int .i64 4546,.int .i64 44032,.int .i64 55203]:=by kernel_rfl
    rw[H] at D;cases D;exact⟨rfl,rfl⟩
  simp only[k] at h;cases h
theorem cell_old {W:World} {g j:Nat} {v:Value} (h:W.cell? ⟨g,j,none⟩=some v):g<W.heap.size:=by
  rcases Nat.lt_or_ge g W.heap.size with k | hge
  · exact k
  · unfold World.cell? at h
    rw[Array.getElem?_eq_none hge] at h;cases h
theorem gl_of_laid {W:World} (h:laidMetH Tryz.prog laidD W):GlI (uB Tryz.prog) W (zP7 W):=by
  rw[MakeChecks.laidMetH_plain _ _ _ (by kernel_rfl)] at h;obtain⟨ps,⟨g0,t0,Y,f0,p0,q0,H,O,T,K,_,_⟩,_,_⟩:=h;obtain rfl:=Option.some.inj (gVar0.symm.trans H);obtain rfl:=Option.some.inj (tVar0.symm.trans O);have D:=cells0 K;have k:∀j,W.cell? ⟨0,j,none⟩= [.int .i64 4352,.int .i64 4370,.int .i64 4449,.int .i64 4469,.int .i64 4520,.int .i64 4546,.int .i64 44032,.int .i64 55203][j]?:=fun j=>by
    rw[World.var?_cell H T j,←D];simp
  intro g ys Z j;rcases gd_only Z with ⟨rfl,rfl⟩
  · exact⟨k j,cell_old (k 0)⟩
set_option maxRecDepth 100000 in
theorem lifted (os:Os) (D:os.Started) (H:Type) (enc:TypeId×Value→H):
  ReturnsInHanded {} Tryz.checked os 11 .any (fun w args=>(Rows.searchDisjointSpec.pre enc Tryz.prog Tryz.f11 [] false w args∧laidMetH Tryz.prog laidD w)∧sizedMet enc Tryz.prog Tryz.f11 (OpenSpec.ofChange Rows.searchDisjointSpec) false w args) (Rows.searchDisjointSpec.post enc Tryz.prog Tryz.f11 false true false false):=by
 refine returnsInHanded_of_change_and (C:=Tryz.checked) (X:=fun w _=>laidMetH Tryz.prog laidD w) (fun _ _ _ hh h=>h.of_heap hh) own D (by kernel_rfl) Tryz.func11
  (ChangeSpec.witness_shaped (enc:=enc) (C:=Tryz.checked) (os:=os) (X:=fun w _=>laidMetH Tryz.prog laidD w) false (World.doorLaid Tryz.prog 400 os) #[(.agg #[(.slice none 0 0),(.slice none 0 0),(.slice none 0 0),(.slice none 0 0),(.slice none 0 0),(.int IntKind.i64 (0)),(.int IntKind.i64 (0)),(.int IntKind.i64 (0)),(.int IntKind.i64 (0)),(.int IntKind.i64 (0)),(.bool false),(.bool false),(.slice none 0 0),(.slice none 0 0),(.slice none 0 0)])] 8 rfl (World.shaped_of_RefB (by kernel_rfl) (by kernel_rfl)) (by kernel_rfl) (by kernel_rfl) (by kernel_rfl) (door_met os _)) ?_
 intro W T args ds gs ab k hW _ _ hL _;have K:∀(j:Nat) t v,Tryz.f11.params[j]? =some t→args[j]? =some v→Value.okWide Tryz.prog W .any T t v:=k;have ag:=hW;obtain⟨p,q,Z,hV,rfl,aw,az⟩:=hW;have hA:DataW.TrodAll enc Tryz.prog W 0 (fun _=>true) true Tryz.f11.params.toList args.toList ds p:=Z;rw[Tryz.params11] at hA K;obtain⟨v0,bb,d0,ao,p0,q0,ah,rfl,rfl,h0,r0⟩:=trodAll_cons hA;obtain⟨rfl,rfl,rfl⟩:=trodAll_nil r0;obtain rfl:args= #[v0]:=by cases args;simp_all
 obtain⟨rfl,rfl⟩:=trodVars_none hV;have k0:=h0;have ai:∀x∈p0,x.block<W.heap.size:=by obtain⟨m,hm⟩:=k0;exact DataW.trod_lt m _ _ _ hm
 obtain⟨ad,e0,_⟩:=okWide_struct Tryz.underlying47 (K 0 47 v0 rfl rfl);obtain⟨x0,aj,aa⟩:=zRF (en:=aS) Op47 h0 (.inr ⟨ad,e0,fun _=>⟨_,rfl⟩⟩);clear Z k;have O:Calls Tryz.prog 11 #[v0] W fun e w'=>e= .returned (.bool true)∧Below W.heap.size W w':=
  zQ5 (Walk.law49_SearchDisjoint_c (Go.M.law49_SearchDisjoint_true x0 aj)) (w:=W) (hG:=gl_of_laid hL) (vs:=[v0]) (zLN aa (zNX _ _))
 refine O.mono fun e W' ⟨he,Y⟩=>?_;subst he;exact⟨_,rfl,_,_,_,[],_,[],ag,trodAll_mk1 (shut_bool Tryz.underlying4 _),(trodAll_cons_mk (Below.trod laidOut (by kernel_rfl) (of_decide_eq_true (by kernel_rfl)) k0 Y ai) trodAll_mk0),rfl,Y.frame _,fun h=>by cases h⟩
theorem jf_all {P:Program} {f:FuncId} {h:Func} {s:ChangeSpec} {c:OpenClaim} (h2:laidOutB P=true) (h3:mapsRowed P=true) (h8:(c.inPlace==P.inPlace f)=true) (h9:(c.unfollowed==P.unfollowed f)=true) (D:(c.recurses==P.recurses f)=true) (G:(c.named==P.varsNamed f)=true) (H:(c.plainKeys==P.plainKeys)=true) (K:P.stopsHeard=true) (O:P.mayEnter=true) (T:(c.lifted==P.liftsFinal)=true) (Y:(P.make==some c.make)=true)
    (Z:(c.wf (OpenSpec.ofChange s)&&h.params.all (P.readableRec ·)&&namedTie P c.named s.vars&&(c.stops== [])&&(P.stops== [])&&(c.knobs== [])&&(P.stopKnobs== [])&&(c.maps==(h.params.toList++s.plain.varTypes P).any (P.mapsRec ·))&&(c.ifaces==(h.params.toList++s.plain.varTypes P).any (P.ifacesRec ·))&&(c.mapsOut==P.mapsAmong h.resultTypes.toList)&&(c.loops==(h.params.toList++s.plain.varTypes P).any (P.loopsFrom ·))&&(c.wideKeys==(h.params.toList++s.plain.varTypes P++h.resultTypes.toList).any (P.wideKeysFrom ·))&&
  s.vars.all (P.varReadable ·)&&h.resultTypes.all (fun t=>P.readableRec t&&decide (t<P.types.size))&&(c.ifacesOut==h.resultTypes.toList.any (P.ifacesRec ·))&&(c.loopsOut==h.resultTypes.toList.any (P.loopsFrom ·))&&c.shortTexts.isNone&&(c.kinds==(if c.domain.isEmpty then [] else h.params.toList.map fun t=>match P.underlying t with | some (.int k)=>some k | _=>none))&&(c.pinned==c.pinnedBy)&&(c.veiled==(h.params.toList++s.plain.varTypes P++h.resultTypes.toList).any (P.veiledRec ·))&&c.veiledFits P h.params.toList (h.params.toList++s.plain.varTypes P++h.resultTypes.toList))=true):joinedFacts P f h s c=true:=by
  unfold joinedFacts;simp only[h2,h3,h8,h9,D,G,H,K,O,T,Y,Bool.and_true];exact Z
theorem jf2:laidOutB Tryz.prog=true:=by kernel_rfl
theorem jf3:mapsRowed Tryz.prog=true:=by kernel_rfl
theorem jf8:(Rows.searchDisjointRow.inPlace==Tryz.prog.inPlace 11)=true:=by kernel_rfl
theorem jf9:(Rows.searchDisjointRow.unfollowed==Tryz.prog.unfollowed 11)=true:=by kernel_rfl
theorem jf10:(Rows.searchDisjointRow.recurses==Tryz.prog.recurses 11)=true:=by kernel_rfl
theorem jf11:(Rows.searchDisjointRow.named==Tryz.prog.varsNamed 11)=true:=by kernel_rfl
theorem jf13:(Rows.searchDisjointRow.plainKeys==Tryz.prog.plainKeys)=true:=by kernel_rfl
theorem jf14:Tryz.prog.stopsHeard=true:=by kernel_rfl
theorem jf15:Tryz.prog.mayEnter=true:=by kernel_rfl
theorem jf16:(Rows.searchDisjointRow.lifted==Tryz.prog.liftsFinal)=true:=by kernel_rfl
theorem jf17:(Tryz.prog.make==some Rows.searchDisjointRow.make)=true:=by kernel_rfl
theorem over:Rows.searchDisjointRow.holds Tryz.pinned (OpenSpec.ofChange Rows.searchDisjointSpec):=
  OpenClaim.holds_of_wide 11 Tryz.f11 rfl rfl rfl rfl rfl rfl rfl ⟨rfl,rfl,rfl,rfl,rfl⟩ rfl rfl rfl rfl rfl (by kernel_rfl) Tryz.func11 (jf_all jf2 jf3 jf8 jf9 jf10 jf11 jf13 jf14 jf15 jf16 jf17 (by kernel_rfl))
    (of_decide_eq_true (by kernel_rfl)) (by unfold Func.isWrapper;first | (rw[if_pos (by decide +kernel)];kernel_rfl) | (rw[if_neg (by decide +kernel)];exact⟨rfl,rfl⟩))
    (fun os h H enc _=>lifted os h H enc)
theorem pv1:Rows.searchDisjointRow.wfByText (OpenSpec.ofChange Rows.searchDisjointSpec)=true:=by kernel_rfl
theorem pv2:Tryz.prog.mainIs=some (true,("db9bf375d85a957bb5d2823de4c7b3899c2d55efe17b344fb860ca3c07b0cce3":String).toList):=by kernel_rfl
theorem pv3:Tryz.prog.funcNamed "unicodetext/unicodetextlaw49.SearchDisjoint" =some 11:=by kernel_rfl
theorem pv4:false=Tryz.prog.looks []:=by kernel_rfl
theorem pv5:([47].all fun u=>!Tryz.prog.wantsStandIn u)=true:=by kernel_rfl
theorem pv6:false=Rows.searchDisjointRow.goesBy Tryz.prog:=by kernel_rfl
theorem proved:Rows.SearchDisjointCardSaid:=
  Claim7.holds_tied_plain_at .later [] [.data] true (true, "db9bf375d85a957bb5d2823de4c7b3899c2d55efe17b344fb860ca3c07b0cce3") false
    over (fun _ h=>by cases h) pv1 (fun _ h=>by cases h) searchDisjoint_row_tie rfl ⟨rfl,rfl⟩ pv2 rfl
    (fun f K O D=>by
      obtain rfl:f=11:=Option.some.inj (pv3.symm.trans O) |>.symm;obtain rfl:K=Tryz.f11:=(Option.some.inj (Tryz.func11.symm.trans D)).symm;exact⟨pv4,fun j t H=>by
        rw[Tryz.params11] at H;have T:t∈[47]:=by simpa using Array.mem_of_getElem? H
        have k:([47].all fun u=>!Tryz.prog.wantsStandIn u)=true:=pv5
        exact(show Tryz.prog.wantsStandIn t=false by simpa using List.all_eq_true.1 k t T)⟩)
    pv6
#print axioms proved
end Go.Proofs.YtjnpmmedmedokaaGreatDoor.searchDisjoint


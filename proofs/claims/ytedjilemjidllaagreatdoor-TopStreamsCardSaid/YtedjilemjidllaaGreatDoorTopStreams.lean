/- Bytes in pieces, forms in pieces and transliteration in pieces give what the whole gives. Conditions: none: for every input. (The frame follows the kit's shell of a law's proof; the walk is by the contract.) -/
import Derived.Test.YtedjilemjidllaaGreatDoorRows
import Derived.Test.YtedjilemjidllaaGreatDoorCards
import Derived.Test.YtedjilemjidllaaGreatDoorTie
import Derived.LaidMore
import Derived.Lib.LaidTab
import Derived.Lib.ItoaNum
import Derived.Stop.Joined
import Derived.SevenTiedAt
import Derived.Test.YtedjilemjidllaaGreatDoorWk3
import Derived.Test.YtedjilemjidllaaGreatDoorLa4
import Derived.Test.YtedjilemjidllaaGreatDoorPu3
import Derived.WalkKit
import Derived.ProofKit
import Derived.OpenShut
import Derived.ShutString
import Derived.ChangeOld
import Derived.Below
set_option linter.unusedSimpArgs false
set_option linter.unusedVariables false
set_option linter.unnecessarySimpa false
set_option linter.unusedSimpArgs false
set_option linter.unusedVariables false
set_option linter.unnecessarySimpa false
namespace Go.Proofs.YtedjilemjidllaaGreatDoor.topStreams
open Go.AV Go.M
open Go.ChangeShapes Go.WideShapes Go.ChangeAt Go.RowKit
open Go.ChangeMaps (open_string shut_string)
theorem own:ownKnob Tryz.prog.godebug=none:=by kernel_rfl
theorem yRX:laidOutB Tryz.prog=true:=by kernel_rfl
theorem yXY:zJ7 Tryz.prog 140 aH cZ:=by intro H enc w G D K fuel cs x h;obtain⟨a0,q0,r0,o0⟩:=xB Tryz.underlying140 h (k:=0) (en:=eI) rfl (by kernel_rfl) (zEE Tryz.underlying3);obtain⟨O,q1,r1,o1⟩:=xB Tryz.underlying140 h (k:=1) (en:=eI) rfl (by kernel_rfl) (zEE Tryz.underlying3);obtain⟨T,q2,r2,o2⟩:=xB Tryz.underlying140 h (k:=2) (en:=eI) rfl (by kernel_rfl) (zEE Tryz.underlying3);have Z:cs.length=3:=(zEW Tryz.underlying140 h).trans (by kernel_rfl);exact⟨⟨a0,O,T⟩,⟨q0,q1,q2⟩,(jK (off:=0) r0 o0 (jK r1 o1 (jK r2 o2 (zGX Z))))⟩
theorem yZX:zJ7 Tryz.prog 81 aB zT5:=by intro H enc w G D K fuel cs x h;obtain⟨a0,q0,r0,o0⟩:=xB Tryz.underlying81 h (k:=0) (en:=eI) rfl (by kernel_rfl) (zEE Tryz.underlying3);obtain⟨O,q1,r1,o1⟩:=xB Tryz.underlying81 h (k:=1) (en:=(eL eI)) rfl (by kernel_rfl) (zAX Tryz.underlying39 (by kernel_rfl) (by decide) (zEE Tryz.underlying3));obtain⟨T,q2,r2,o2⟩:=xB Tryz.underlying81 h (k:=2) (en:=eS) rfl (by kernel_rfl) (z1L Tryz.underlying9);have Z:cs.length=3:=(zEW Tryz.underlying81 h).trans (by kernel_rfl);exact⟨⟨a0,O,T⟩,⟨q0,q1,q2⟩,(jK (off:=0) r0 o0 (jK r1 o1 (jK r2 o2 (zGX Z))))⟩
theorem yXZ:zJ7 Tryz.prog 143 aF yDD:=by intro H enc w G D K fuel cs x h;obtain⟨a0,q0,r0,Z⟩:=xB Tryz.underlying143 h (k:=0) (en:=eI) rfl (by kernel_rfl) (zEE Tryz.underlying3);obtain⟨O,q1,r1,o1⟩:=xB Tryz.underlying143 h (k:=1) (en:=eI) rfl (by kernel_rfl) (zEE Tryz.underlying3);have T:cs.length=2:=(zEW Tryz.underlying143 h).trans (by kernel_rfl);exact⟨⟨a0,O⟩,⟨q0,q1⟩,(jK (off:=0) r0 Z (jK r1 o1 (zGX T)))⟩
theorem yRY:zJ7 Tryz.prog 26 bA z1M:=by intro H enc w G D K fuel cs x h;obtain⟨a0,q0,Z,T⟩:=xB Tryz.underlying26 h (k:=0) (en:=(eL aF)) rfl (by kernel_rfl) (zAX Tryz.underlying24 (by kernel_rfl) (by decide) yXZ);have O:cs.length=1:=(zEW Tryz.underlying26 h).trans (by kernel_rfl);exact⟨⟨a0⟩,q0,(jK (off:=0) Z T (zGX O))⟩
theorem yZY:zJ7 Tryz.prog 28 aU uV:=by intro H enc w G D K fuel cs x h;obtain⟨a0,q0,r0,o0⟩:=xB Tryz.underlying28 h (k:=0) (en:=(eL aH)) rfl (by kernel_rfl) (zAX Tryz.underlying22 (by kernel_rfl) (by decide) yXY);obtain⟨O,q1,r1,o1⟩:=xB Tryz.underlying28 h (k:=1) (en:=(eL aB)) rfl (by kernel_rfl) (zAX Tryz.underlying23 (by kernel_rfl) (by decide) yZX);obtain⟨T,q2,r2,o2⟩:=xB Tryz.underlying28 h (k:=2) (en:=bA) rfl (by kernel_rfl) yRY;have Z:cs.length=3:=(zEW Tryz.underlying28 h).trans (by kernel_rfl);exact⟨⟨a0,O,T⟩,⟨q0,q1,q2⟩,(jK (off:=0) r0 o0 (jK r1 o1 (jK r2 o2 (zGX Z))))⟩
theorem yX0:zJ7 Tryz.prog 115 b6 yDE:=by intro H enc w G D K fuel cs x h;obtain⟨a0,q0,r0,Z⟩:=xB Tryz.underlying115 h (k:=0) (en:=eI) rfl (by kernel_rfl) (zEE Tryz.underlying3);obtain⟨O,q1,r1,o1⟩:=xB Tryz.underlying115 h (k:=1) (en:=eI) rfl (by kernel_rfl) (zEE Tryz.underlying3);have T:cs.length=2:=(zEW Tryz.underlying115 h).trans (by kernel_rfl);exact⟨⟨a0,O⟩,⟨q0,q1⟩,(jK (off:=0) r0 Z (jK r1 o1 (zGX T)))⟩
theorem yZZ:zJ7 Tryz.prog 76 aC zVC:=by intro H enc w G D K fuel cs x h;obtain⟨a0,q0,r0,o0⟩:=xB Tryz.underlying76 h (k:=0) (en:=(eL bA)) rfl (by kernel_rfl) (zAX Tryz.underlying73 (by kernel_rfl) (by decide) yRY);obtain⟨O,q1,r1,o1⟩:=xB Tryz.underlying76 h (k:=1) (en:=(eL bA)) rfl (by kernel_rfl) (zAX Tryz.underlying73 (by kernel_rfl) (by decide) yRY);obtain⟨T,q2,r2,o2⟩:=xB Tryz.underlying76 h (k:=2) (en:=(eL bA)) rfl (by kernel_rfl) (zAX Tryz.underlying73 (by kernel_rfl) (by decide) yRY);obtain⟨Z,q3,r3,o3⟩:=xB Tryz.underlying76 h (k:=3) (en:=(eL b6)) rfl (by kernel_rfl) (zAX Tryz.underlying74 (by kernel_rfl) (by decide) yX0);have hl:cs.length=4:=(zEW Tryz.underlying76 h).trans (by kernel_rfl);exact⟨⟨a0,O,T,Z⟩,⟨q0,q1,q2,q3⟩,(jK (off:=0) r0 o0 (jK r1 o1 (jK r2 o2 (jK r3 o3 (zGX hl)))))⟩
theorem yZ0:zJ7 Tryz.prog 32 aT zHW:=by intro H enc w G D K fuel cs x h;obtain⟨a0,q0,r0,o0⟩:=xB Tryz.underlying32 h (k:=0) (en:=aU) rfl (by kernel_rfl) yZY;obtain⟨O,q1,r1,o1⟩:=xB Tryz.underlying32 h (k:=1) (en:=eI) rfl (by kernel_rfl) (zEE Tryz.underlying3);obtain⟨T,q2,r2,o2⟩:=xB Tryz.underlying32 h (k:=2) (en:=(eL aC)) rfl (by kernel_rfl) (zAX Tryz.underlying29 (by kernel_rfl) (by decide) yZZ);obtain⟨Z,q3,r3,o3⟩:=xB Tryz.underlying32 h (k:=3) (en:=eS) rfl (by kernel_rfl) (z1L Tryz.underlying9);obtain⟨a4,q4,r4,o4⟩:=xB Tryz.underlying32 h (k:=4) (en:=(eL e8)) rfl (by kernel_rfl) (zAX Tryz.underlying30 (by kernel_rfl) (by decide) (yKT Tryz.underlying5));have hl:cs.length=7:=(zEW Tryz.underlying32 h).trans (by kernel_rfl);exact⟨⟨a0,O,T,Z,a4⟩,⟨q0,q1,q2,q3,q4⟩,(jK (off:=0) r0 o0 (jK r1 o1 (jK r2 o2 (jK r3 o3 (jK r4 o4 (zGX hl))))))⟩
def laidD:List (String×DataW Unit):=[("unicodetext/codepoint.digits",Rows.laid_unicodetext_codepoint_digits),("unicodetext/ordering.hangulRanges",Rows.laid_unicodetext_ordering_hangulRanges)]
theorem gVar1:Tryz.prog.globalNamed "unicodetext/ordering.hangulRanges" =some 0:=by kernel_rfl
theorem tVar1:(Tryz.prog.globals[0]?).map (·.type)=some 195:=by kernel_rfl
theorem yN9 (os:Os) (args:Array Value):laidMetH Tryz.prog laidD ((World.doorLaid Tryz.prog 400 os).forCall (fun _ _=>0) ⟨#[],args,[]⟩).memory:=
  laidMetH_of_parts3 (fuel:=8) (laidMet_of_run' 8 (by kernel_rfl) (by kernel_rfl)) (by kernel_rfl) (by kernel_rfl)
set_option maxRecDepth 100000 in
theorem yVQ {W:World} {cs:List Value} {f:Nat} {p:List MemPlace} (hd:DataW.trod (fun (_:TypeId×Value)=>()) Tryz.prog W 0 (fun _=>true) false f 195 cs=some (Rows.laid_unicodetext_ordering_hangulRanges,p)):
  cs= [.int .i64 4352,.int .i64 4370,.int .i64 4449,.int .i64 4469,.int .i64 4520,.int .i64 4546,.int .i64 44032,.int .i64 55203]:=by
 obtain⟨xs,m1,rfl,H,G,K,D⟩:=DataW.trod_array Tryz.underlying195 hd;have cR:Tryz.prog.cellsOf 143=2:=by kernel_rfl
 have cA:Tryz.prog.cellsOf 195=8:=by kernel_rfl
 have cI:Tryz.prog.cellsOf 3=1:=by kernel_rfl
 rw[cA] at G;rw[cR] at D
 match cs,G with
 | [c0,c1,c2,c3,c4,c5,c6,c7],_=>
 match xs,K with
 | [x0,x1,x2,x3],_=>
  have h:∀(a b:Value) (x:DataW Unit×List MemPlace),DataW.trod (fun (_:TypeId×Value)=>()) Tryz.prog W 0 (fun _=>true) false m1 143 [a,b]=some x→∃i j:Int,a= .int .i64 i∧b= .int .i64 j∧x.1= .agg [.lit (.int .i64 i),.lit (.int .i64 j)]:=by
   intro a b x hx;obtain⟨y0,y1,k,rfl,_,Z,h1⟩:=trod_struct2 Tryz.underlying143 hx;rw[cI] at Z h1;obtain⟨i,O,e2,_⟩:=DataW.trod_int Tryz.underlying3 Z;obtain⟨j,T,e4,_⟩:=DataW.trod_int Tryz.underlying3 h1;simp only[List.drop_zero,List.take_succ_cons,List.take_zero,List.cons.injEq,and_true,List.drop_succ_cons] at O T;refine⟨i,j,O,T,?_⟩;rw[e2,e4]
  obtain⟨i0,j0,rfl,rfl,q0⟩:=h c0 c1 x0 (D 0 (by decide));obtain⟨i1,j1,rfl,rfl,q1⟩:=h c2 c3 x1 (D 1 (by decide));obtain⟨i2,j2,rfl,rfl,q2⟩:=h c4 c5 x2 (D 2 (by decide));obtain⟨i3,j3,rfl,rfl,q3⟩:=h c6 c7 x3 (D 3 (by decide));simp only[Prod.mk.injEq,List.map_cons,List.map_nil,q0,q1,q2,q3,Rows.laid_unicodetext_ordering_hangulRanges,DataW.agg.injEq,List.cons.injEq,DataW.lit.injEq,Lit.int.injEq,and_true,true_and] at H;obtain⟨⟨⟨rfl,rfl⟩,⟨rfl,rfl⟩,⟨rfl,rfl⟩,⟨rfl,rfl⟩⟩,_⟩:=H;rfl
theorem yRZ {g:Nat} {ys:List Value} (h:vF Tryz.prog g=some ys):(g=0∧ys= [.int .i64 4352,.int .i64 4370,.int .i64 4449,.int .i64 4469,.int .i64 4520,.int .i64 4546,.int .i64 44032,.int .i64 55203]):=by
  have D:=h;unfold vF gdNames at h;simp only[List.find?,gVar1] at h;by_cases k:(some 0==some g)=true
  · obtain rfl:0=g:=by simpa using k
    have G:vF Tryz.prog 0=some [.int .i64 4352,.int .i64 4370,.int .i64 4449,.int .i64 4469,.int .i64 4520,.int .i64 4546,.int .i64 44032,.int .i64 55203]:=by kernel_rfl
    rw[G] at D;cases D;exact⟨rfl,rfl⟩
  simp only[k] at h;cases h
theorem yOA {W:World} {g j:Nat} {v:Value} (h:W.cell? ⟨g,j,none⟩=some v):g<W.heap.size:=by
  rcases Nat.lt_or_ge g W.heap.size with k | hge
  · exact k
  · unfold World.cell? at h
    rw[Array.getElem?_eq_none hge] at h;cases h
theorem yCR {W:World} (h:laidMetH Tryz.prog laidD W):GlI (vF Tryz.prog) W (zXF W):=by
  rw[MakeChecks.laidMetH_plain _ _ _ (by kernel_rfl)] at h;obtain⟨ps,⟨g0,t0,T,f0,p0,q0,ac,ad,ag,aa,⟨g1,t1,Z,f1,p1,q1,G,K,O,H,_,_⟩,_⟩,_,_⟩:=h;obtain rfl:=Option.some.inj (gVar1.symm.trans G);obtain rfl:=Option.some.inj (tVar1.symm.trans K);have D:=yVQ H;have k:∀j,W.cell? ⟨0,j,none⟩= [.int .i64 4352,.int .i64 4370,.int .i64 4449,.int .i64 4469,.int .i64 4520,.int .i64 4546,.int .i64 44032,.int .i64 55203][j]?:=fun j=>by
    rw[World.var?_cell G O j,←D];simp
  intro g ys hg j;rcases yRZ hg with ⟨rfl,rfl⟩
  · exact⟨k j,yOA (k 0)⟩
set_option maxRecDepth 100000 in
theorem lifted (os:Os) (D:os.Started) (H:Type) (enc:TypeId×Value→H):
  ReturnsInHanded {} Tryz.checked os 3 .any (fun w args=>(Rows.topStreamsSpec.pre enc Tryz.prog Tryz.f3 [] false w args∧laidMetH Tryz.prog laidD w)∧sizedMet enc Tryz.prog Tryz.f3 (OpenSpec.ofChange Rows.topStreamsSpec) false w args) (Rows.topStreamsSpec.post enc Tryz.prog Tryz.f3 false true false false):=by
 refine returnsInHanded_of_change_and (C:=Tryz.checked) (X:=fun w _=>laidMetH Tryz.prog laidD w) (fun _ _ _ hh h=>h.of_heap hh) own D (by kernel_rfl) Tryz.func3
  (ChangeSpec.witness_shaped (enc:=enc) (C:=Tryz.checked) (os:=os) (X:=fun w _=>laidMetH Tryz.prog laidD w) false (World.doorLaid Tryz.prog 400 os) #[(.agg #[(.slice none 0 0),(.slice none 0 0),(.slice none 0 0),(.int IntKind.i64 (0)),(.slice none 0 0),(.string ⟨#[]⟩),(.slice none 0 0)])] 8 rfl (World.shaped_of_RefB (by kernel_rfl) (by kernel_rfl)) (by kernel_rfl) (by kernel_rfl) (by kernel_rfl) (yN9 os _)) ?_
 intro W O args ds gs before k hW _ _ hL _;have G:∀(j:Nat) t v,Tryz.f3.params[j]? =some t→args[j]? =some v→Value.okWide Tryz.prog W .any O t v:=k;have ad:=hW;obtain⟨p,q,Z,hV,rfl,au,ay⟩:=hW;have hA:DataW.TrodAll enc Tryz.prog W 0 (fun _=>true) true Tryz.f3.params.toList args.toList ds p:=Z;rw[Tryz.params3] at hA G;obtain⟨v0,bb,d0,an,p0,q0,ag,rfl,rfl,h0,r0⟩:=trodAll_cons hA;obtain⟨rfl,rfl,rfl⟩:=trodAll_nil r0;obtain rfl:args= #[v0]:=by cases args;simp_all
 obtain⟨rfl,rfl⟩:=trodVars_none hV;have k0:=h0;have ah:∀x∈p0,x.block<W.heap.size:=by obtain⟨m,hm⟩:=k0;exact DataW.trod_lt m _ _ _ hm
 obtain⟨ac,e0,_⟩:=okWide_struct Tryz.underlying32 (G 0 32 v0 rfl rfl);obtain⟨x0,ai,aa⟩:=yPH (en:=aT) yZ0 h0 (.inr ⟨ac,e0,fun _=>⟨_,rfl⟩⟩);clear Z k;have K:Calls Tryz.prog 3 #[v0] W fun e w'=>e= .returned (.bool true)∧Below W.heap.size W w':=
  yOS (Walk.top_TopStreams_c (Go.M.top_TopStreams_true x0 ai)) (w:=W) (hG:=yCR hL) (vs:=[v0]) (yFQ aa (yJR _ _))
 refine K.mono fun e W' ⟨he,T⟩=>?_;subst he;exact⟨_,rfl,_,_,_,[],_,[],ad,trodAll_mk1 (shut_bool Tryz.underlying4 _),(trodAll_cons_mk (Below.trod yRX (by kernel_rfl) (of_decide_eq_true (by kernel_rfl)) k0 T ah) trodAll_mk0),rfl,T.frame _,fun h=>by cases h⟩
theorem yVR {P:Program} {f:FuncId} {fn:Func} {s:ChangeSpec} {c:OpenClaim} (h2:laidOutB P=true) (h3:mapsRowed P=true) (h8:(c.inPlace==P.inPlace f)=true) (h9:(c.unfollowed==P.unfollowed f)=true) (h:(c.recurses==P.recurses f)=true) (D:(c.named==P.varsNamed f)=true) (G:(c.plainKeys==P.plainKeys)=true) (H:P.stopsHeard=true) (K:P.mayEnter=true) (O:(c.lifted==P.liftsFinal)=true) (T:(P.make==some c.make)=true)
    (Z:(c.wf (OpenSpec.ofChange s)&&fn.params.all (P.readableRec ·)&&namedTie P c.named s.vars&&(c.stops== [])&&(P.stops== [])&&(c.knobs== [])&&(P.stopKnobs== [])&&(c.maps==(fn.params.toList++s.plain.varTypes P).any (P.mapsRec ·))&&(c.ifaces==(fn.params.toList++s.plain.varTypes P).any (P.ifacesRec ·))&&(c.mapsOut==P.mapsAmong fn.resultTypes.toList)&&(c.loops==(fn.params.toList++s.plain.varTypes P).any (P.loopsFrom ·))&&(c.wideKeys==(fn.params.toList++s.plain.varTypes P++fn.resultTypes.toList).any (P.wideKeysFrom ·))&&
  s.vars.all (P.varReadable ·)&&fn.resultTypes.all (fun t=>P.readableRec t&&decide (t<P.types.size))&&(c.ifacesOut==fn.resultTypes.toList.any (P.ifacesRec ·))&&(c.loopsOut==fn.resultTypes.toList.any (P.loopsFrom ·))&&c.shortTexts.isNone&&(c.kinds==(if c.domain.isEmpty then [] else fn.params.toList.map fun t=>match P.underlying t with | some (.int k)=>some k | _=>none))&&(c.pinned==c.pinnedBy)&&(c.veiled==(fn.params.toList++s.plain.varTypes P++fn.resultTypes.toList).any (P.veiledRec ·))&&c.veiledFits P fn.params.toList (fn.params.toList++s.plain.varTypes P++fn.resultTypes.toList))=true):joinedFacts P f fn s c=true:=by
  unfold joinedFacts;simp only[h2,h3,h8,h9,h,D,G,H,K,O,T,Bool.and_true];exact Z
theorem jf2:laidOutB Tryz.prog=true:=by kernel_rfl
theorem jf3:mapsRowed Tryz.prog=true:=by kernel_rfl
theorem jf8:(Rows.topStreamsRow.inPlace==Tryz.prog.inPlace 3)=true:=by kernel_rfl
theorem jf9:(Rows.topStreamsRow.unfollowed==Tryz.prog.unfollowed 3)=true:=by kernel_rfl
theorem yZ1:(Rows.topStreamsRow.recurses==Tryz.prog.recurses 3)=true:=by kernel_rfl
theorem yZ2:(Rows.topStreamsRow.named==Tryz.prog.varsNamed 3)=true:=by kernel_rfl
theorem yZ3:(Rows.topStreamsRow.plainKeys==Tryz.prog.plainKeys)=true:=by kernel_rfl
theorem yZ4:Tryz.prog.stopsHeard=true:=by kernel_rfl
theorem yZ5:Tryz.prog.mayEnter=true:=by kernel_rfl
theorem yZ6:(Rows.topStreamsRow.lifted==Tryz.prog.liftsFinal)=true:=by kernel_rfl
theorem yZ7:(Tryz.prog.make==some Rows.topStreamsRow.make)=true:=by kernel_rfl
theorem over:Rows.topStreamsRow.holds Tryz.pinned (OpenSpec.ofChange Rows.topStreamsSpec):=
  OpenClaim.holds_of_wide 3 Tryz.f3 rfl rfl rfl rfl rfl rfl rfl ⟨rfl,rfl,rfl,rfl,rfl⟩ rfl rfl rfl rfl rfl (by kernel_rfl) Tryz.func3 (yVR jf2 jf3 jf8 jf9 yZ1 yZ2 yZ3 yZ4 yZ5 yZ6 yZ7 (by kernel_rfl))
    (of_decide_eq_true (by kernel_rfl)) (by unfold Func.isWrapper;first | (rw[if_pos (by decide +kernel)];kernel_rfl) | (rw[if_neg (by decide +kernel)];exact⟨rfl,rfl⟩))
    (fun os h H enc _=>lifted os h H enc)
theorem proved:Rows.TopStreamsCardSaid:=
  Claim7.holds_tied_plain_at .later [] [.data,.data] true (true, "3ba08075268d82951161c6893696036d53ddfa3b72c026f633a2f489c0916685") true
    over (fun _ h=>by cases h) (by kernel_rfl) (fun _ h=>by cases h) topStreams_row_tie rfl ⟨rfl,rfl⟩ (by kernel_rfl) rfl
    (fun f fn H D=>by
      obtain rfl:f=3:=Option.some.inj ((show Tryz.prog.funcNamed "unicodetext/unicodetexttop.TopStreams" =some 3 by kernel_rfl).symm.trans H) |>.symm;obtain rfl:fn=Tryz.f3:=(Option.some.inj (Tryz.func3.symm.trans D)).symm;exact⟨by kernel_rfl,fun j t G=>by
        rw[Tryz.params3] at G;have K:t∈[32]:=by simpa using Array.mem_of_getElem? G
        have k:([32].all fun u=>!Tryz.prog.wantsStandIn u)=true:=by kernel_rfl
        exact(show Tryz.prog.wantsStandIn t=false by simpa using List.all_eq_true.1 k t K)⟩)
    (by kernel_rfl)
#print axioms proved
end Go.Proofs.YtedjilemjidllaaGreatDoor.topStreams


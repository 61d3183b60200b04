/- The kind of two light sequences is that of the reference, in both directions. Conditions: none: for every input. (The frame follows the kit's shell of a law's proof; the walk is by the contract.) -/
import Derived.Test.YtgeimamfoblkjaaGreatDoorRows
import Derived.Test.YtgeimamfoblkjaaGreatDoorCards
import Derived.Test.YtgeimamfoblkjaaGreatDoorTie
import Derived.LaidMore
import Derived.Lib.LaidTab
import Derived.Lib.ItoaNum
import Derived.Stop.Joined
import Derived.SevenTiedAt
import Derived.Test.YtgeimamfoblkjaaGreatDoorWk3
import Derived.Test.YtgeimamfoblkjaaGreatDoorLa3
import Derived.Test.YtgeimamfoblkjaaGreatDoorPu2
import Derived.WalkKit
import Derived.ProofKit
import Derived.OpenShut
import Derived.ShutString
import Derived.ChangeOld
import Derived.Below
set_option linter.unusedSimpArgs false
set_option linter.unusedVariables false
set_option linter.unnecessarySimpa false
set_option linter.unusedSimpArgs false
set_option linter.unusedVariables false
set_option linter.unnecessarySimpa false
namespace Go.Proofs.YtgeimamfoblkjaaGreatDoor.confusableKinds
open Go.AV Go.M
open Go.ChangeShapes Go.WideShapes Go.ChangeAt Go.RowKit
open Go.ChangeMaps (open_string shut_string)
theorem own:ownKnob Tryz.prog.godebug=none:=by kernel_rfl
theorem zZF:laidOutB Tryz.prog=true:=by kernel_rfl
theorem yA4:zHI Tryz.prog 62 eSpan okSpan:=by intro H enc w base spare held fuel cs x h;obtain⟨a0,q0,r0,o0⟩:=xS Tryz.underlying62 h (k:=0) (en:=eI) rfl (by kernel_rfl) (zDC Tryz.underlying3);obtain⟨a1,q1,r1,o1⟩:=xS Tryz.underlying62 h (k:=1) (en:=eI) rfl (by kernel_rfl) (zDC Tryz.underlying3);obtain⟨a2,q2,r2,o2⟩:=xS Tryz.underlying62 h (k:=2) (en:=eI) rfl (by kernel_rfl) (zDC Tryz.underlying3);have hl:cs.length=3:=(zCW Tryz.underlying62 h).trans (by kernel_rfl);exact⟨⟨a0,a1,a2⟩,⟨q0,q1,q2⟩,(xD (off:=0) r0 o0 (xD r1 o1 (xD r2 o2 (zD0 hl))))⟩
theorem yA5:zHI Tryz.prog 60 eMapping zGC:=by intro H enc w base spare held fuel cs x h;obtain⟨a0,q0,r0,o0⟩:=xS Tryz.underlying60 h (k:=0) (en:=eI) rfl (by kernel_rfl) (zDC Tryz.underlying3);obtain⟨a1,q1,r1,o1⟩:=xS Tryz.underlying60 h (k:=1) (en:=(eL eI)) rfl (by kernel_rfl) (zAW Tryz.underlying31 (by kernel_rfl) (by decide) (zDC Tryz.underlying3));obtain⟨a2,q2,r2,o2⟩:=xS Tryz.underlying60 h (k:=2) (en:=eS) rfl (by kernel_rfl) (zRN Tryz.underlying9);have hl:cs.length=3:=(zCW Tryz.underlying60 h).trans (by kernel_rfl);exact⟨⟨a0,a1,a2⟩,⟨q0,q1,q2⟩,(xD (off:=0) r0 o0 (xD r1 o1 (xD r2 o2 (zD0 hl))))⟩
theorem yA6:zHI Tryz.prog 144 eRange zYD:=by intro H enc w base spare held fuel cs x h;obtain⟨a0,q0,r0,o0⟩:=xS Tryz.underlying144 h (k:=0) (en:=eI) rfl (by kernel_rfl) (zDC Tryz.underlying3);obtain⟨a1,q1,r1,o1⟩:=xS Tryz.underlying144 h (k:=1) (en:=eI) rfl (by kernel_rfl) (zDC Tryz.underlying3);have hl:cs.length=2:=(zCW Tryz.underlying144 h).trans (by kernel_rfl);exact⟨⟨a0,a1⟩,⟨q0,q1⟩,(xD (off:=0) r0 o0 (xD r1 o1 (zD0 hl)))⟩
theorem yB1:zHI Tryz.prog 26 eSet z2K:=by intro H enc w base spare held fuel cs x h;obtain⟨a0,q0,r0,o0⟩:=xS Tryz.underlying26 h (k:=0) (en:=(eL eRange)) rfl (by kernel_rfl) (zAW Tryz.underlying24 (by kernel_rfl) (by decide) yA6);have hl:cs.length=1:=(zCW Tryz.underlying26 h).trans (by kernel_rfl);exact⟨⟨a0⟩,q0,(xD (off:=0) r0 o0 (zD0 hl))⟩
theorem yB2:zHI Tryz.prog 28 eNorm zAM:=by intro H enc w base spare held fuel cs x h;obtain⟨a0,q0,r0,o0⟩:=xS Tryz.underlying28 h (k:=0) (en:=(eL eSpan)) rfl (by kernel_rfl) (zAW Tryz.underlying22 (by kernel_rfl) (by decide) yA4);obtain⟨a1,q1,r1,o1⟩:=xS Tryz.underlying28 h (k:=1) (en:=(eL eMapping)) rfl (by kernel_rfl) (zAW Tryz.underlying23 (by kernel_rfl) (by decide) yA5);obtain⟨a2,q2,r2,o2⟩:=xS Tryz.underlying28 h (k:=2) (en:=eSet) rfl (by kernel_rfl) yB1;have hl:cs.length=3:=(zCW Tryz.underlying28 h).trans (by kernel_rfl);exact⟨⟨a0,a1,a2⟩,⟨q0,q1,q2⟩,(xD (off:=0) r0 o0 (xD r1 o1 (xD r2 o2 (zD0 hl))))⟩
theorem yB3:zHI Tryz.prog 30 eUnicodetextlaw41_Data zBF:=by intro H enc w base spare held fuel cs x h;obtain⟨a0,q0,r0,o0⟩:=xS Tryz.underlying30 h (k:=0) (en:=eNorm) rfl (by kernel_rfl) yB2;obtain⟨a1,q1,r1,o1⟩:=xS Tryz.underlying30 h (k:=1) (en:=(eL eMapping)) rfl (by kernel_rfl) (zAW Tryz.underlying23 (by kernel_rfl) (by decide) yA5);have hl:cs.length=4:=(zCW Tryz.underlying30 h).trans (by kernel_rfl);exact⟨⟨a0,a1⟩,⟨q0,q1⟩,(xD (off:=0) r0 o0 (xD r1 o1 (zD0 hl)))⟩
theorem yB4:zHI Tryz.prog 41 eProperty okProperty:=by intro H enc w base spare held fuel cs x h;obtain⟨a0,q0,r0,o0⟩:=xS Tryz.underlying41 h (k:=0) (en:=(eL eS)) rfl (by kernel_rfl) (zAW Tryz.underlying39 (by kernel_rfl) (by decide) (zRN Tryz.underlying9));obtain⟨a1,q1,r1,o1⟩:=xS Tryz.underlying41 h (k:=1) (en:=(eL eSpan)) rfl (by kernel_rfl) (zAW Tryz.underlying22 (by kernel_rfl) (by decide) yA4);have hl:cs.length=2:=(zCW Tryz.underlying41 h).trans (by kernel_rfl);exact⟨⟨a0,a1⟩,⟨q0,q1⟩,(xD (off:=0) r0 o0 (xD r1 o1 (zD0 hl)))⟩
theorem yB5:zHI Tryz.prog 43 eUnicodetextlaw41_Pair zD1:=by intro H enc w base spare held fuel cs x h;obtain⟨a0,q0,r0,o0⟩:=xS Tryz.underlying43 h (k:=0) (en:=eProperty) rfl (by kernel_rfl) yB4;obtain⟨a1,q1,r1,o1⟩:=xS Tryz.underlying43 h (k:=1) (en:=(eL eI)) rfl (by kernel_rfl) (zAW Tryz.underlying31 (by kernel_rfl) (by decide) (zDC Tryz.underlying3));obtain⟨a2,q2,r2,o2⟩:=xS Tryz.underlying43 h (k:=2) (en:=(eL eI)) rfl (by kernel_rfl) (zAW Tryz.underlying31 (by kernel_rfl) (by decide) (zDC Tryz.underlying3));have hl:cs.length=4:=(zCW Tryz.underlying43 h).trans (by kernel_rfl);exact⟨⟨a0,a1,a2⟩,⟨q0,q1,q2⟩,(xD (off:=0) r0 o0 (xD r1 o1 (xD r2 o2 (zD0 hl))))⟩
def laidD:List (String×DataW Unit):=[("math/bits.deBruijn32tab",Rows.laid_math_bits_deBruijn32tab),("math/bits.deBruijn64tab",Rows.laid_math_bits_deBruijn64tab),("internal/strconv.uint64pow10",Rows.laid_internal_strconv_uint64pow10),("unicodetext/ordering.hangulRanges",Rows.laid_unicodetext_ordering_hangulRanges)]
theorem gVar2:Tryz.prog.globalNamed "internal/strconv.uint64pow10" =some 0:=by kernel_rfl
theorem tVar2:(Tryz.prog.globals[0]?).map (·.type)=some 185:=by kernel_rfl
theorem gVar3:Tryz.prog.globalNamed "unicodetext/ordering.hangulRanges" =some 1:=by kernel_rfl
theorem tVar3:(Tryz.prog.globals[1]?).map (·.type)=some 188:=by kernel_rfl
theorem z4U (os:Os) (args:Array Value):laidMetH Tryz.prog laidD ((World.doorLaid Tryz.prog 400 os).forCall (fun _ _=>0) ⟨#[],args,[]⟩).memory:=
  laidMetH_of_parts3 (fuel:=8) (laidMet_of_run' 8 (by kernel_rfl) (by kernel_rfl)) (by kernel_rfl) (by kernel_rfl)
theorem z9Z {W:World} {cs:List Value} {f:Nat} {p:List MemPlace} (hd:DataW.trod (fun (_:TypeId×Value)=>()) Tryz.prog W 0 (fun _=>true) false f 185 cs=some (Rows.laid_internal_strconv_uint64pow10,p)):
  cs= [.int .u64 1,.int .u64 10,.int .u64 100,.int .u64 1000,.int .u64 10000,.int .u64 100000,.int .u64 1000000,.int .u64 10000000,.int .u64 100000000,.int .u64 1000000000,.int .u64 10000000000,.int .u64 100000000000,.int .u64 1000000000000,.int .u64 10000000000000,.int .u64 100000000000000,.int .u64 1000000000000000,.int .u64 10000000000000000,.int .u64 100000000000000000,.int .u64 1000000000000000000,.int .u64 10000000000000000000]:=
 (Lib.cells_of_tab (zs:=Lib.pow10Tab) (n:=20) Tryz.underlying185 Tryz.underlying133 (by kernel_rfl) (by kernel_rfl) (hd.trans (congrArg (fun x=>some (x,p)) (by kernel_rfl)))).trans (by kernel_rfl)
set_option maxRecDepth 100000 in
theorem z90 {W:World} {cs:List Value} {f:Nat} {p:List MemPlace} (hd:DataW.trod (fun (_:TypeId×Value)=>()) Tryz.prog W 0 (fun _=>true) false f 188 cs=some (Rows.laid_unicodetext_ordering_hangulRanges,p)):
  cs= [.int .i64 4352,.int .i64 4370,.int .i64 4449,.int .i64 4469,.int .i64 4520,.int .i64 4546,.int .i64 44032,.int .i64 55203]:=by
 obtain⟨xs,m1,rfl,hx1,hlen,hn4,hel⟩:=DataW.trod_array Tryz.underlying188 hd;have cR:Tryz.prog.cellsOf 144=2:=by kernel_rfl
 have cA:Tryz.prog.cellsOf 188=8:=by kernel_rfl
 have cI:Tryz.prog.cellsOf 3=1:=by kernel_rfl
 rw[cA] at hlen;rw[cR] at hel
 match cs,hlen with
 | [c0,c1,c2,c3,c4,c5,c6,c7],_=>
 match xs,hn4 with
 | [x0,x1,x2,x3],_=>
  have pair:∀(a b:Value) (x:DataW Unit×List MemPlace),DataW.trod (fun (_:TypeId×Value)=>()) Tryz.prog W 0 (fun _=>true) false m1 144 [a,b]=some x→∃i j:Int,a= .int .i64 i∧b= .int .i64 j∧x.1= .agg [.lit (.int .i64 i),.lit (.int .i64 j)]:=by
   intro a b x hx;obtain⟨y0,y1,k,rfl,_,h0,h1⟩:=trod_struct2 Tryz.underlying144 hx;rw[cI] at h0 h1;obtain⟨i,e1,e2,_⟩:=DataW.trod_int Tryz.underlying3 h0;obtain⟨j,e3,e4,_⟩:=DataW.trod_int Tryz.underlying3 h1;simp only[List.drop_zero,List.take_succ_cons,List.take_zero,List.cons.injEq,and_true,List.drop_succ_cons] at e1 e3;refine⟨i,j,e1,e3,?_⟩;rw[e2,e4]
  obtain⟨i0,j0,rfl,rfl,q0⟩:=pair c0 c1 x0 (hel 0 (by decide));obtain⟨i1,j1,rfl,rfl,q1⟩:=pair c2 c3 x1 (hel 1 (by decide));obtain⟨i2,j2,rfl,rfl,q2⟩:=pair c4 c5 x2 (hel 2 (by decide));obtain⟨i3,j3,rfl,rfl,q3⟩:=pair c6 c7 x3 (hel 3 (by decide));simp only[Prod.mk.injEq,List.map_cons,List.map_nil,q0,q1,q2,q3,Rows.laid_unicodetext_ordering_hangulRanges,DataW.agg.injEq,List.cons.injEq,DataW.lit.injEq,Lit.int.injEq,and_true,true_and] at hx1;obtain⟨⟨⟨rfl,rfl⟩,⟨rfl,rfl⟩,⟨rfl,rfl⟩,⟨rfl,rfl⟩⟩,_⟩:=hx1;rfl
theorem z67 {g:Nat} {ys:List Value} (h:uO Tryz.prog g=some ys):(g=0∧ys= [.int .u64 1,.int .u64 10,.int .u64 100,.int .u64 1000,.int .u64 10000,.int .u64 100000,.int .u64 1000000,.int .u64 10000000,.int .u64 100000000,.int .u64 1000000000,.int .u64 10000000000,.int .u64 100000000000,.int .u64 1000000000000,.int .u64 10000000000000,.int .u64 100000000000000,.int .u64 1000000000000000,.int .u64 10000000000000000,.int .u64 100000000000000000,.int .u64 1000000000000000000,.int .u64 10000000000000000000])∨(g=1∧ys= [.int .i64 4352,.int .i64 4370,.int .i64 4449,.int .i64 4469,.int .i64 4520,.int .i64 4546,.int .i64 44032,.int .i64 55203]):=by
  have h':=h;unfold uO gdNames at h;simp only[List.find?,gVar3,gVar2] at h;by_cases e3:(some 1==some g)=true
  · obtain rfl:1=g:=by simpa using e3
    have h0:uO Tryz.prog 1=some [.int .i64 4352,.int .i64 4370,.int .i64 4449,.int .i64 4469,.int .i64 4520,.int .i64 4546,.int .i64 44032,.int .i64 55203]:=by kernel_rfl
    rw[h0] at h';cases h';exact Or.inr ⟨rfl,rfl⟩
  by_cases e2:(some 0==some g)=true
  · obtain rfl:0=g:=by simpa using e2
    have h0:uO Tryz.prog 0=some [.int .u64 1,.int .u64 10,.int .u64 100,.int .u64 1000,.int .u64 10000,.int .u64 100000,.int .u64 1000000,.int .u64 10000000,.int .u64 100000000,.int .u64 1000000000,.int .u64 10000000000,.int .u64 100000000000,.int .u64 1000000000000,.int .u64 10000000000000,.int .u64 100000000000000,.int .u64 1000000000000000,.int .u64 10000000000000000,.int .u64 100000000000000000,.int .u64 1000000000000000000,.int .u64 10000000000000000000]:=by kernel_rfl
    rw[h0] at h';cases h';exact Or.inl ⟨rfl,rfl⟩
  simp only[e3,e2] at h;cases h
theorem zWU {W:World} {g j:Nat} {v:Value} (h:W.cell? ⟨g,j,none⟩=some v):g<W.heap.size:=by
  rcases Nat.lt_or_ge g W.heap.size with hlt | hge
  · exact hlt
  · unfold World.cell? at h
    rw[Array.getElem?_eq_none hge] at h;cases h
theorem zXU {W:World} (h:laidMetH Tryz.prog laidD W):GlI (uO Tryz.prog) W (zOT W):=by
  rw[MakeChecks.laidMetH_plain _ _ _ (by kernel_rfl)] at h;obtain⟨ps,⟨g0,t0,cs0,f0,p0,q0,hg0,ht0,hv0,hd0,⟨g1,t1,cs1,f1,p1,q1,hg1,ht1,hv1,hd1,⟨g2,t2,cs2,f2,p2,q2,hg2,ht2,hv2,hd2,⟨g3,t3,cs3,f3,p3,q3,hg3,ht3,hv3,hd3,_,_⟩,_⟩,_⟩,_⟩,_,_⟩:=h;obtain rfl:=Option.some.inj (gVar2.symm.trans hg2);obtain rfl:=Option.some.inj (tVar2.symm.trans ht2);have hcs2:=z9Z hd2;have hc2:∀j,W.cell? ⟨0,j,none⟩= [.int .u64 1,.int .u64 10,.int .u64 100,.int .u64 1000,.int .u64 10000,.int .u64 100000,.int .u64 1000000,.int .u64 10000000,.int .u64 100000000,.int .u64 1000000000,.int .u64 10000000000,.int .u64 100000000000,.int .u64 1000000000000,.int .u64 10000000000000,.int .u64 100000000000000,.int .u64 1000000000000000,.int .u64 10000000000000000,.int .u64 100000000000000000,.int .u64 1000000000000000000,.int .u64 10000000000000000000][j]?:=fun j=>by
    rw[World.var?_cell hg2 hv2 j,←hcs2];simp
  obtain rfl:=Option.some.inj (gVar3.symm.trans hg3);obtain rfl:=Option.some.inj (tVar3.symm.trans ht3);have hcs3:=z90 hd3;have hc3:∀j,W.cell? ⟨1,j,none⟩= [.int .i64 4352,.int .i64 4370,.int .i64 4449,.int .i64 4469,.int .i64 4520,.int .i64 4546,.int .i64 44032,.int .i64 55203][j]?:=fun j=>by
    rw[World.var?_cell hg3 hv3 j,←hcs3];simp
  intro g ys hg j;rcases z67 hg with ⟨rfl,rfl⟩ | ⟨rfl,rfl⟩
  · exact⟨hc2 j,zWU (hc2 0)⟩
  · exact⟨hc3 j,zWU (hc3 0)⟩
set_option maxRecDepth 100000 in
theorem z91 (os:Os) (started:os.Started) (H:Type) (enc:TypeId×Value→H):
  ReturnsInHanded {} Tryz.checked os 4 .any (fun w args=>(Rows.confusableKindsSpec.pre enc Tryz.prog Tryz.f4 [] false w args∧laidMetH Tryz.prog laidD w)∧sizedMet enc Tryz.prog Tryz.f4 (OpenSpec.ofChange Rows.confusableKindsSpec) false w args) (Rows.confusableKindsSpec.post enc Tryz.prog Tryz.f4 false true false false):=by
 refine returnsInHanded_of_change_and (C:=Tryz.checked) (X:=fun w _=>laidMetH Tryz.prog laidD w) (fun _ _ _ hh h=>h.of_heap hh) own started (by kernel_rfl) Tryz.func4
  (ChangeSpec.witness_shaped (enc:=enc) (C:=Tryz.checked) (os:=os) (X:=fun w _=>laidMetH Tryz.prog laidD w) false (World.doorLaid Tryz.prog 400 os) #[(.agg #[(.slice none 0 0),(.slice none 0 0),(.slice none 0 0),(.slice none 0 0)]),(.agg #[(.slice none 0 0),(.slice none 0 0),(.slice none 0 0),(.slice none 0 0)])] 8 rfl (World.shaped_of_RefB (by kernel_rfl) (by kernel_rfl)) (by kernel_rfl) (by kernel_rfl) (by kernel_rfl) (z4U os _)) ?_
 intro W base args ds gs before hval0 hW _ _ hL _;have hval:∀(j:Nat) t v,Tryz.f4.params[j]? =some t→args[j]? =some v→Value.okWide Tryz.prog W .any base t v:=hval0;have hW':=hW;obtain⟨p,q,hA0,hV,rfl,hfz,hnd⟩:=hW;have hA:DataW.TrodAll enc Tryz.prog W 0 (fun _=>true) true Tryz.f4.params.toList args.toList ds p:=hA0;rw[Tryz.params4] at hA hval;obtain⟨v0,vs0,d0,ds0,p0,q0,hargs,rfl,rfl,h0,r0⟩:=trodAll_cons hA;obtain⟨v1,vs1,d1,ds1,p1,q1,rfl,rfl,rfl,h1,r1⟩:=trodAll_cons r0;obtain⟨rfl,rfl,rfl⟩:=trodAll_nil r1;obtain rfl:args= #[v0,v1]:=by cases args;simp_all
 obtain⟨rfl,rfl⟩:=trodVars_none hV;have k0:=h0;have lt0:∀x∈p0,x.block<W.heap.size:=by obtain⟨m,hm⟩:=k0;exact DataW.trod_lt m _ _ _ hm
 obtain⟨cs0,e0,_⟩:=okWide_struct Tryz.underlying30 (hval 0 30 v0 rfl rfl);obtain⟨x0,ok0,rep0⟩:=zYC (en:=eUnicodetextlaw41_Data) yB3 h0 (.inr ⟨cs0,e0,fun _=>⟨_,rfl⟩⟩);have k1:=h1;have lt1:∀x∈p1,x.block<W.heap.size:=by obtain⟨m,hm⟩:=k1;exact DataW.trod_lt m _ _ _ hm
 obtain⟨cs1,e1,_⟩:=okWide_struct Tryz.underlying43 (hval 1 43 v1 rfl rfl);obtain⟨x1,ok1,rep1⟩:=zYC (en:=eUnicodetextlaw41_Pair) yB5 h1 (.inr ⟨cs1,e1,fun _=>⟨_,rfl⟩⟩);clear hA0 hval0;have hwalk:Calls Tryz.prog 4 #[v0,v1] W fun e w'=>e= .returned (.bool true)∧Below W.heap.size W w':=
  z48 (Walk.law41_ConfusableKinds_c (Go.M.law41_ConfusableKinds_true x0 x1 ok0 ok1)) (w:=W) (hG:=zXU hL) (vs:=[v0,v1]) (zQ9 rep0 (zQ9 rep1 (z1W _ _)))
 refine hwalk.mono fun e W' ⟨he,bel⟩=>?_;subst he;exact⟨_,rfl,_,_,_,[],_,[],hW',trodAll_mk1 (shut_bool Tryz.underlying4 _),(trodAll_cons_mk (Below.trod zZF (by kernel_rfl) (of_decide_eq_true (by kernel_rfl)) k0 bel lt0) (trodAll_cons_mk (Below.trod zZF (by kernel_rfl) (of_decide_eq_true (by kernel_rfl)) k1 bel lt1) trodAll_mk0)),rfl,bel.frame _,fun h=>by cases h⟩
theorem jf_all {P:Program} {f:FuncId} {h:Func} {s:ChangeSpec} {c:OpenClaim} (h2:laidOutB P=true) (h3:mapsRowed P=true) (h8:(c.inPlace==P.inPlace f)=true) (h9:(c.unfollowed==P.unfollowed f)=true) (D:(c.recurses==P.recurses f)=true) (G:(c.named==P.varsNamed f)=true) (H:(c.plainKeys==P.plainKeys)=true) (K:P.stopsHeard=true) (O:P.mayEnter=true) (T:(c.lifted==P.liftsFinal)=true) (Y:(P.make==some c.make)=true)
    (Z:(c.wf (OpenSpec.ofChange s)&&h.params.all (P.readableRec ·)&&namedTie P c.named s.vars&&(c.stops== [])&&(P.stops== [])&&(c.knobs== [])&&(P.stopKnobs== [])&&(c.maps==(h.params.toList++s.plain.varTypes P).any (P.mapsRec ·))&&(c.ifaces==(h.params.toList++s.plain.varTypes P).any (P.ifacesRec ·))&&(c.mapsOut==P.mapsAmong h.resultTypes.toList)&&(c.loops==(h.params.toList++s.plain.varTypes P).any (P.loopsFrom ·))&&(c.wideKeys==(h.params.toList++s.plain.varTypes P++h.resultTypes.toList).any (P.wideKeysFrom ·))&&
  s.vars.all (P.varReadable ·)&&h.resultTypes.all (fun t=>P.readableRec t&&decide (t<P.types.size))&&(c.ifacesOut==h.resultTypes.toList.any (P.ifacesRec ·))&&(c.loopsOut==h.resultTypes.toList.any (P.loopsFrom ·))&&c.shortTexts.isNone&&(c.kinds==(if c.domain.isEmpty then [] else h.params.toList.map fun t=>match P.underlying t with | some (.int k)=>some k | _=>none))&&(c.pinned==c.pinnedBy)&&(c.veiled==(h.params.toList++s.plain.varTypes P++h.resultTypes.toList).any (P.veiledRec ·))&&c.veiledFits P h.params.toList (h.params.toList++s.plain.varTypes P++h.resultTypes.toList))=true):joinedFacts P f h s c=true:=by
  unfold joinedFacts;simp only[h2,h3,h8,h9,D,G,H,K,O,T,Y,Bool.and_true];exact Z
theorem jf2:laidOutB Tryz.prog=true:=by kernel_rfl
theorem jf3:mapsRowed Tryz.prog=true:=by kernel_rfl
theorem jf8:(Rows.confusableKindsRow.inPlace==Tryz.prog.inPlace 4)=true:=by kernel_rfl
theorem jf9:(Rows.confusableKindsRow.unfollowed==Tryz.prog.unfollowed 4)=true:=by kernel_rfl
theorem jf10:(Rows.confusableKindsRow.recurses==Tryz.prog.recurses 4)=true:=by kernel_rfl
theorem jf11:(Rows.confusableKindsRow.named==Tryz.prog.varsNamed 4)=true:=by kernel_rfl
theorem jf13:(Rows.confusableKindsRow.plainKeys==Tryz.prog.plainKeys)=true:=by kernel_rfl
theorem jf14:Tryz.prog.stopsHeard=true:=by kernel_rfl
theorem jf15:Tryz.prog.mayEnter=true:=by kernel_rfl
theorem jf16:(Rows.confusableKindsRow.lifted==Tryz.prog.liftsFinal)=true:=by kernel_rfl
theorem jf17:(Tryz.prog.make==some Rows.confusableKindsRow.make)=true:=by kernel_rfl
theorem over:Rows.confusableKindsRow.holds Tryz.pinned (OpenSpec.ofChange Rows.confusableKindsSpec):=
  OpenClaim.holds_of_wide 4 Tryz.f4 rfl rfl rfl rfl rfl rfl rfl ⟨rfl,rfl,rfl,rfl,rfl⟩ rfl rfl rfl rfl rfl (by kernel_rfl) Tryz.func4 (jf_all jf2 jf3 jf8 jf9 jf10 jf11 jf13 jf14 jf15 jf16 jf17 (by kernel_rfl))
    (of_decide_eq_true (by kernel_rfl)) (by unfold Func.isWrapper;first | (rw[if_pos (by decide +kernel)];kernel_rfl) | (rw[if_neg (by decide +kernel)];exact⟨rfl,rfl⟩))
    (fun os started H enc _=>z91 os started H enc)
theorem pv1:Rows.confusableKindsRow.wfByText (OpenSpec.ofChange Rows.confusableKindsSpec)=true:=by kernel_rfl
theorem pv2:Tryz.prog.mainIs=some (true,("58ea63590c08078a3a14f5aa5de14fb3310417354f528ced94caf27bd942ecfd":String).toList):=by kernel_rfl
theorem pv3:Tryz.prog.funcNamed "unicodetext/unicodetextlaw41.ConfusableKinds" =some 4:=by kernel_rfl
theorem pv4:false=Tryz.prog.looks []:=by kernel_rfl
theorem pv5:([30,43].all fun u=>!Tryz.prog.wantsStandIn u)=true:=by kernel_rfl
theorem pv6:false=Rows.confusableKindsRow.goesBy Tryz.prog:=by kernel_rfl
theorem proved:Rows.ConfusableKindsCardSaid:=
  Claim7.holds_tied_plain_at .later [] [.data,.data,.data,.data] true (true, "58ea63590c08078a3a14f5aa5de14fb3310417354f528ced94caf27bd942ecfd") false
    over (fun _ h=>by cases h) pv1 (fun _ h=>by cases h) confusableKinds_row_tie rfl ⟨rfl,rfl⟩ pv2 rfl
    (fun f fn hf hfn=>by
      obtain rfl:f=4:=Option.some.inj (pv3.symm.trans hf) |>.symm;obtain rfl:fn=Tryz.f4:=(Option.some.inj (Tryz.func4.symm.trans hfn)).symm;exact⟨pv4,fun j t ht=>by
        rw[Tryz.params4] at ht;have hm:t∈[30,43]:=by simpa using Array.mem_of_getElem? ht
        have hall:([30,43].all fun u=>!Tryz.prog.wantsStandIn u)=true:=pv5
        exact(show Tryz.prog.wantsStandIn t=false by simpa using List.all_eq_true.1 hall t hm)⟩)
    pv6
#print axioms proved
end Go.Proofs.YtgeimamfoblkjaaGreatDoor.confusableKinds


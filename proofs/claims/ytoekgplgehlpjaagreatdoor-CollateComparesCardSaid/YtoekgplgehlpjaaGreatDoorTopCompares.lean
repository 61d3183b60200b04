/- CollateCompares holds for every input. Conditions: none: for every input. (The frame follows the kit's shell of a law's proof; the walk is by the contract.) -/
import Derived.Test.YtoekgplgehlpjaaGreatDoorRows
import Derived.Test.YtoekgplgehlpjaaGreatDoorCards
import Derived.Test.YtoekgplgehlpjaaGreatDoorTie
import Derived.LaidMore
import Derived.Stop.Joined
import Derived.SevenTiedAt
import Derived.Test.YtoekgplgehlpjaaGreatDoorWk3
import Derived.Test.YtoekgplgehlpjaaGreatDoorLa3
import Derived.Test.YtoekgplgehlpjaaGreatDoorPu3
import Derived.WalkKit
import Derived.ProofKit
import Derived.OpenShut
import Derived.ShutString
import Derived.ChangeOld
import Derived.Below
set_option linter.unusedSimpArgs false
set_option linter.unusedVariables false
set_option linter.unnecessarySimpa false
set_option linter.unusedSimpArgs false
set_option linter.unusedVariables false
set_option linter.unnecessarySimpa false
namespace Go.Proofs.YtoekgplgehlpjaaGreatDoor.collateCompares
open Go.AV Go.M
open Go.ChangeShapes Go.WideShapes Go.ChangeAt Go.RowKit
open Go.ChangeMaps (open_string shut_string)
theorem own:ownKnob Tryz.prog.godebug=none:=by kernel_rfl
theorem zYR:laidOutB Tryz.prog=true:=by kernel_rfl
theorem yMJ:zFF Tryz.prog 139 eSpan okSpan:=by intro H enc w base spare held fuel cs x h;obtain ⟨a0,q0,r0,o0⟩:=kC Tryz.underlying139 h (k:=0) (en:=eI) rfl (by kernel_rfl) (j7 Tryz.underlying3);obtain ⟨a1,q1,r1,o1⟩:=kC Tryz.underlying139 h (k:=1) (en:=eI) rfl (by kernel_rfl) (j7 Tryz.underlying3);obtain ⟨a2,q2,r2,o2⟩:=kC Tryz.underlying139 h (k:=2) (en:=eI) rfl (by kernel_rfl) (j7 Tryz.underlying3);have hl:cs.length=3:=(zAC Tryz.underlying139 h).trans (by kernel_rfl);exact ⟨⟨a0,a1,a2⟩,⟨q0,q1,q2⟩,(yI (off:=0) r0 o0 (yI r1 o1 (yI r2 o2 (zBP hl))))⟩
theorem yMK:zFF Tryz.prog 116 eMapping zV6:=by intro H enc w base spare held fuel cs x h;obtain ⟨a0,q0,r0,o0⟩:=kC Tryz.underlying116 h (k:=0) (en:=eI) rfl (by kernel_rfl) (j7 Tryz.underlying3);obtain ⟨a1,q1,r1,o1⟩:=kC Tryz.underlying116 h (k:=1) (en:=(eL eI)) rfl (by kernel_rfl) (uS Tryz.underlying37 (by kernel_rfl) (by decide) (j7 Tryz.underlying3));obtain ⟨a2,q2,r2,o2⟩:=kC Tryz.underlying116 h (k:=2) (en:=eS) rfl (by kernel_rfl) (zV4 Tryz.underlying9);have hl:cs.length=3:=(zAC Tryz.underlying116 h).trans (by kernel_rfl);exact ⟨⟨a0,a1,a2⟩,⟨q0,q1,q2⟩,(yI (off:=0) r0 o0 (yI r1 o1 (yI r2 o2 (zBP hl))))⟩
theorem yML:zFF Tryz.prog 167 eRange z48:=by intro H enc w base spare held fuel cs x h;obtain ⟨a0,q0,r0,o0⟩:=kC Tryz.underlying167 h (k:=0) (en:=eI) rfl (by kernel_rfl) (j7 Tryz.underlying3);obtain ⟨a1,q1,r1,o1⟩:=kC Tryz.underlying167 h (k:=1) (en:=eI) rfl (by kernel_rfl) (j7 Tryz.underlying3);have hl:cs.length=2:=(zAC Tryz.underlying167 h).trans (by kernel_rfl);exact ⟨⟨a0,a1⟩,⟨q0,q1⟩,(yI (off:=0) r0 o0 (yI r1 o1 (zBP hl)))⟩
theorem yN6:zFF Tryz.prog 26 eSet yAU:=by intro H enc w base spare held fuel cs x h;obtain ⟨a0,q0,r0,o0⟩:=kC Tryz.underlying26 h (k:=0) (en:=(eL eRange)) rfl (by kernel_rfl) (uS Tryz.underlying24 (by kernel_rfl) (by decide) yML);have hl:cs.length=1:=(zAC Tryz.underlying26 h).trans (by kernel_rfl);exact ⟨⟨a0⟩,q0,(yI (off:=0) r0 o0 (zBP hl))⟩
theorem yN7:zFF Tryz.prog 28 eNorm zAD:=by intro H enc w base spare held fuel cs x h;obtain ⟨a0,q0,r0,o0⟩:=kC Tryz.underlying28 h (k:=0) (en:=(eL eSpan)) rfl (by kernel_rfl) (uS Tryz.underlying22 (by kernel_rfl) (by decide) yMJ);obtain ⟨a1,q1,r1,o1⟩:=kC Tryz.underlying28 h (k:=1) (en:=(eL eMapping)) rfl (by kernel_rfl) (uS Tryz.underlying23 (by kernel_rfl) (by decide) yMK);obtain ⟨a2,q2,r2,o2⟩:=kC Tryz.underlying28 h (k:=2) (en:=eSet) rfl (by kernel_rfl) yN6;have hl:cs.length=3:=(zAC Tryz.underlying28 h).trans (by kernel_rfl);exact ⟨⟨a0,a1,a2⟩,⟨q0,q1,q2⟩,(yI (off:=0) r0 o0 (yI r1 o1 (yI r2 o2 (zBP hl))))⟩
theorem yN8:zFF Tryz.prog 93 eElement zV5:=by intro H enc w base spare held fuel cs x h;obtain ⟨a0,q0,r0,o0⟩:=kC Tryz.underlying93 h (k:=0) (en:=eI) rfl (by kernel_rfl) (j7 Tryz.underlying3);obtain ⟨a1,q1,r1,o1⟩:=kC Tryz.underlying93 h (k:=1) (en:=eI) rfl (by kernel_rfl) (j7 Tryz.underlying3);obtain ⟨a2,q2,r2,o2⟩:=kC Tryz.underlying93 h (k:=2) (en:=eI) rfl (by kernel_rfl) (j7 Tryz.underlying3);obtain ⟨a3,q3,r3,o3⟩:=kC Tryz.underlying93 h (k:=3) (en:=eB) rfl (by kernel_rfl) (zNP Tryz.underlying4);have hl:cs.length=4:=(zAC Tryz.underlying93 h).trans (by kernel_rfl);exact ⟨⟨a0,a1,a2,a3⟩,⟨q0,q1,q2,q3⟩,(yI (off:=0) r0 o0 (yI r1 o1 (yI r2 o2 (yI r3 o3 (zBP hl)))))⟩
theorem yN9:zFF Tryz.prog 91 eEntry z49:=by intro H enc w base spare held fuel cs x h;obtain ⟨a0,q0,r0,o0⟩:=kC Tryz.underlying91 h (k:=0) (en:=(eL eI)) rfl (by kernel_rfl) (uS Tryz.underlying37 (by kernel_rfl) (by decide) (j7 Tryz.underlying3));obtain ⟨a1,q1,r1,o1⟩:=kC Tryz.underlying91 h (k:=1) (en:=(eL eElement)) rfl (by kernel_rfl) (uS Tryz.underlying65 (by kernel_rfl) (by decide) yN8);have hl:cs.length=2:=(zAC Tryz.underlying91 h).trans (by kernel_rfl);exact ⟨⟨a0,a1⟩,⟨q0,q1⟩,(yI (off:=0) r0 o0 (yI r1 o1 (zBP hl)))⟩
theorem yMM:zFF Tryz.prog 119 eGroup z5A:=by intro H enc w base spare held fuel cs x h;obtain ⟨a0,q0,r0,o0⟩:=kC Tryz.underlying119 h (k:=0) (en:=eS) rfl (by kernel_rfl) (zV4 Tryz.underlying9);obtain ⟨a1,q1,r1,o1⟩:=kC Tryz.underlying119 h (k:=1) (en:=eI) rfl (by kernel_rfl) (j7 Tryz.underlying3);obtain ⟨a2,q2,r2,o2⟩:=kC Tryz.underlying119 h (k:=2) (en:=eI) rfl (by kernel_rfl) (j7 Tryz.underlying3);have hl:cs.length=3:=(zAC Tryz.underlying119 h).trans (by kernel_rfl);exact ⟨⟨a0,a1,a2⟩,⟨q0,q1,q2⟩,(yI (off:=0) r0 o0 (yI r1 o1 (yI r2 o2 (zBP hl))))⟩
theorem yOA:zFF Tryz.prog 32 eCollation zL3:=by intro H enc w base spare held fuel cs x h;obtain ⟨a0,q0,r0,o0⟩:=kC Tryz.underlying32 h (k:=0) (en:=(eL eEntry)) rfl (by kernel_rfl) (uS Tryz.underlying29 (by kernel_rfl) (by decide) yN9);obtain ⟨a1,q1,r1,o1⟩:=kC Tryz.underlying32 h (k:=1) (en:=(eL eGroup)) rfl (by kernel_rfl) (uS Tryz.underlying30 (by kernel_rfl) (by decide) yMM);obtain ⟨a2,q2,r2,o2⟩:=kC Tryz.underlying32 h (k:=2) (en:=eI) rfl (by kernel_rfl) (j7 Tryz.underlying3);obtain ⟨a3,q3,r3,o3⟩:=kC Tryz.underlying32 h (k:=3) (en:=eI) rfl (by kernel_rfl) (j7 Tryz.underlying3);obtain ⟨a4,q4,r4,o4⟩:=kC Tryz.underlying32 h (k:=4) (en:=eI) rfl (by kernel_rfl) (j7 Tryz.underlying3);have hl:cs.length=5:=(zAC Tryz.underlying32 h).trans (by kernel_rfl);exact ⟨⟨a0,a1,a2,a3,a4⟩,⟨q0,q1,q2,q3,q4⟩,(yI (off:=0) r0 o0 (yI r1 o1 (yI r2 o2 (yI r3 o3 (yI r4 o4 (zBP hl))))))⟩
theorem yOB:zFF Tryz.prog 34 eOptions zV7:=by intro H enc w base spare held fuel cs x h;obtain ⟨a0,q0,r0,o0⟩:=kC Tryz.underlying34 h (k:=0) (en:=eI) rfl (by kernel_rfl) (j7 Tryz.underlying3);obtain ⟨a1,q1,r1,o1⟩:=kC Tryz.underlying34 h (k:=1) (en:=eI) rfl (by kernel_rfl) (j7 Tryz.underlying3);obtain ⟨a2,q2,r2,o2⟩:=kC Tryz.underlying34 h (k:=2) (en:=eB) rfl (by kernel_rfl) (zNP Tryz.underlying4);obtain ⟨a3,q3,r3,o3⟩:=kC Tryz.underlying34 h (k:=3) (en:=eB) rfl (by kernel_rfl) (zNP Tryz.underlying4);have hl:cs.length=4:=(zAC Tryz.underlying34 h).trans (by kernel_rfl);exact ⟨⟨a0,a1,a2,a3⟩,⟨q0,q1,q2,q3⟩,(yI (off:=0) r0 o0 (yI r1 o1 (yI r2 o2 (yI r3 o3 (zBP hl)))))⟩
theorem yOC:zFF Tryz.prog 36 eUnicodetextlaw45_Setting zDC:=by intro H enc w base spare held fuel cs x h;obtain ⟨a0,q0,r0,o0⟩:=kC Tryz.underlying36 h (k:=0) (en:=eNorm) rfl (by kernel_rfl) yN7;obtain ⟨a1,q1,r1,o1⟩:=kC Tryz.underlying36 h (k:=1) (en:=eCollation) rfl (by kernel_rfl) yOA;obtain ⟨a2,q2,r2,o2⟩:=kC Tryz.underlying36 h (k:=2) (en:=eOptions) rfl (by kernel_rfl) yOB;have hl:cs.length=12:=(zAC Tryz.underlying36 h).trans (by kernel_rfl);exact ⟨⟨a0,a1,a2⟩,⟨q0,q1,q2⟩,(yI (off:=0) r0 o0 (yI r1 o1 (yI r2 o2 (zBP hl))))⟩
def laidD:List (String×DataW Unit):=[("unicodetext/ordering.hangulRanges",Rows.laid_unicodetext_ordering_hangulRanges)]
theorem gVar:Tryz.prog.globalNamed "unicodetext/ordering.hangulRanges" =some 0:=by kernel_rfl
theorem tVar:(Tryz.prog.globals[0]?).map (·.type)=some 189:=by kernel_rfl
theorem yDK (os:Os) (args:Array Value):laidMetH Tryz.prog laidD ((World.doorLaid Tryz.prog 400 os).forCall (fun _ _=>0) ⟨#[],args,[]⟩).memory:=
  laidMetH_of_parts3 (fuel:=8) (laidMet_of_run' 8 (by kernel_rfl) (by kernel_rfl)) (by kernel_rfl) (by kernel_rfl)
set_option maxRecDepth 100000 in
theorem yKI {W:World} {cs:List Value} {f:Nat} {p:List MemPlace} (hd:DataW.trod (fun (_:TypeId×Value)=>()) Tryz.prog W 0 (fun _=>true) false f 189 cs=some (Rows.laid_unicodetext_ordering_hangulRanges,p)):
    cs= [.int .i64 4352,.int .i64 4370,.int .i64 4449,.int .i64 4469,.int .i64 4520,.int .i64 4546,.int .i64 44032,.int .i64 55203]:=by
  obtain ⟨xs,m1,rfl,hx1,hlen,hn4,hel⟩:=DataW.trod_array Tryz.underlying189 hd;have cR:Tryz.prog.cellsOf 167=2:=by kernel_rfl
  have cA:Tryz.prog.cellsOf 189=8:=by kernel_rfl
  have cI:Tryz.prog.cellsOf 3=1:=by kernel_rfl
  rw [cA] at hlen;rw [cR] at hel
  match cs,hlen with
  | [c0,c1,c2,c3,c4,c5,c6,c7],_=>
  match xs,hn4 with
  | [x0,x1,x2,x3],_=>
    have pair:∀(a b:Value) (x:DataW Unit×List MemPlace),DataW.trod (fun (_:TypeId×Value)=>()) Tryz.prog W 0 (fun _=>true) false m1 167 [a,b]=some x→∃i j:Int,a= .int .i64 i∧b= .int .i64 j∧x.1= .agg [.lit (.int .i64 i),.lit (.int .i64 j)]:=by
      intro a b x hx;obtain ⟨y0,y1,k,rfl,_,h0,h1⟩:=trod_struct2 Tryz.underlying167 hx;rw [cI] at h0 h1;obtain ⟨i,e1,e2,_⟩:=DataW.trod_int Tryz.underlying3 h0;obtain ⟨j,e3,e4,_⟩:=DataW.trod_int Tryz.underlying3 h1;simp only [List.drop_zero,List.take_succ_cons,List.take_zero,List.cons.injEq,and_true,List.drop_succ_cons] at e1 e3;refine ⟨i,j,e1,e3,?_⟩;rw [e2,e4]
    obtain ⟨i0,j0,rfl,rfl,q0⟩:=pair c0 c1 x0 (hel 0 (by decide));obtain ⟨i1,j1,rfl,rfl,q1⟩:=pair c2 c3 x1 (hel 1 (by decide));obtain ⟨i2,j2,rfl,rfl,q2⟩:=pair c4 c5 x2 (hel 2 (by decide));obtain ⟨i3,j3,rfl,rfl,q3⟩:=pair c6 c7 x3 (hel 3 (by decide));simp only [Prod.mk.injEq,List.map_cons,List.map_nil,q0,q1,q2,q3,Rows.laid_unicodetext_ordering_hangulRanges,DataW.agg.injEq,List.cons.injEq,DataW.lit.injEq,Lit.int.injEq,and_true,true_and] at hx1;obtain ⟨⟨⟨rfl,rfl⟩,⟨rfl,rfl⟩,⟨rfl,rfl⟩,⟨rfl,rfl⟩⟩,_⟩:=hx1;rfl
theorem yG4 {g:Nat} {ys:List Value} (h:zBO Tryz.prog g=some ys):g=0∧ys= [.int .i64 4352,.int .i64 4370,.int .i64 4449,.int .i64 4469,.int .i64 4520,.int .i64 4546,.int .i64 44032,.int .i64 55203]:=by
  have h0:zBO Tryz.prog 0=some [.int .i64 4352,.int .i64 4370,.int .i64 4449,.int .i64 4469,.int .i64 4520,.int .i64 4546,.int .i64 44032,.int .i64 55203]:=by kernel_rfl
  have hg:g=0:=by
    unfold zBO gdNames at h;simp only [List.find?,gVar] at h;by_cases e:(some 0==some g)=true
    · exact (by simpa using e:0=g).symm
    · simp only [e] at h
      cases h
  subst hg;rw [h0] at h;cases h;exact ⟨rfl,rfl⟩
theorem yDL {W:World} {g j:Nat} {v:Value} (h:W.cell? ⟨g,j,none⟩=some v):g < W.heap.size:=by
  rcases Nat.lt_or_ge g W.heap.size with hlt | hge
  · exact hlt
  · unfold World.cell? at h
    rw [Array.getElem?_eq_none hge] at h;cases h
theorem z4M {W:World} (h:laidMetH Tryz.prog laidD W):GlI (zBO Tryz.prog) W (zSJ W):=by
  rw [MakeChecks.laidMetH_plain _ _ _ (by kernel_rfl)] at h;obtain ⟨ps,⟨g0,t0,cs0,f0,p0,q0,hg0,ht0,hv0,hd0,_⟩,_,_⟩:=h;obtain rfl:=Option.some.inj (gVar.symm.trans hg0);obtain rfl:=Option.some.inj (tVar.symm.trans ht0);have hcs:=yKI hd0;intro g ys hg j v hj;obtain ⟨rfl,rfl⟩:=yG4 hg;have hc:=World.var?_cell hg0 hv0 j;have hv:cs0[j]? =some v:=by
    rw [←hcs] at hj;simpa using hj
  rw [hv] at hc;exact ⟨hc,yDL hc⟩
set_option maxRecDepth 100000 in
theorem yKJ (os:Os) (started:os.Started) (H:Type) (enc:TypeId×Value→H):
    ReturnsInHanded {} Tryz.checked os 3 .any (fun w args=>(Rows.collateComparesSpec.pre enc Tryz.prog Tryz.f3 [] false w args∧laidMetH Tryz.prog laidD w)∧sizedMet enc Tryz.prog Tryz.f3 (OpenSpec.ofChange Rows.collateComparesSpec) false w args) (Rows.collateComparesSpec.post enc Tryz.prog Tryz.f3 false true false false):=by
  refine returnsInHanded_of_change_and (C:=Tryz.checked) (X:=fun w _=>laidMetH Tryz.prog laidD w) (fun _ _ _ hh h=>h.of_heap hh) own started (by kernel_rfl) Tryz.func3
    (ChangeSpec.witness_shaped (enc:=enc) (C:=Tryz.checked) (os:=os) (X:=fun w _=>laidMetH Tryz.prog laidD w) false (World.doorLaid Tryz.prog 400 os) #[(.agg #[(.slice none 0 0),(.slice none 0 0),(.slice none 0 0),(.slice none 0 0),(.slice none 0 0),(.int IntKind.i64 (0)),(.int IntKind.i64 (0)),(.int IntKind.i64 (0)),(.int IntKind.i64 (0)),(.int IntKind.i64 (0)),(.bool false),(.bool false)]),(.slice none 0 0),(.slice none 0 0)] 8 rfl (World.shaped_of_RefB (by kernel_rfl) (by kernel_rfl)) (by kernel_rfl) (by kernel_rfl) (by kernel_rfl) (yDK os _)) ?_
  intro W base args ds gs before hval0 hW _ _ hL _;have hval:∀(j:Nat) t v,Tryz.f3.params[j]? =some t→args[j]? =some v→Value.okWide Tryz.prog W .any base t v:=hval0;have hW':=hW;obtain ⟨p,q,hA0,hV,rfl,hfz,hnd⟩:=hW;have hA:DataW.TrodAll enc Tryz.prog W 0 (fun _=>true) true Tryz.f3.params.toList args.toList ds p:=hA0;rw [Tryz.params3] at hA hval;obtain ⟨v0,vs0,d0,ds0,p0,q0,hargs,rfl,rfl,h0,r0⟩:=trodAll_cons hA;obtain ⟨v1,vs1,d1,ds1,p1,q1,rfl,rfl,rfl,h1,r1⟩:=trodAll_cons r0;obtain ⟨v2,vs2,d2,ds2,p2,q2,rfl,rfl,rfl,h2,r2⟩:=trodAll_cons r1;obtain ⟨rfl,rfl,rfl⟩:=trodAll_nil r2;obtain rfl:args= #[v0,v1,v2]:=by cases args;simp_all
  obtain ⟨rfl,rfl⟩:=trodVars_none hV;have k0:=h0;have lt0:∀x∈p0,x.block < W.heap.size:=by obtain ⟨m,hm⟩:=k0;exact DataW.trod_lt m _ _ _ hm
  obtain ⟨cs0,e0,_⟩:=okWide_struct Tryz.underlying36 (hval 0 36 v0 rfl rfl);obtain ⟨x0,ok0,rep0⟩:=zXH (en:=eUnicodetextlaw45_Setting) yOC h0 (.inr ⟨cs0,e0,fun _=>⟨_,rfl⟩⟩);have k1:=h1;have lt1:∀x∈p1,x.block < W.heap.size:=by obtain ⟨m,hm⟩:=k1;exact DataW.trod_lt m _ _ _ hm
  obtain ⟨_,_,_,e1⟩:=okWide_slice Tryz.underlying37 (hval 1 37 v1 rfl rfl);obtain ⟨x1,ok1,rep1⟩:=zXH (en:=(eL eI)) (uS Tryz.underlying37 (by kernel_rfl) (by decide) (j7 Tryz.underlying3)) h1 (.inl ⟨by rw [e1];rfl,rfl,fun _=>rfl⟩)
  have k2:=h2;have lt2:∀x∈p2,x.block < W.heap.size:=by obtain ⟨m,hm⟩:=k2;exact DataW.trod_lt m _ _ _ hm
  obtain ⟨_,_,_,e2⟩:=okWide_slice Tryz.underlying37 (hval 2 37 v2 rfl rfl);obtain ⟨x2,ok2,rep2⟩:=zXH (en:=(eL eI)) (uS Tryz.underlying37 (by kernel_rfl) (by decide) (j7 Tryz.underlying3)) h2 (.inl ⟨by rw [e2];rfl,rfl,fun _=>rfl⟩)
  clear hA0 hval0;have hwalk:Calls Tryz.prog 3 #[v0,v1,v2] W fun e w'=>e= .returned (.bool true)∧Below W.heap.size W w':=
    yD7 (Walk.law45_CollateCompares_c (Go.M.law45_CollateCompares_true x0 x1 x2 ok0 ok1 ok2)) (w:=W) (hG:=z4M hL) (vs:=[v0,v1,v2]) (zPL rep0 (zPL rep1 (zPL rep2 (z94 _ _))))
  refine hwalk.mono fun e W' ⟨he,bel⟩=>?_;subst he;exact ⟨_,rfl,_,_,_,[],_,[],hW',trodAll_mk1 (shut_bool Tryz.underlying4 _),(trodAll_cons_mk (Below.trod zYR (by kernel_rfl) (of_decide_eq_true (by kernel_rfl)) k0 bel lt0) (trodAll_cons_mk (Below.trod zYR (by kernel_rfl) (of_decide_eq_true (by kernel_rfl)) k1 bel lt1) (trodAll_cons_mk (Below.trod zYR (by kernel_rfl) (of_decide_eq_true (by kernel_rfl)) k2 bel lt2) trodAll_mk0))),rfl,bel.frame _,fun h=>by cases h⟩
theorem jf_all {P:Program} {f:FuncId} {h:Func} {s:ChangeSpec} {c:OpenClaim} (h2:laidOutB P=true) (h3:mapsRowed P=true) (h8:(c.inPlace==P.inPlace f)=true) (h9:(c.unfollowed==P.unfollowed f)=true) (D:(c.recurses==P.recurses f)=true) (G:(c.named==P.varsNamed f)=true) (H:(c.plainKeys==P.plainKeys)=true) (K:P.stopsHeard=true) (O:P.mayEnter=true) (T:(c.lifted==P.liftsFinal)=true) (Y:(P.make==some c.make)=true)
    (Z:(c.wf (OpenSpec.ofChange s)&&h.params.all (P.readableRec ·)&&namedTie P c.named s.vars&&(c.stops== [])&&(P.stops== [])&&(c.knobs== [])&&(P.stopKnobs== [])&&(c.maps==(h.params.toList++s.plain.varTypes P).any (P.mapsRec ·))&&(c.ifaces==(h.params.toList++s.plain.varTypes P).any (P.ifacesRec ·))&&(c.mapsOut==P.mapsAmong h.resultTypes.toList)&&(c.loops==(h.params.toList++s.plain.varTypes P).any (P.loopsFrom ·))&&(c.wideKeys==(h.params.toList++s.plain.varTypes P++h.resultTypes.toList).any (P.wideKeysFrom ·))&&
  s.vars.all (P.varReadable ·)&&h.resultTypes.all (fun t=>P.readableRec t&&decide (t<P.types.size))&&(c.ifacesOut==h.resultTypes.toList.any (P.ifacesRec ·))&&(c.loopsOut==h.resultTypes.toList.any (P.loopsFrom ·))&&c.shortTexts.isNone&&(c.kinds==(if c.domain.isEmpty then [] else h.params.toList.map fun t=>match P.underlying t with | some (.int k)=>some k | _=>none))&&(c.pinned==c.pinnedBy)&&(c.veiled==(h.params.toList++s.plain.varTypes P++h.resultTypes.toList).any (P.veiledRec ·))&&c.veiledFits P h.params.toList (h.params.toList++s.plain.varTypes P++h.resultTypes.toList))=true):joinedFacts P f h s c=true:=by
  unfold joinedFacts;simp only[h2,h3,h8,h9,D,G,H,K,O,T,Y,Bool.and_true];exact Z
theorem jf2:laidOutB Tryz.prog=true:=by kernel_rfl
theorem jf3:mapsRowed Tryz.prog=true:=by kernel_rfl
theorem jf8:(Rows.collateComparesRow.inPlace==Tryz.prog.inPlace 3)=true:=by kernel_rfl
theorem jf9:(Rows.collateComparesRow.unfollowed==Tryz.prog.unfollowed 3)=true:=by kernel_rfl
theorem jf10:(Rows.collateComparesRow.recurses==Tryz.prog.recurses 3)=true:=by kernel_rfl
theorem jf11:(Rows.collateComparesRow.named==Tryz.prog.varsNamed 3)=true:=by kernel_rfl
theorem jf13:(Rows.collateComparesRow.plainKeys==Tryz.prog.plainKeys)=true:=by kernel_rfl
theorem jf14:Tryz.prog.stopsHeard=true:=by kernel_rfl
theorem jf15:Tryz.prog.mayEnter=true:=by kernel_rfl
theorem jf16:(Rows.collateComparesRow.lifted==Tryz.prog.liftsFinal)=true:=by kernel_rfl
theorem jf17:(Tryz.prog.make==some Rows.collateComparesRow.make)=true:=by kernel_rfl
theorem over:Rows.collateComparesRow.holds Tryz.pinned (OpenSpec.ofChange Rows.collateComparesSpec):=
  OpenClaim.holds_of_wide 3 Tryz.f3 rfl rfl rfl rfl rfl rfl rfl ⟨rfl,rfl,rfl,rfl,rfl⟩ rfl rfl rfl rfl rfl (by kernel_rfl) Tryz.func3 (jf_all jf2 jf3 jf8 jf9 jf10 jf11 jf13 jf14 jf15 jf16 jf17 (by kernel_rfl))
    (of_decide_eq_true (by kernel_rfl)) (by unfold Func.isWrapper;first | (rw [if_pos (by decide +kernel)];kernel_rfl) | (rw [if_neg (by decide +kernel)];exact ⟨rfl,rfl⟩))
    (fun os started H enc _=>yKJ os started H enc)
theorem pv1:Rows.collateComparesRow.wfByText (OpenSpec.ofChange Rows.collateComparesSpec)=true:=by kernel_rfl
theorem pv2:Tryz.prog.mainIs=some (true,("52cce30a1621ff9c955e29da73868049470ce09d9da897c2343fd13d4d4e77dd":String).toList):=by kernel_rfl
theorem pv3:Tryz.prog.funcNamed "unicodetext/unicodetextlaw45.CollateCompares" =some 3:=by kernel_rfl
theorem pv4:false=Tryz.prog.looks []:=by kernel_rfl
theorem pv5:([36,37,37].all fun u=>!Tryz.prog.wantsStandIn u)=true:=by kernel_rfl
theorem pv6:false=Rows.collateComparesRow.goesBy Tryz.prog:=by kernel_rfl
theorem proved:Rows.CollateComparesCardSaid:=
  Claim7.holds_tied_plain_at .later [] [.data] true (true, "52cce30a1621ff9c955e29da73868049470ce09d9da897c2343fd13d4d4e77dd") false
    over (fun _ h=>by cases h) pv1 (fun _ h=>by cases h) collateCompares_row_tie rfl ⟨rfl,rfl⟩ pv2 rfl
    (fun f fn hf hfn=>by
      obtain rfl:f=3:=Option.some.inj (pv3.symm.trans hf) |>.symm;obtain rfl:fn=Tryz.f3:=(Option.some.inj (Tryz.func3.symm.trans hfn)).symm;exact ⟨pv4,fun j t ht=>by
        rw [Tryz.params3] at ht;have hm:t∈[36,37,37]:=by simpa using Array.mem_of_getElem? ht
        have hall:([36,37,37].all fun u=>!Tryz.prog.wantsStandIn u)=true:=pv5
        exact (show Tryz.prog.wantsStandIn t=false by simpa using List.all_eq_true.1 hall t hm)⟩)
    pv6
#print axioms proved
end Go.Proofs.YtoekgplgehlpjaaGreatDoor.collateCompares


/- SortkeyTreats holds for every input. Conditions: none: for every input. (The frame follows the kit's shell of a law's proof; the walk is by the contract.) -/
import Derived.Test.YtjcbhabmkcdcnaaDoorRows
import Derived.Test.YtjcbhabmkcdcnaaDoorCards
import Derived.Test.YtjcbhabmkcdcnaaDoorTie
import Derived.LaidMore
import Derived.Stop.Joined
import Derived.SevenTiedAt
import Derived.Test.YtjcbhabmkcdcnaaDoorWk2
import Derived.Test.YtjcbhabmkcdcnaaDoorLa3
import Derived.Test.YtjcbhabmkcdcnaaDoorPu2
import Derived.WalkKit
import Derived.ProofKit
import Derived.OpenShut
import Derived.ShutString
import Derived.ChangeOld
import Derived.Below
set_option linter.unusedSimpArgs false
set_option linter.unusedVariables false
set_option linter.unnecessarySimpa false
set_option linter.unusedSimpArgs false
set_option linter.unusedVariables false
set_option linter.unnecessarySimpa false
namespace Go.Proofs.YtjcbhabmkcdcnaaDoor.sortkeyTreats
open Go.AV Go.M
open Go.ChangeShapes Go.WideShapes Go.ChangeAt Go.RowKit
open Go.ChangeMaps (open_string shut_string)
theorem own:ownKnob Tryd.prog.godebug=none:=by kernel_rfl
theorem zUA:laidOutB Tryd.prog=true:=by kernel_rfl
theorem yAJ:zI1 Tryd.prog 37 eElement zVE:=by
  intro H enc w base spare held fuel cs x h
  obtain ⟨a0,q0,r0,o0⟩:=zA1 Tryd.underlying37 h (k:=0) (en:=eI) rfl (by kernel_rfl) (zDY Tryd.underlying3)
  obtain ⟨a1,q1,r1,o1⟩:=zA1 Tryd.underlying37 h (k:=1) (en:=eI) rfl (by kernel_rfl) (zDY Tryd.underlying3)
  obtain ⟨a2,q2,r2,o2⟩:=zA1 Tryd.underlying37 h (k:=2) (en:=eI) rfl (by kernel_rfl) (zDY Tryd.underlying3)
  obtain ⟨a3,q3,r3,o3⟩:=zA1 Tryd.underlying37 h (k:=3) (en:=eB) rfl (by kernel_rfl) (zGU Tryd.underlying4)
  have hl:cs.length=4:=(zKQ Tryd.underlying37 h).trans (by kernel_rfl)
  exact ⟨⟨a0,a1,a2,a3⟩,⟨q0,q1,q2,q3⟩,(u2 (off:=0) r0 o0 (u2 r1 o1 (u2 r2 o2 (u2 r3 o3 (zM4 hl)))))⟩
theorem yAK:zI1 Tryd.prog 24 eOptions zVG:=by
  intro H enc w base spare held fuel cs x h
  obtain ⟨a0,q0,r0,o0⟩:=zA1 Tryd.underlying24 h (k:=0) (en:=eI) rfl (by kernel_rfl) (zDY Tryd.underlying3)
  obtain ⟨a1,q1,r1,o1⟩:=zA1 Tryd.underlying24 h (k:=1) (en:=eI) rfl (by kernel_rfl) (zDY Tryd.underlying3)
  obtain ⟨a2,q2,r2,o2⟩:=zA1 Tryd.underlying24 h (k:=2) (en:=eB) rfl (by kernel_rfl) (zGU Tryd.underlying4)
  obtain ⟨a3,q3,r3,o3⟩:=zA1 Tryd.underlying24 h (k:=3) (en:=eB) rfl (by kernel_rfl) (zGU Tryd.underlying4)
  have hl:cs.length=4:=(zKQ Tryd.underlying24 h).trans (by kernel_rfl)
  exact ⟨⟨a0,a1,a2,a3⟩,⟨q0,q1,q2,q3⟩,(u2 (off:=0) r0 o0 (u2 r1 o1 (u2 r2 o2 (u2 r3 o3 (zM4 hl)))))⟩
def laidD:List (String×DataW Unit):=[("unicodetext/ordering.hangulRanges",Rows.laid_unicodetext_ordering_hangulRanges)]
theorem gVar:Tryd.prog.globalNamed "unicodetext/ordering.hangulRanges" =some 0:=by kernel_rfl
theorem tVar:(Tryd.prog.globals[0]?).map (·.type)=some 136:=by kernel_rfl
theorem zZ1 (os:Os) (args:Array Value):laidMetH Tryd.prog laidD ((World.doorLaid Tryd.prog 400 os).forCall (fun _ _=>0) ⟨#[],args,[]⟩).memory:=
  laidMetH_of_parts3 (fuel:=8) (laidMet_of_run' 8 (by kernel_rfl) (by kernel_rfl)) (by kernel_rfl) (by kernel_rfl)
set_option maxRecDepth 100000 in
theorem z6L {W : World} {cs : List Value} {f : Nat} {p : List MemPlace} (hd : DataW.trod (fun (_ : TypeId × Value) => ()) Tryd.prog W 0 (fun _ => true) false f 136 cs = some (Rows.laid_unicodetext_ordering_hangulRanges, p)) :
    cs = [.int .i64 4352, .int .i64 4370, .int .i64 4449, .int .i64 4469, .int .i64 4520, .int .i64 4546, .int .i64 44032, .int .i64 55203] := by
  obtain ⟨xs, m1, rfl, hx1, hlen, hn4, hel⟩ := DataW.trod_array Tryd.underlying136 hd
  have cR : Tryd.prog.cellsOf 113 = 2 := by kernel_rfl
  have cA : Tryd.prog.cellsOf 136 = 8 := by kernel_rfl
  have cI : Tryd.prog.cellsOf 3 = 1 := by kernel_rfl
  rw [cA] at hlen
  rw [cR] at hel
  match cs, hlen with
  | [c0, c1, c2, c3, c4, c5, c6, c7], _ =>
  match xs, hn4 with
  | [x0, x1, x2, x3], _ =>
    have pair : ∀ (a b : Value) (x : DataW Unit × List MemPlace), DataW.trod (fun (_ : TypeId × Value) => ()) Tryd.prog W 0 (fun _ => true) false m1 113 [a, b] = some x → ∃ i j : Int, a = .int .i64 i ∧ b = .int .i64 j ∧ x.1 = .agg [.lit (.int .i64 i), .lit (.int .i64 j)] := by
      intro a b x hx
      obtain ⟨y0, y1, k, rfl, _, h0, h1⟩ := trod_struct2 Tryd.underlying113 hx
      rw [cI] at h0 h1
      obtain ⟨i, e1, e2, _⟩ := DataW.trod_int Tryd.underlying3 h0
      obtain ⟨j, e3, e4, _⟩ := DataW.trod_int Tryd.underlying3 h1
      simp only [List.drop_zero, List.take_succ_cons, List.take_zero, List.cons.injEq, and_true, List.drop_succ_cons] at e1 e3
      refine ⟨i, j, e1, e3, ?_⟩
      rw [e2, e4]
    obtain ⟨i0, j0, rfl, rfl, q0⟩ := pair c0 c1 x0 (hel 0 (by decide))
    obtain ⟨i1, j1, rfl, rfl, q1⟩ := pair c2 c3 x1 (hel 1 (by decide))
    obtain ⟨i2, j2, rfl, rfl, q2⟩ := pair c4 c5 x2 (hel 2 (by decide))
    obtain ⟨i3, j3, rfl, rfl, q3⟩ := pair c6 c7 x3 (hel 3 (by decide))
    simp only [Prod.mk.injEq, List.map_cons, List.map_nil, q0, q1, q2, q3, Rows.laid_unicodetext_ordering_hangulRanges, DataW.agg.injEq, List.cons.injEq, DataW.lit.injEq, Lit.int.injEq, and_true, true_and] at hx1
    obtain ⟨⟨⟨rfl, rfl⟩, ⟨rfl, rfl⟩, ⟨rfl, rfl⟩, ⟨rfl, rfl⟩⟩, _⟩ := hx1
    rfl
theorem z2V {g:Nat} {ys:List Value} (h:vR Tryd.prog g=some ys):g=0∧ys= [.int .i64 4352,.int .i64 4370,.int .i64 4449,.int .i64 4469,.int .i64 4520,.int .i64 4546,.int .i64 44032,.int .i64 55203]:=by
  have h0:vR Tryd.prog 0=some [.int .i64 4352,.int .i64 4370,.int .i64 4449,.int .i64 4469,.int .i64 4520,.int .i64 4546,.int .i64 44032,.int .i64 55203]:=by kernel_rfl
  have hg:g=0:=by
    unfold vR gdNames at h
    simp only [List.find?,gVar] at h
    by_cases e:(some 0==some g)=true
    · exact (by simpa using e:0=g).symm
    · simp only [e] at h
      cases h
  subst hg
  rw [h0] at h
  cases h
  exact ⟨rfl,rfl⟩
theorem zZ2 {W:World} {g j:Nat} {v:Value} (h:W.cell? ⟨g,j,none⟩=some v):g < W.heap.size:=by
  rcases Nat.lt_or_ge g W.heap.size with hlt | hge
  · exact hlt
  · unfold World.cell? at h
    rw [Array.getElem?_eq_none hge] at h
    cases h
theorem zSN {W:World} (h:laidMetH Tryd.prog laidD W):GlI (vR Tryd.prog) W (zKF W):=by
  rw [MakeChecks.laidMetH_plain _ _ _ (by kernel_rfl)] at h
  obtain ⟨ps,⟨g0,t0,cs0,f0,p0,q0,hg0,ht0,hv0,hd0,_⟩,_,_⟩:=h
  obtain rfl:=Option.some.inj (gVar.symm.trans hg0)
  obtain rfl:=Option.some.inj (tVar.symm.trans ht0)
  have hcs:=z6L hd0
  intro g ys hg j v hj
  obtain ⟨rfl,rfl⟩:=z2V hg
  have hc:=World.var?_cell hg0 hv0 j
  have hv:cs0[j]? =some v:=by
    rw [←hcs] at hj
    simpa using hj
  rw [hv] at hc
  exact ⟨hc,zZ2 hc⟩
set_option maxRecDepth 100000 in
theorem z6M (os : Os) (started : os.Started) (H : Type) (enc : TypeId × Value → H) :
    ReturnsInHanded {} Tryd.checked os 5 .any (fun w args => (Rows.sortkeyTreatsSpec.pre enc Tryd.prog Tryd.f5 [] false w args ∧ laidMetH Tryd.prog laidD w) ∧ sizedMet enc Tryd.prog Tryd.f5 (OpenSpec.ofChange Rows.sortkeyTreatsSpec) false w args) (Rows.sortkeyTreatsSpec.post enc Tryd.prog Tryd.f5 false true false false) := by
  refine returnsInHanded_of_change_and (C := Tryd.checked) (X := fun w _ => laidMetH Tryd.prog laidD w) (fun _ _ _ hh h => h.of_heap hh) own started (by kernel_rfl) Tryd.func5
    (ChangeSpec.witness_shaped (enc := enc) (C := Tryd.checked) (os := os) (X := fun w _ => laidMetH Tryd.prog laidD w) false (World.doorLaid Tryd.prog 400 os) #[(.slice none 0 0), (.agg #[(.int IntKind.i64 (0)), (.int IntKind.i64 (0)), (.bool false), (.bool false)])] 8 rfl (World.shaped_of_RefB (by kernel_rfl) (by kernel_rfl)) (by kernel_rfl) (by kernel_rfl) (by kernel_rfl) (zZ1 os _)) ?_
  intro W base args ds gs before hval0 hW _ _ hL _
  have hval : ∀ (j : Nat) t v, Tryd.f5.params[j]? = some t → args[j]? = some v → Value.okWide Tryd.prog W .any base t v := hval0
  have hW' := hW
  obtain ⟨p, q, hA0, hV, rfl, hfz, hnd⟩ := hW
  have hA : DataW.TrodAll enc Tryd.prog W 0 (fun _ => true) true Tryd.f5.params.toList args.toList ds p := hA0
  rw [Tryd.params5] at hA hval
  obtain ⟨v0, vs0, d0, ds0, p0, q0, hargs, rfl, rfl, h0, r0⟩ := trodAll_cons hA
  obtain ⟨v1, vs1, d1, ds1, p1, q1, rfl, rfl, rfl, h1, r1⟩ := trodAll_cons r0
  obtain ⟨rfl, rfl, rfl⟩ := trodAll_nil r1
  obtain rfl : args = #[v0, v1] := by cases args; simp_all
  obtain ⟨rfl, rfl⟩ := trodVars_none hV
  have k0 := h0
  have lt0 : ∀ x ∈ p0, x.block < W.heap.size := by obtain ⟨m, hm⟩ := k0; exact DataW.trod_lt m _ _ _ hm
  obtain ⟨_, _, _, e0⟩ := okWide_slice Tryd.underlying22 (hval 0 22 v0 rfl rfl)
  obtain ⟨x0, ok0, rep0⟩ := zS1 (en := (eL eElement)) (zP6 Tryd.underlying22 (by kernel_rfl) (by decide) yAJ) h0 (.inl ⟨by rw [e0]; rfl, rfl, fun _ => rfl⟩)
  have k1 := h1
  have lt1 : ∀ x ∈ p1, x.block < W.heap.size := by obtain ⟨m, hm⟩ := k1; exact DataW.trod_lt m _ _ _ hm
  obtain ⟨cs1, e1, _⟩ := okWide_struct Tryd.underlying24 (hval 1 24 v1 rfl rfl)
  obtain ⟨x1, ok1, rep1⟩ := zS1 (en := eOptions) yAK h1 (.inr ⟨cs1, e1, fun _ => ⟨_, rfl⟩⟩)
  clear hA0 hval0
  have hwalk : Calls Tryd.prog 5 #[v0, v1] W fun e w' => e = .returned (.bool true) ∧ Below W.heap.size W w' :=
    z0N (Walk.law44_SortkeyTreats_c (Go.M.law44_SortkeyTreats_true x0 x1 ok0 ok1)) (w := W) (hG := zSN hL) (vs := [v0, v1]) (zMQ rep0 (zMQ rep1 (zWX _ _)))
  refine hwalk.mono fun e W' ⟨he, bel⟩ => ?_
  subst he
  exact ⟨_, rfl, _, _, _, [], _, [], hW', trodAll_mk1 (shut_bool Tryd.underlying4 _), (trodAll_cons_mk (Below.trod zUA (by kernel_rfl) (of_decide_eq_true (by kernel_rfl)) k0 bel lt0) (trodAll_cons_mk (Below.trod zUA (by kernel_rfl) (of_decide_eq_true (by kernel_rfl)) k1 bel lt1) trodAll_mk0)), rfl, bel.frame _, fun h => by cases h⟩
theorem over:Rows.sortkeyTreatsRow.holds Tryd.pinned (OpenSpec.ofChange Rows.sortkeyTreatsSpec):=
  OpenClaim.holds_of_wide 5 Tryd.f5 rfl rfl rfl rfl rfl rfl rfl ⟨rfl,rfl,rfl,rfl,rfl⟩ rfl rfl rfl rfl rfl (by kernel_rfl) Tryd.func5 (by kernel_rfl)
    (of_decide_eq_true (by kernel_rfl)) (by unfold Func.isWrapper;first | (rw [if_pos (by decide +kernel)];kernel_rfl) | (rw [if_neg (by decide +kernel)];exact ⟨rfl,rfl⟩))
    (fun os started H enc _=>z6M os started H enc)
theorem proved:Rows.SortkeyTreatsCardSaid:=
  Claim7.holds_tied_plain_at .later [] [.data] true (true, "8a9de5937bed29970c1a53adbe119d9db7cbf054ac66ead985ffd5d4effb096f") false
    over (fun _ h=>by cases h) (by kernel_rfl) (fun _ h=>by cases h) sortkeyTreats_row_tie rfl ⟨rfl,rfl⟩ (by kernel_rfl) rfl
    (fun f fn hf hfn=>by
      obtain rfl:f=5:=Option.some.inj ((show Tryd.prog.funcNamed "unicodetext/unicodetextlaw44.SortkeyTreats" =some 5 by kernel_rfl).symm.trans hf) |>.symm
      obtain rfl:fn=Tryd.f5:=(Option.some.inj (Tryd.func5.symm.trans hfn)).symm
      exact ⟨by kernel_rfl,fun j t ht=>by
        rw [Tryd.params5] at ht
        have hm:t∈[22,24]:=by simpa using Array.mem_of_getElem? ht
        have hall:([22,24].all fun u=>!Tryd.prog.wantsStandIn u)=true:=by kernel_rfl
        exact (show Tryd.prog.wantsStandIn t=false by simpa using List.all_eq_true.1 hall t hm)⟩)
    (by kernel_rfl)
#print axioms proved
end Go.Proofs.YtjcbhabmkcdcnaaDoor.sortkeyTreats


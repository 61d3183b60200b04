/- Each function of the program answers as its plain counterpart does, where that answers. Conditions: none. -/
import Derived.Test.YtgeaoceiacdadaaGreatDoorMir
import Derived.Test.YtgeaoceiacdadaaGreatDoorProg
import Derived.Test.YtgeaoceiacdadaaGreatDoorWk1
set_option linter.unusedSimpArgs false
set_option linter.unusedVariables false
set_option linter.unnecessarySimpa false
namespace Go.Proofs.YtgeaoceiacdadaaGreatDoor.Walk
open Go.AV Go.M Go.RowKit Go.Proofs
theorem zKX {a0 r} (h : zC9 a0 = some r) : zF Tryz.prog 61 [(zR eSpan a0)] [(di r)] := by
 refine co Tryz.func61 ?_; intro _ _ _ _
 unfold zC9 at h
 refine Q70 ?_
 have ⟨y1, hy1, h⟩ := bE h
 refine zN y1 (.exit 0) (fun y1 => ⟨[(0, .d (zR eSpan a0))], []⟩) .ret (fun y1 => ⟨[(2, .d (di y1))], []⟩) ?_ ?_ ?_
 ·
  refine zD (fun x => ⟨[(0, .d (zR eSpan a0)), (3, .d (di x))], []⟩) hy1 (wc) ?_
  rintro v3 sy1 p1
  replace p1 : zAW a0 v3 = some sy1 := p1
  unfold zAW at p1
  refine Q10 ?_
  refine q5 S22 ?_
  refine Q6 ?_
  refine z6 p1 (fun p1 => ?_) (fun p1 => ?_)
  ·
   refine Q61 ?_
   refine z2 MX rfl ?_
   refine Q23 ?_
   have ⟨t16, ht16, p1⟩ := bE p1
   refine q21 S22 ht16 ?_
   refine q45 zHJ ?_
   refine w8 (z0 (en := eSpan) (l := a0) (i := v3) (v := t16) (off := 0) (lq rfl) O3 rfl ht16 rfl) ?_
   have ⟨t19, ht19, p1⟩ := bE p1
   refine q25 (vS ht19) ?_
   refine z9H ?_
   have ⟨b21, hb21, p1⟩ := bE p1
   refine w8 ((zC (lq rfl) rfl).bool (oi hb21)) ?_
   refine q46 (.d (zR eSpan a0)) ?_
   refine q46 (.d (di v3)) ?_
   have ⟨t24, ht24, p1⟩ := bE p1
   refine daf (.ip (eSpan.all a0) (v3.toNat * eSpan.size)) rfl (fun hb => by subst hb; exact kJ (en := eSpan) (lq rfl) S22 rfl rfl ht24) ?_
   refine q79 (.ip (eSpan.all a0) (v3.toNat * eSpan.size + 1)) zHK ?_
   refine daf (.d (di t24.Hi)) rfl (fun hb => by subst hb; exact z0 (en := eSpan) (l := a0) (i := v3) (v := t24) (off := 1) (lq rfl) O3 rfl ht24 rfl) ?_
   have ⟨t27, ht27, p1⟩ := bE p1
   refine daf (.d (db t27)) rfl (fun hb => by subst hb; exact wA (lq rfl) rfl (vS ht27)) ?_
   refine daf (.d (db (!t27))) rfl (fun hb => by subst hb; exact zR1 (lq rfl) rfl) ?_
   refine q95 ?_
   have ⟨b30, hb30, p1⟩ := bE p1
   refine w8 ((zC (lq rfl) rfl).bool (oi hb30)) ?_
   refine q46 (.d (zR eSpan a0)) ?_
   refine q46 (.d (di v3)) ?_
   have ⟨t33, ht33, p1⟩ := bE p1
   refine daf (.ip (eSpan.all a0) (v3.toNat * eSpan.size)) rfl (fun hb => by subst hb; exact kJ (en := eSpan) (lq rfl) S22 rfl rfl ht33) ?_
   refine q79 (.ip (eSpan.all a0) (v3.toNat * eSpan.size + 0)) zHJ ?_
   refine daf (.d (di t33.Lo)) rfl (fun hb => by subst hb; exact z0 (en := eSpan) (l := a0) (i := v3) (v := t33) (off := 0) (lq rfl) O3 rfl ht33 rfl) ?_
   refine q46 (.d (zR eSpan a0)) ?_
   refine q46 (.d (di v3)) ?_
   have ⟨t38, ht38, p1⟩ := bE p1
   refine daf (.ip (eSpan.all a0) (v3.toNat * eSpan.size)) rfl (fun hb => by subst hb; exact kJ (en := eSpan) (lq rfl) S22 rfl rfl ht38) ?_
   refine q79 (.ip (eSpan.all a0) (v3.toNat * eSpan.size + 1)) zHK ?_
   refine daf (.d (di t38.Hi)) rfl (fun hb => by subst hb; exact z0 (en := eSpan) (l := a0) (i := v3) (v := t38) (off := 1) (lq rfl) O3 rfl ht38 rfl) ?_
   refine daf (.d (db (decide (t38.Hi < t33.Lo)))) rfl (fun hb => by subst hb; exact zNU (lq rfl) rfl rfl) ?_
   refine q95 ?_
   have ⟨b43, hb43, p1⟩ := bE p1
   refine w8 ((zC (lq rfl) rfl).bool (oi hb43)) ?_
   refine q46 (.d (zR eSpan a0)) ?_
   refine q46 (.d (di v3)) ?_
   have ⟨t46, ht46, p1⟩ := bE p1
   refine daf (.ip (eSpan.all a0) (v3.toNat * eSpan.size)) rfl (fun hb => by subst hb; exact kJ (en := eSpan) (lq rfl) S22 rfl rfl ht46) ?_
   refine q79 (.ip (eSpan.all a0) (v3.toNat * eSpan.size + 2)) zIK ?_
   refine daf (.d (di t46.Value)) rfl (fun hb => by subst hb; exact z0 (en := eSpan) (l := a0) (i := v3) (v := t46) (off := 2) (lq rfl) O3 rfl ht46 rfl) ?_
   refine daf (.d (db (decide (t46.Value < 1)))) rfl (fun hb => by subst hb; exact zLP (lq rfl) rfl rfl) ?_
   refine q95 ?_
   have ⟨b51, hb51, p1⟩ := bE p1
   refine w8 ((zC (lq rfl) rfl).bool (oi hb51)) ?_
   refine q46 (.d (zR eSpan a0)) ?_
   refine q46 (.d (di v3)) ?_
   have ⟨t54, ht54, p1⟩ := bE p1
   refine daf (.ip (eSpan.all a0) (v3.toNat * eSpan.size)) rfl (fun hb => by subst hb; exact kJ (en := eSpan) (lq rfl) S22 rfl rfl ht54) ?_
   refine q79 (.ip (eSpan.all a0) (v3.toNat * eSpan.size + 2)) zIK ?_
   refine daf (.d (di t54.Value)) rfl (fun hb => by subst hb; exact z0 (en := eSpan) (l := a0) (i := v3) (v := t54) (off := 2) (lq rfl) O3 rfl ht54 rfl) ?_
   refine daf (.d (db (decide (254 < t54.Value)))) rfl (fun hb => by subst hb; exact zNU (lq rfl) rfl rfl) ?_
   refine q95 ?_
   refine wB ?_
   refine z6 p1 (fun p1 => ?_) (fun p1 => ?_)
   ·
    refine Q16 ?_
    cases p1
    intro q; cases q
    exact ⟨rfl, wc⟩
   ·
    refine Q24 ?_
    cases p1
    exact wc
  ·
   refine zG ?_
   cases p1
   intro q; cases q
   exact ⟨rfl, wc⟩
 ·
  rintro y1 rfl
  replace h := eL h
  refine Q31 ?_
  have ⟨y2, hy2, h⟩ := bE h
  refine zN y2 (.exit 2) (fun y2 => ⟨[(0, .d (zR eSpan a0))], []⟩) .ret (fun y2 => ⟨[(2, .d (di y2))], []⟩) ?_ ?_ ?_
  ·
   refine zD (fun x => ⟨[(0, .d (zR eSpan a0)), (4, .d (di x))], []⟩) hy2 (wc) ?_
   rintro v4 sy2 p2
   replace p2 : zAX a0 v4 = some sy2 := p2
   unfold zAX at p2
   refine Q10 ?_
   refine q5 S22 ?_
   refine Q6 ?_
   refine z6 p2 (fun p2 => ?_) (fun p2 => ?_)
   ·
    refine Q61 ?_
    refine z2 MX rfl ?_
    refine Q23 ?_
    have ⟨t67, ht67, p2⟩ := bE p2
    refine q21 S22 ht67 ?_
    refine q45 zHJ ?_
    refine w8 (z0 (en := eSpan) (l := a0) (i := v4) (v := t67) (off := 0) (lq rfl) O3 rfl ht67 rfl) ?_
    refine Q23 ?_
    refine q92 ?_
    have ⟨t73, ht73, p2⟩ := bE p2
    refine q21 S22 ht73 ?_
    refine q45 zHK ?_
    refine w8 (z0 (en := eSpan) (l := a0) (i := (wi (v4 - 1))) (v := t73) (off := 1) (lq rfl) O3 rfl ht73 rfl) ?_
    refine w8 (zHE (lq rfl) rfl rfl) ?_
    have ⟨b77, hb77, p2⟩ := bE p2
    refine w8 ((zC (lq rfl) rfl).bool (oi hb77)) ?_
    refine q46 (.d (zR eSpan a0)) ?_
    refine q46 (.d (di v4)) ?_
    have ⟨t80, ht80, p2⟩ := bE p2
    refine daf (.ip (eSpan.all a0) (v4.toNat * eSpan.size)) rfl (fun hb => by subst hb; exact kJ (en := eSpan) (lq rfl) S22 rfl rfl ht80) ?_
    refine q79 (.ip (eSpan.all a0) (v4.toNat * eSpan.size + 0)) zHJ ?_
    refine daf (.d (di t80.Lo)) rfl (fun hb => by subst hb; exact z0 (en := eSpan) (l := a0) (i := v4) (v := t80) (off := 0) (lq rfl) O3 rfl ht80 rfl) ?_
    refine q46 (.d (zR eSpan a0)) ?_
    refine q46 (.d (di v4)) ?_
    refine daf (.d (di (wi (v4 - 1)))) rfl (fun hb => by subst hb; exact zSG (lq rfl) rfl rfl) ?_
    have ⟨t86, ht86, p2⟩ := bE p2
    refine daf (.ip (eSpan.all a0) ((wi (v4 - 1)).toNat * eSpan.size)) rfl (fun hb => by subst hb; exact kJ (en := eSpan) (lq rfl) S22 rfl rfl ht86) ?_
    refine q79 (.ip (eSpan.all a0) ((wi (v4 - 1)).toNat * eSpan.size + 1)) zHK ?_
    refine daf (.d (di t86.Hi)) rfl (fun hb => by subst hb; exact z0 (en := eSpan) (l := a0) (i := (wi (v4 - 1))) (v := t86) (off := 1) (lq rfl) O3 rfl ht86 rfl) ?_
    refine daf (.d (di (wi (t86.Hi + 1)))) rfl (fun hb => by subst hb; exact zSF (lq rfl) rfl rfl) ?_
    refine daf (.d (db (decide (t80.Lo = (wi (t86.Hi + 1)))))) rfl (fun hb => by subst hb; exact zIH (lq rfl) rfl rfl) ?_
    have ⟨b91, hb91, p2⟩ := bE p2
    refine daf (.d (db b91)) rfl (fun hb => by subst hb; exact (zC (lq rfl) rfl).bool (oi hb91)) ?_
    refine zCM (x := .d (zR eSpan a0)) rfl rfl rfl (lq rfl) (lq rfl) rfl (fun hb => by obtain ⟨hb, hb1⟩ := zM hb; obtain rfl := gF hb; obtain rfl : b91 = true := hb1; exact zC (lq rfl) rfl) ?_
    refine zCM (x := .d (di v4)) rfl rfl rfl (lq rfl) (lq rfl) rfl (fun hb => by obtain ⟨hb, hb1⟩ := zM hb; obtain rfl := gF hb; obtain rfl : b91 = true := hb1; exact zC (lq rfl) rfl) ?_
    have ⟨t94, ht94, p2⟩ := bE p2
    refine zCM (x := .ip (eSpan.all a0) (v4.toNat * eSpan.size)) rfl rfl rfl (lq rfl) (lq rfl) rfl (fun hb => by obtain ⟨hb, hb1⟩ := zM hb; obtain rfl := gF hb; obtain rfl : b91 = true := hb1; exact kJ (en := eSpan) (lq rfl) S22 rfl rfl ht94) ?_
    refine zCM (x := .ip (eSpan.all a0) (v4.toNat * eSpan.size + 2)) rfl rfl rfl (lq rfl) (lq rfl) rfl (fun hb => by obtain ⟨hb, hb1⟩ := zM hb; obtain rfl := gF hb; obtain rfl : b91 = true := hb1; exact xD (lq rfl) zIK rfl) ?_
    refine zCM (x := .d (di t94.Value)) rfl rfl rfl (lq rfl) (lq rfl) rfl (fun hb => by obtain ⟨hb, hb1⟩ := zM hb; obtain rfl := gF hb; obtain rfl : b91 = true := hb1; exact z0 (en := eSpan) (l := a0) (i := v4) (v := t94) (off := 2) (lq rfl) O3 rfl ht94 rfl) ?_
    refine zCM (x := .d (zR eSpan a0)) rfl rfl rfl (lq rfl) (lq rfl) rfl (fun hb => by obtain ⟨hb, hb1⟩ := zM hb; obtain rfl := gF hb; obtain rfl : b91 = true := hb1; exact zC (lq rfl) rfl) ?_
    refine zCM (x := .d (di v4)) rfl rfl rfl (lq rfl) (lq rfl) rfl (fun hb => by obtain ⟨hb, hb1⟩ := zM hb; obtain rfl := gF hb; obtain rfl : b91 = true := hb1; exact zC (lq rfl) rfl) ?_
    refine zCM (x := .d (di (wi (v4 - 1)))) rfl rfl rfl (lq rfl) (lq rfl) rfl (fun hb => by obtain ⟨hb, hb1⟩ := zM hb; obtain rfl := gF hb; obtain rfl : b91 = true := hb1; exact zSG (lq rfl) rfl rfl) ?_
    have ⟨t100, ht100, p2⟩ := bE p2
    refine zCM (x := .ip (eSpan.all a0) ((wi (v4 - 1)).toNat * eSpan.size)) rfl rfl rfl (lq rfl) (lq rfl) rfl (fun hb => by obtain ⟨hb, hb1⟩ := zM hb; obtain rfl := gF hb; obtain rfl : b91 = true := hb1; exact kJ (en := eSpan) (lq rfl) S22 rfl rfl ht100) ?_
    refine zCM (x := .ip (eSpan.all a0) ((wi (v4 - 1)).toNat * eSpan.size + 2)) rfl rfl rfl (lq rfl) (lq rfl) rfl (fun hb => by obtain ⟨hb, hb1⟩ := zM hb; obtain rfl := gF hb; obtain rfl : b91 = true := hb1; exact xD (lq rfl) zIK rfl) ?_
    refine zCM (x := .d (di t100.Value)) rfl rfl rfl (lq rfl) (lq rfl) rfl (fun hb => by obtain ⟨hb, hb1⟩ := zM hb; obtain rfl := gF hb; obtain rfl : b91 = true := hb1; exact z0 (en := eSpan) (l := a0) (i := (wi (v4 - 1))) (v := t100) (off := 2) (lq rfl) O3 rfl ht100 rfl) ?_
    refine zCM (x := .d (db (decide (t94.Value = t100.Value)))) rfl rfl rfl (lq rfl) (lq rfl) rfl (fun hb => by obtain ⟨hb, hb1⟩ := zM hb; obtain rfl := gF hb; obtain rfl : b91 = true := hb1; exact zIH (lq rfl) rfl rfl) ?_
    refine daf (.d (db (b91 && (decide (t94.Value = t100.Value))))) rfl (fun hb => by subst hb; exact zD0 (lq rfl) rfl rfl) ?_
    refine q95 ?_
    refine wB ?_
    refine z6 p2 (fun p2 => ?_) (fun p2 => ?_)
    ·
     refine Q16 ?_
     cases p2
     intro q; cases q
     exact ⟨rfl, wc⟩
    ·
     refine Q24 ?_
     cases p2
     exact wc
   ·
    refine zG ?_
    cases p2
    intro q; cases q
    exact ⟨rfl, wc⟩
  ·
   rintro y2 rfl
   replace h := eL h
   refine Q0 ?_
   have ⟨t106, ht106, h⟩ := bE h
   refine q6 (zQB ht106) ?_
   refine Q96 ?_
   have ⟨y3, hy3, h⟩ := bE h
   refine zN y3 (.exit 4) (fun y3 => ⟨[], []⟩) .ret (fun y3 => ⟨[(2, .d (di y3))], []⟩) ?_ ?_ ?_
   ·
    refine zD (fun x => ⟨[(0, .d (zR eSpan a0)), (5, .d (zR eRange t106)), (6, .d (di x))], []⟩) hy3 (wc) ?_
    rintro v6 sy3 p3
    replace p3 : zAY a0 t106 v6 = some sy3 := p3
    unfold zAY at p3
    refine Q10 ?_
    refine q5 S22 ?_
    refine Q6 ?_
    refine z6 p3 (fun p3 => ?_) (fun p3 => ?_)
    ·
     refine Q8 ?_
     refine Q14 ?_
     have ⟨y4, hy4, p3⟩ := bE p3
     refine zN y4 (.exit 6) (fun y4 => ⟨[(0, .d (zR eSpan a0)), (5, .d (zR eRange t106)), (6, .d (di v6))], []⟩) .ret (fun y4 => ⟨[(2, .d (di y4))], []⟩) ?_ ?_ ?_
     ·
      refine zD (fun x => ⟨[(0, .d (zR eSpan a0)), (5, .d (zR eRange t106)), (6, .d (di v6)), (7, .d (di x))], []⟩) hy4 (wc) ?_
      rintro v7 sy4 p4
      replace p4 : wY t106 a0 v6 v7 = some sy4 := p4
      unfold wY at p4
      refine Q10 ?_
      refine q5 S24 ?_
      refine Q6 ?_
      refine z6 p4 (fun p4 => ?_) (fun p4 => ?_)
      ·
       refine Q61 ?_
       refine z2 MX rfl ?_
       refine Q23 ?_
       have ⟨t121, ht121, p4⟩ := bE p4
       refine q21 S22 ht121 ?_
       refine q45 zHJ ?_
       refine w8 (z0 (en := eSpan) (l := a0) (i := v6) (v := t121) (off := 0) (lq rfl) O3 rfl ht121 rfl) ?_
       refine Q23 ?_
       have ⟨t126, ht126, p4⟩ := bE p4
       refine q21 S24 ht126 ?_
       refine q45 zDP ?_
       refine w8 (z0 (en := eRange) (l := t106) (i := v7) (v := t126) (off := 1) (lq rfl) O3 rfl ht126 rfl) ?_
       refine w8 (zHE (lq rfl) rfl rfl) ?_
       have ⟨b130, hb130, p4⟩ := bE p4
       refine w8 ((zC (lq rfl) rfl).bool (oi hb130)) ?_
       refine q49 (.d (zR eRange t106)) ?_
       refine q49 (.d (di v7)) ?_
       have ⟨t133, ht133, p4⟩ := bE p4
       refine dat (.ip (eRange.all t106) (v7.toNat * eRange.size)) rfl (fun hb => by subst hb; exact kJ (en := eRange) (lq rfl) S24 rfl rfl ht133) ?_
       refine q90 (.ip (eRange.all t106) (v7.toNat * eRange.size + 0)) zG8 ?_
       refine dat (.d (di t133.Lo)) rfl (fun hb => by subst hb; exact z0 (en := eRange) (l := t106) (i := v7) (v := t133) (off := 0) (lq rfl) O3 rfl ht133 rfl) ?_
       refine q49 (.d (zR eSpan a0)) ?_
       refine q49 (.d (di v6)) ?_
       have ⟨t138, ht138, p4⟩ := bE p4
       refine dat (.ip (eSpan.all a0) (v6.toNat * eSpan.size)) rfl (fun hb => by subst hb; exact kJ (en := eSpan) (lq rfl) S22 rfl rfl ht138) ?_
       refine q90 (.ip (eSpan.all a0) (v6.toNat * eSpan.size + 1)) zHK ?_
       refine dat (.d (di t138.Hi)) rfl (fun hb => by subst hb; exact z0 (en := eSpan) (l := a0) (i := v6) (v := t138) (off := 1) (lq rfl) O3 rfl ht138 rfl) ?_
       refine dat (.d (db (decide (t133.Lo ≤ t138.Hi)))) rfl (fun hb => by subst hb; exact zHE (lq rfl) rfl rfl) ?_
       refine Q91 ?_
       refine z6 p4 (fun p4 => ?_) (fun p4 => ?_)
       ·
        refine Q16 ?_
        cases p4
        intro q; cases q
        exact ⟨rfl, wc⟩
       ·
        refine Q24 ?_
        cases p4
        exact wc
      ·
       refine zG ?_
       cases p4
       intro q; cases q
       exact ⟨rfl, wc⟩
     ·
      rintro y4 rfl
      replace p3 := eL p3
      refine Q11 ?_
      cases p3
      exact wc
     ·
      rintro y4 rfl
      replace p3 := eR p3
      cases p3
      intro q; cases q
      exact ⟨rfl, wc⟩
    ·
     refine zG ?_
     cases p3
     intro q; cases q
     exact ⟨rfl, wc⟩
   ·
    rintro y3 rfl
    replace h := eL h
    refine Q3 ?_
    cases h
    refine zB ?_
    exact zH rfl
   ·
    rintro y3 rfl
    replace h := eR h
    cases h
    exact zH rfl
  ·
   rintro y2 rfl
   replace h := eR h
   cases h
   exact zH rfl
 ·
  rintro y1 rfl
  replace h := eR h
  cases h
  exact zH rfl
theorem zRH {a0 r} (h : zEZ a0 = some r) : zF Tryz.prog 109 [(eMapping.dv a0)] [(db r)] := by
 refine co Tryz.func109 ?_; intro _ _ _ _
 unfold zEZ at h
 refine Q39 ?_
 refine Q96 ?_
 have ⟨y1, hy1, h⟩ := bE h
 refine zN y1 (.exit 0) (fun y1 => ⟨[(1, .d (.pt (eMapping.cells a0)))], []⟩) .ret (fun y1 => ⟨[(2, .d (db y1))], []⟩) ?_ ?_ ?_
 ·
  refine zD (fun x => ⟨[(1, .d (.pt (eMapping.cells a0))), (3, .d (di x))], []⟩) hy1 (wc) ?_
  rintro v3 sy1 p1
  replace p1 : zAZ a0 v3 = some sy1 := p1
  unfold zAZ at p1
  refine Q4 ?_
  refine q7 zCE ?_
  refine q8 O33 ?_
  refine Q82 ?_
  refine z6 p1 (fun p1 => ?_) (fun p1 => ?_)
  ·
   refine Q30 ?_
   refine q7 zCE ?_
   refine q8 O33 ?_
   refine q0 ?_
   have ⟨t14, ht14, p1⟩ := bE p1
   refine q13 yF ht14 ?_
   refine q35 O3 ht14 ?_
   have ⟨t16, ht16, p1⟩ := bE p1
   refine q6 (vS ht16) ?_
   refine Q38 ?_
   refine z6 p1 (fun p1 => ?_) (fun p1 => ?_)
   ·
    refine Q16 ?_
    cases p1
    intro q; cases q
    exact ⟨rfl, wc⟩
   ·
    refine Q24 ?_
    cases p1
    exact wc
  ·
   refine zG ?_
   cases p1
   intro q; cases q
   exact ⟨rfl, wc⟩
 ·
  rintro y1 rfl
  replace h := eL h
  refine Q0 ?_
  refine Q93 ?_
  have ⟨t20, ht20, h⟩ := bE h
  refine q6 (vS ht20) ?_
  refine Q1 ?_
  cases h
  refine zB ?_
  exact zH rfl
 ·
  rintro y1 rfl
  replace h := eR h
  cases h
  exact zH rfl
theorem zRI {a0 r} (h : zE0 a0 = some r) : zF Tryz.prog 110 [(zR eMapping a0)] [(db r)] := by
 refine co Tryz.func110 ?_; intro _ _ _ _
 unfold zE0 at h
 refine Q70 ?_
 have ⟨y1, hy1, h⟩ := bE h
 refine zN y1 (.exit 0) (fun y1 => ⟨[], []⟩) .ret (fun y1 => ⟨[(2, .d (db y1))], []⟩) ?_ ?_ ?_
 ·
  refine zD (fun x => ⟨[(0, .d (zR eMapping a0)), (3, .d (di x))], []⟩) hy1 (wc) ?_
  rintro v3 sy1 p1
  replace p1 : zA0 a0 v3 = some sy1 := p1
  unfold zA0 at p1
  refine Q56 ?_
  refine z6 p1 (fun p1 => ?_) (fun p1 => ?_)
  ·
   refine Q8 ?_
   refine Q14 ?_
   have ⟨y2, hy2, p1⟩ := bE p1
   refine zN y2 (.exit 2) (fun y2 => ⟨[(0, .d (zR eMapping a0)), (3, .d (di v3))], []⟩) .ret (fun y2 => ⟨[(2, .d (db y2))], []⟩) ?_ ?_ ?_
   ·
    refine zD (fun x => ⟨[(0, .d (zR eMapping a0)), (3, .d (di v3)), (4, .d (di x))], []⟩) hy2 (wc) ?_
    rintro v4 sy2 p2
    replace p2 : wZ v3 a0 v4 = some sy2 := p2
    unfold wZ at p2
    refine Q67 ?_
    refine z6 p2 (fun p2 => ?_) (fun p2 => ?_)
    ·
     refine Q61 ?_
     refine z2 MX rfl ?_
     refine Q23 ?_
     have ⟨t18, ht18, p2⟩ := bE p2
     refine q21 S23 ht18 ?_
     refine q45 zED ?_
     refine z6B O3 ht18 ?_
     refine Q23 ?_
     have ⟨t23, ht23, p2⟩ := bE p2
     refine q21 S23 ht23 ?_
     refine q45 zED ?_
     refine z6B O3 ht23 ?_
     refine w8 (zIH (lq rfl) rfl rfl) ?_
     have ⟨b27, hb27, p2⟩ := bE p2
     refine w8 ((zC (lq rfl) rfl).bool (oi hb27)) ?_
     refine q49 (.d (zR eMapping a0)) ?_
     refine q49 (.d (di v3)) ?_
     have ⟨t30, ht30, p2⟩ := bE p2
     refine dat (.ip (eMapping.all a0) (v3.toNat * eMapping.size)) rfl (fun hb => by subst hb; exact kJ (en := eMapping) (lq rfl) S23 rfl rfl ht30) ?_
     refine q90 (.ip (eMapping.all a0) (v3.toNat * eMapping.size + 2)) zA7 ?_
     refine dat (.d (ds t30.Tag)) rfl (fun hb => by subst hb; exact z0 (en := eMapping) (l := a0) (i := v3) (v := t30) (off := 2) (lq rfl) O9 rfl ht30 rfl) ?_
     refine q49 (.d (zR eMapping a0)) ?_
     refine q49 (.d (di v4)) ?_
     have ⟨t35, ht35, p2⟩ := bE p2
     refine dat (.ip (eMapping.all a0) (v4.toNat * eMapping.size)) rfl (fun hb => by subst hb; exact kJ (en := eMapping) (lq rfl) S23 rfl rfl ht35) ?_
     refine q90 (.ip (eMapping.all a0) (v4.toNat * eMapping.size + 2)) zA7 ?_
     refine dat (.d (ds t35.Tag)) rfl (fun hb => by subst hb; exact z0 (en := eMapping) (l := a0) (i := v4) (v := t35) (off := 2) (lq rfl) O9 rfl ht35 rfl) ?_
     refine dat (.d (db (t30.Tag == t35.Tag))) rfl (fun hb => by subst hb; exact zK3 (a := t30.Tag) (b := t35.Tag) (lq rfl) rfl rfl) ?_
     refine Q91 ?_
     refine z6 p2 (fun p2 => ?_) (fun p2 => ?_)
     ·
      refine Q16 ?_
      cases p2
      intro q; cases q
      exact ⟨rfl, wc⟩
     ·
      refine Q24 ?_
      cases p2
      exact wc
    ·
     refine zG ?_
     cases p2
     intro q; cases q
     exact ⟨rfl, wc⟩
   ·
    rintro y2 rfl
    replace p1 := eL p1
    refine Q11 ?_
    cases p1
    exact wc
   ·
    rintro y2 rfl
    replace p1 := eR p1
    cases p1
    intro q; cases q
    exact ⟨rfl, wc⟩
  ·
   refine zG ?_
   cases p1
   intro q; cases q
   exact ⟨rfl, wc⟩
 ·
  rintro y1 rfl
  replace h := eL h
  refine Q3 ?_
  cases h
  refine zB ?_
  exact zH rfl
 ·
  rintro y1 rfl
  replace h := eR h
  cases h
  exact zH rfl
theorem zNE {a0 r} (h : zB9 a0 = some r) : zF Tryz.prog 88 [(zR eMapping a0)] [(di r)] := by
 refine co Tryz.func88 ?_; intro _ _ _ _
 unfold zB9 at h
 refine Q70 ?_
 have ⟨y1, hy1, h⟩ := bE h
 refine zN y1 (.exit 0) (fun y1 => ⟨[(0, .d (zR eMapping a0))], []⟩) .ret (fun y1 => ⟨[(2, .d (di y1))], []⟩) ?_ ?_ ?_
 ·
  refine zD (fun x => ⟨[(0, .d (zR eMapping a0)), (3, .d (di x))], []⟩) hy1 (wc) ?_
  rintro v3 sy1 p1
  replace p1 : vD a0 v3 = some sy1 := p1
  unfold vD at p1
  refine Q56 ?_
  refine z6 p1 (fun p1 => ?_) (fun p1 => ?_)
  ·
   refine Q66 ?_
   have ⟨t14, ht14, p1⟩ := bE p1
   refine q13 S23 ht14 ?_
   refine q85 zJI ht14 ?_
   have ⟨t16, ht16, p1⟩ := bE p1
   refine q6 (zRH ht16) ?_
   refine Q38 ?_
   refine z6 p1 (fun p1 => ?_) (fun p1 => ?_)
   ·
    refine Q16 ?_
    cases p1
    intro q; cases q
    exact ⟨rfl, wc⟩
   ·
    refine Q24 ?_
    cases p1
    exact wc
  ·
   refine zG ?_
   cases p1
   intro q; cases q
   exact ⟨rfl, wc⟩
 ·
  rintro y1 rfl
  replace h := eL h
  refine Q31 ?_
  have ⟨y2, hy2, h⟩ := bE h
  refine zN y2 (.exit 2) (fun y2 => ⟨[(0, .d (zR eMapping a0))], []⟩) .ret (fun y2 => ⟨[(2, .d (di y2))], []⟩) ?_ ?_ ?_
  ·
   refine zD (fun x => ⟨[(0, .d (zR eMapping a0)), (4, .d (di x))], []⟩) hy2 (wc) ?_
   rintro v4 sy2 p2
   replace p2 : vE a0 v4 = some sy2 := p2
   unfold vE at p2
   refine Q56 ?_
   refine z6 p2 (fun p2 => ?_) (fun p2 => ?_)
   ·
    refine Q66 ?_
    have ⟨t26, ht26, p2⟩ := bE p2
    refine q13 S23 ht26 ?_
    refine q44 zCE ?_
    refine q84 O33 ht26 ?_
    refine q5 yF ?_
    refine Q60 ?_
    refine z6 p2 (fun p2 => ?_) (fun p2 => ?_)
    ·
     refine Q16 ?_
     cases p2
     intro q; cases q
     exact ⟨rfl, wc⟩
    ·
     refine Q24 ?_
     cases p2
     exact wc
   ·
    refine zG ?_
    cases p2
    intro q; cases q
    exact ⟨rfl, wc⟩
  ·
   rintro y2 rfl
   replace h := eL h
   refine Q31 ?_
   have ⟨y3, hy3, h⟩ := bE h
   refine zN y3 (.exit 4) (fun y3 => ⟨[(0, .d (zR eMapping a0))], []⟩) .ret (fun y3 => ⟨[(2, .d (di y3))], []⟩) ?_ ?_ ?_
   ·
    refine zD (fun x => ⟨[(0, .d (zR eMapping a0)), (5, .d (di x))], []⟩) hy3 (wc) ?_
    rintro v5 sy3 p3
    replace p3 : vF a0 v5 = some sy3 := p3
    unfold vF at p3
    refine Q56 ?_
    refine z6 p3 (fun p3 => ?_) (fun p3 => ?_)
    ·
     refine Q66 ?_
     have ⟨t39, ht39, p3⟩ := bE p3
     refine q13 S23 ht39 ?_
     refine q44 zA7 ?_
     refine yH (z0 (en := eMapping) (l := a0) (i := v5) (v := t39) (off := 2) (lq rfl) O9 rfl ht39 rfl) ?_
     refine z2P ?_
     have ⟨b43, hb43, p3⟩ := bE p3
     refine yH ((zC (lq rfl) rfl).bool (oi hb43)) ?_
     refine q12 (.d (zR eMapping a0)) ?_
     refine q12 (.d (di v5)) ?_
     have ⟨t46, ht46, p3⟩ := bE p3
     refine sqt (.ip (eMapping.all a0) (v5.toNat * eMapping.size)) rfl (fun hb => by subst hb; exact kJ (en := eMapping) (lq rfl) S23 rfl rfl ht46) ?_
     refine z2Y (.ip (eMapping.all a0) (v5.toNat * eMapping.size + 2)) zA7 ?_
     refine sqt (.d (ds t46.Tag)) rfl (fun hb => by subst hb; exact z0 (en := eMapping) (l := a0) (i := v5) (v := t46) (off := 2) (lq rfl) O9 rfl ht46 rfl) ?_
     have ⟨t49, ht49, p3⟩ := bE p3
     refine sqt (.d (db t49)) rfl (fun hb => by subst hb; exact wA (lq rfl) rfl (zMB ht49)) ?_
     refine zY0 (.d (db (!t49))) ?_
     refine Q37 ?_
     refine z6 p3 (fun p3 => ?_) (fun p3 => ?_)
     ·
      refine Q16 ?_
      cases p3
      intro q; cases q
      exact ⟨rfl, wc⟩
     ·
      refine Q24 ?_
      cases p3
      exact wc
    ·
     refine zG ?_
     cases p3
     intro q; cases q
     exact ⟨rfl, wc⟩
   ·
    rintro y3 rfl
    replace h := eL h
    refine Q4 ?_
    have ⟨t53, ht53, h⟩ := bE h
    refine q6 (zRI ht53) ?_
    refine zJ ?_
    refine z6 h (fun h => ?_) (fun h => ?_)
    ·
     refine Q3 ?_
     cases h
     refine zB ?_
     exact zH rfl
    ·
     refine Q58 ?_
     cases h
     refine zB ?_
     exact zH rfl
   ·
    rintro y3 rfl
    replace h := eR h
    cases h
    exact zH rfl
  ·
   rintro y2 rfl
   replace h := eR h
   cases h
   exact zH rfl
 ·
  rintro y1 rfl
  replace h := eR h
  cases h
  exact zH rfl
theorem zQC {a0 a1 r} (h : zFJ a0 a1 = some r) : zF Tryz.prog 89 [(eMapping.dv a0), (eMapping.dv a1)] [(db r)] := by
 refine co Tryz.func89 ?_; intro _ _ _ _
 unfold zFJ at h
 refine Q39 ?_
 refine q34 ?_
 refine Q47 ?_
 refine Q93 ?_
 refine Q93 ?_
 refine q3 ?_
 have ⟨b10, hb10, h⟩ := bE h
 refine yH ((zC (lq rfl) rfl).bool (oi hb10)) ?_
 refine q29 (.ip (eMapping.cells a0) (0 + 0)) zED ?_
 refine q30 (.d (di a0.From)) O3 ?_
 refine q29 (.ip (eMapping.cells a1) (0 + 0)) zED ?_
 refine q30 (.d (di a1.From)) O3 ?_
 refine q99 (.d (db (decide (a0.From = a1.From)))) ?_
 have ⟨b16, hb16, h⟩ := bE h
 refine sqf (.d (db b16)) rfl (fun hb => by subst hb; exact (zC (lq rfl) rfl).bool (oi hb16)) ?_
 refine jW (x := .ip (eMapping.cells a0) (0 + 2)) rfl rfl rfl (lq rfl) (lq rfl) rfl (fun hb => by obtain ⟨hb, hb1⟩ := zM hb; obtain rfl := gF hb; obtain rfl : b16 = true := hb1; exact wD (lq rfl) zA7 rfl) ?_
 refine jW (x := .d (ds a0.Tag)) rfl rfl rfl (lq rfl) (lq rfl) rfl (fun hb => by obtain ⟨hb, hb1⟩ := zM hb; obtain rfl := gF hb; obtain rfl : b16 = true := hb1; exact xU (lq rfl) O9 rfl rfl) ?_
 refine jW (x := .ip (eMapping.cells a1) (0 + 2)) rfl rfl rfl (lq rfl) (lq rfl) rfl (fun hb => by obtain ⟨hb, hb1⟩ := zM hb; obtain rfl := gF hb; obtain rfl : b16 = true := hb1; exact wD (lq rfl) zA7 rfl) ?_
 refine jW (x := .d (ds a1.Tag)) rfl rfl rfl (lq rfl) (lq rfl) rfl (fun hb => by obtain ⟨hb, hb1⟩ := zM hb; obtain rfl := gF hb; obtain rfl : b16 = true := hb1; exact xU (lq rfl) O9 rfl rfl) ?_
 refine jW (x := .d (db (Op.bytesLess a0.Tag a1.Tag))) rfl rfl rfl (lq rfl) (lq rfl) rfl (fun hb => by obtain ⟨hb, hb1⟩ := zM hb; obtain rfl := gF hb; obtain rfl : b16 = true := hb1; exact z46 (a := a0.Tag) (b := a1.Tag) (lq rfl) rfl rfl) ?_
 refine q81 (.d (db (b16 && (Op.bytesLess a0.Tag a1.Tag)))) ?_
 refine q19 ?_
 refine Q1 ?_
 cases h
 refine zB ?_
 exact zH rfl
theorem zRJ {a0 r} (h : zE1 a0 = some r) : zF Tryz.prog 62 [(zR eMapping a0)] [(di r)] := by
 refine co Tryz.func62 ?_; intro _ _ _ _
 unfold zE1 at h
 refine Q44 ?_
 have ⟨t6, ht6, h⟩ := bE h
 refine q6 (zNE ht6) ?_
 refine Q72 ?_
 refine z6 h (fun h => ?_) (fun h => ?_)
 ·
  refine Q35 ?_
  cases h
  refine zB ?_
  exact zH rfl
 ·
  refine Q98 ?_
  have ⟨y1, hy1, h⟩ := bE h
  refine zN y1 (.exit 0) (fun y1 => ⟨[], []⟩) .ret (fun y1 => ⟨[(2, .d (di y1))], []⟩) ?_ ?_ ?_
  ·
   refine zD (fun x => ⟨[(0, .d (zR eMapping a0)), (4, .d (di x))], []⟩) hy1 (wc) ?_
   rintro v4 sy1 p1
   replace p1 : zA1 a0 v4 = some sy1 := p1
   unfold zA1 at p1
   refine Q56 ?_
   refine z6 p1 (fun p1 => ?_) (fun p1 => ?_)
   ·
    refine Q61 ?_
    refine z2 MX rfl ?_
    refine Q23 ?_
    refine q92 ?_
    have ⟨t19, ht19, p1⟩ := bE p1
    refine q21 S23 ht19 ?_
    refine z9T zJI ht19 ?_
    refine Q23 ?_
    have ⟨t23, ht23, p1⟩ := bE p1
    refine q21 S23 ht23 ?_
    refine z9T zJI ht23 ?_
    have ⟨t25, ht25, p1⟩ := bE p1
    refine q25 (zQC ht25) ?_
    refine z9H ?_
    refine wB ?_
    refine z6 p1 (fun p1 => ?_) (fun p1 => ?_)
    ·
     refine Q16 ?_
     cases p1
     intro q; cases q
     exact ⟨rfl, wc⟩
    ·
     refine Q24 ?_
     cases p1
     exact wc
   ·
    refine zG ?_
    cases p1
    intro q; cases q
    exact ⟨rfl, wc⟩
  ·
   rintro y1 rfl
   replace h := eL h
   refine Q3 ?_
   cases h
   refine zB ?_
   exact zH rfl
  ·
   rintro y1 rfl
   replace h := eR h
   cases h
   exact zH rfl
theorem zHA {a0 a1 r} (h : zCA a0 a1 = some r) : zF Tryz.prog 132 [(zR eI a0), (di a1)] [(zR eI r)] := by
 refine co Tryz.func132 ?_; intro _ _ _ _
 unfold zCA at h
 refine Q3 ?_
 refine Q3 ?_
 refine zQ (uD (t := 5) 1005 3 eI.size (lq rfl) (lq rfl) rfl rfl) ?_
 refine Q70 ?_
 have ⟨y1, hy1, h⟩ := bE h
 refine tl (.exit 0) ⟨[(1, .d (di a1)), (5, .row 1005), (6, .d (db y1.1))], [(1005, .row 3 eI.size false (eI.all y1.2))]⟩ ?_ ?_
 ·
  refine zD (fun x => ⟨[(0, .d (zR eI a0)), (1, .d (di a1)), (5, .row 1005), (6, .d (db x.1)), (7, .d (di x.2.1))], [(1005, .row 3 eI.size false (eI.all x.2.2))]⟩) hy1 (wc) ?_
  rintro ⟨v6, v7, r1005⟩ sy1 p1
  replace p1 : jC a0 a1 v6 v7 r1005 = some sy1 := p1
  unfold jC at p1
  refine Q10 ?_
  refine Q82 ?_
  refine z6 p1 (fun p1 => ?_) (fun p1 => ?_)
  ·
   refine Q8 ?_
   refine Q4 ?_
   refine q28 ?_
   have ⟨b16, hb16, p1⟩ := bE p1
   refine yH ((zC (lq rfl) rfl).bool (oi hb16)) ?_
   refine q12 (.d (zR eI a0)) ?_
   refine q12 (.d (di v7)) ?_
   have ⟨t19, ht19, p1⟩ := bE p1
   refine sqt (.ip (eI.all a0) (v7.toNat * eI.size)) rfl (fun hb => by subst hb; exact kJ (en := eI) (lq rfl) yF rfl rfl ht19) ?_
   refine sqt (.d (di t19)) rfl (fun hb => by subst hb; exact z0 (en := eI) (l := a0) (i := v7) (v := t19) (off := 0) (lq rfl) O3 rfl ht19 rfl) ?_
   refine q12 (.d (di a1)) ?_
   refine sqt (.d (db (decide (a1 ≤ t19)))) rfl (fun hb => by subst hb; exact zI3 (lq rfl) rfl rfl) ?_
   refine Q37 ?_
   have ⟨y2, hy2, p1⟩ := bE p1
   refine tl .normal ⟨[(0, .d (zR eI a0)), (1, .d (di a1)), (5, .row 1005), (6, .d (db y2.1)), (7, .d (di v7))], [(1005, .row 3 eI.size false (eI.all y2.2))]⟩ ?_ ?_
   ·
    refine z6 hy2 (fun hy2 => ?_) (fun hy2 => ?_)
    ·
     refine Q3 ?_
     refine Q13 ?_
     have ⟨t26, ht26, hy2⟩ := bE hy2
     refine q13 yF ht26 ?_
     refine q35 O3 ht26 ?_
     refine q0 ?_
     refine Q60 ?_
     refine z6 hy2 (fun hy2 => ?_) (fun hy2 => ?_)
     ·
      refine zZH ?_
      refine q38 yF ?_
      have ⟨r1005_3, hr1005_3, hy2⟩ := bE hy2
      refine yW rfl (k7 (en := eI) (l := r1005) (m := [a1]) (lq rfl) yF rfl rfl rfl hr1005_3 (by decide) (by decide) rfl rfl) ?_
      refine Q17 ?_
      cases hy2
      exact zI (wc)
     ·
      refine zP ?_
      cases hy2
      exact zI (wc)
    ·
     refine zP ?_
     cases hy2
     exact zI (wc)
   ·
    refine Q76 ?_
    have ⟨t37, ht37, p1⟩ := bE p1
    refine q13 yF ht37 ?_
    refine q35 O3 ht37 ?_
    refine q38 yF ?_
    have ⟨r1005_4, hr1005_4, p1⟩ := bE p1
    refine yW rfl (k7 (en := eI) (l := y2.2) (m := [t37]) (lq rfl) yF rfl rfl rfl hr1005_4 (by decide) (by decide) rfl rfl) ?_
    refine Q17 ?_
    refine Q11 ?_
    cases p1
    exact wc
  ·
   refine zG ?_
   cases p1
   intro q; cases q
   exact zI (wc)
 ·
  refine Q4 ?_
  refine Q38 ?_
  have ⟨y5, hy5, h⟩ := bE h
  refine tl .normal ⟨[(5, .row 1005)], [(1005, .row 3 eI.size false (eI.all y5))]⟩ ?_ ?_
  ·
   refine z6 hy5 (fun hy5 => ?_) (fun hy5 => ?_)
   ·
    refine zZH ?_
    refine q38 yF ?_
    have ⟨r1005_6, hr1005_6, hy5⟩ := bE hy5
    refine yW rfl (k7 (en := eI) (l := y1.2) (m := [a1]) (lq rfl) yF rfl rfl rfl hr1005_6 (by decide) (by decide) rfl rfl) ?_
    refine Q17 ?_
    cases hy5
    exact zI (wc)
   ·
    refine zP ?_
    cases hy5
    exact zI (wc)
  ·
   refine Q97 ?_
   cases h
   refine zB ?_
   exact zH rfl
theorem zMC {a0 a1 r} (h : zD6 a0 a1 = some r) : zF Tryz.prog 124 [(zR eI a0), (eSet.dv a1)] [(zR eI r)] := by
 refine co Tryz.func124 ?_; intro _ _ _ _
 unfold zD6 at h
 refine Q88 ?_
 refine Q96 ?_
 have ⟨y1, hy1, h⟩ := bE h
 refine tl (.exit 0) ⟨[(0, .d (zR eI y1))], []⟩ ?_ ?_
 ·
  refine zD (fun x => ⟨[(0, .d (zR eI x.1)), (3, .d (.pt (eSet.cells a1))), (5, .d (di x.2))], []⟩) hy1 (wc) ?_
  rintro ⟨v0, v5⟩ sy1 p1
  replace p1 : wO a1 v0 v5 = some sy1 := p1
  unfold wO at p1
  refine Q4 ?_
  refine Q89 ?_
  refine Q6 ?_
  refine z6 p1 (fun p1 => ?_) (fun p1 => ?_)
  ·
   refine Q5 ?_
   have ⟨y2, hy2, p1⟩ := bE p1
   refine tl .normal ⟨[(0, .d (zR eI y2)), (3, .d (.pt (eSet.cells a1))), (5, .d (di v5))], []⟩ ?_ ?_
   ·
    refine kB <| kP ?_
    refine z2 MX rfl ?_
    refine q23 zHI ?_
    refine q27 O24 ?_
    refine q4 ?_
    have ⟨t18, ht18, hy2⟩ := bE hy2
    refine q21 S24 ht18 ?_
    refine q45 zG8 ?_
    refine w8 (z0 (en := eRange) (l := a1.Ranges) (i := v5) (v := t18) (off := 0) (lq rfl) O3 rfl ht18 rfl) ?_
    refine q23 zHI ?_
    refine q27 O24 ?_
    refine q4 ?_
    have ⟨t24, ht24, hy2⟩ := bE hy2
    refine q21 S24 ht24 ?_
    refine q45 zDP ?_
    refine w8 (z0 (en := eRange) (l := a1.Ranges) (i := v5) (v := t24) (off := 1) (lq rfl) O3 rfl ht24 rfl) ?_
    refine q32 ?_
    refine Q49 ?_
    refine Q4 ?_
    have ⟨t28, ht28, hy2⟩ := bE hy2
    refine q6 (vS ht28) ?_
    refine zJ ?_
    have ⟨y3, hy3, hy2⟩ := bE hy2
    refine tl .normal ⟨[(0, .d (zR eI y3)), (3, .d (.pt (eSet.cells a1))), (5, .d (di v5)), (7, .d (di t24.Hi))], []⟩ ?_ ?_
    ·
     refine z6 hy3 (fun hy3 => ?_) (fun hy3 => ?_)
     ·
      refine Q94 ?_
      have ⟨t31, ht31, hy3⟩ := bE hy3
      refine q6 (zHA ht31) ?_
      refine Q1 ?_
      cases hy3
      exact zI (wc)
     ·
      refine zP ?_
      cases hy3
      exact zI (wc)
    ·
     refine Q2 ?_
     refine q37 ?_
     have ⟨b34, hb34, hy2⟩ := bE hy2
     refine yH ((zC (lq rfl) rfl).bool (oi hb34)) ?_
     refine q12 (.d (di t24.Hi)) ?_
     refine q69 (.d (db (decide (t24.Hi < 1114111)))) ?_
     refine Q37 ?_
     refine z6 hy2 (fun hy2 => ?_) (fun hy2 => ?_)
     ·
      refine Q94 ?_
      refine q2 ?_
      have ⟨t41, ht41, hy2⟩ := bE hy2
      refine q6 (zHA ht41) ?_
      refine Q1 ?_
      cases hy2
      exact zI (wc)
     ·
      refine zP ?_
      cases hy2
      exact zI (wc)
   ·
    refine Q11 ?_
    cases p1
    exact wc
  ·
   refine zG ?_
   cases p1
   intro q; cases q
   exact zI (wc)
 ·
  refine Q2 ?_
  have ⟨t43, ht43, h⟩ := bE h
  refine q6 (zHA ht43) ?_
  refine Q1 ?_
  cases h
  refine zB ?_
  exact zH rfl
theorem zN3 {a0 a1 r} (h : zD7 a0 a1 = some r) : zF Tryz.prog 126 [(eSet.dv a0), (di a1)] [(db r)] := by
 refine co Tryz.func126 ?_; intro _ _ _ _
 unfold zD7 at h
 refine Q88 ?_
 refine Q96 ?_
 have ⟨y1, hy1, h⟩ := bE h
 refine zN y1 (.exit 0) (fun y1 => ⟨[], []⟩) .ret (fun y1 => ⟨[(4, .d (db y1))], []⟩) ?_ ?_ ?_
 ·
  refine zD (fun x => ⟨[(1, .d (di a1)), (2, .d (.pt (eSet.cells a0))), (5, .d (di x))], []⟩) hy1 (wc) ?_
  rintro v5 sy1 p1
  replace p1 : zCH a0 a1 v5 = some sy1 := p1
  unfold zCH at p1
  refine Q4 ?_
  refine Q89 ?_
  refine Q6 ?_
  refine z6 p1 (fun p1 => ?_) (fun p1 => ?_)
  ·
   refine Q8 ?_
   refine Q2 ?_
   have ⟨t14, ht14, p1⟩ := bE p1
   refine q6 (vS ht14) ?_
   have ⟨b15, hb15, p1⟩ := bE p1
   refine yH ((zC (lq rfl) rfl).bool (oi hb15)) ?_
   refine q59 (.ip (eSet.cells a0) (0 + 0)) zHI ?_
   refine q63 (.d (zR eRange a0.Ranges)) O24 ?_
   refine q12 (.d (di v5)) ?_
   have ⟨t19, ht19, p1⟩ := bE p1
   refine sqt (.ip (eRange.all a0.Ranges) (v5.toNat * eRange.size)) rfl (fun hb => by subst hb; exact kJ (en := eRange) (lq rfl) S24 rfl rfl ht19) ?_
   refine z2Y (.ip (eRange.all a0.Ranges) (v5.toNat * eRange.size + 0)) zG8 ?_
   refine sqt (.d (di t19.Lo)) rfl (fun hb => by subst hb; exact z0 (en := eRange) (l := a0.Ranges) (i := v5) (v := t19) (off := 0) (lq rfl) O3 rfl ht19 rfl) ?_
   refine q12 (.d (di a1)) ?_
   refine q54 (.d (db (decide (t19.Lo ≤ a1)))) ?_
   refine q14 ?_
   have ⟨b25, hb25, p1⟩ := bE p1
   refine yH ((zC (lq rfl) rfl).bool (oi hb25)) ?_
   refine q12 (.d (di a1)) ?_
   refine q59 (.ip (eSet.cells a0) (0 + 0)) zHI ?_
   refine q63 (.d (zR eRange a0.Ranges)) O24 ?_
   refine q12 (.d (di v5)) ?_
   have ⟨t30, ht30, p1⟩ := bE p1
   refine sqt (.ip (eRange.all a0.Ranges) (v5.toNat * eRange.size)) rfl (fun hb => by subst hb; exact kJ (en := eRange) (lq rfl) S24 rfl rfl ht30) ?_
   refine z2Y (.ip (eRange.all a0.Ranges) (v5.toNat * eRange.size + 1)) zDP ?_
   refine sqt (.d (di t30.Hi)) rfl (fun hb => by subst hb; exact z0 (en := eRange) (l := a0.Ranges) (i := v5) (v := t30) (off := 1) (lq rfl) O3 rfl ht30 rfl) ?_
   refine q54 (.d (db (decide (a1 ≤ t30.Hi)))) ?_
   refine Q37 ?_
   refine z6 p1 (fun p1 => ?_) (fun p1 => ?_)
   ·
    refine Q16 ?_
    cases p1
    intro q; cases q
    exact ⟨rfl, wc⟩
   ·
    refine Q24 ?_
    cases p1
    exact wc
  ·
   refine zG ?_
   cases p1
   intro q; cases q
   exact ⟨rfl, wc⟩
 ·
  rintro y1 rfl
  replace h := eL h
  refine Q3 ?_
  cases h
  refine zB ?_
  exact zH rfl
 ·
  rintro y1 rfl
  replace h := eR h
  cases h
  exact zH rfl
theorem zRK {a0 a1 a2 r} (h : zGW a0 a1 a2 = some r) : zF Tryz.prog 125 [(di a0), (db a1), (db a2)] [(db r)] := by
 refine co Tryz.func125 ?_; intro _ _ _ _
 unfold zGW at h
 refine Q44 ?_
 refine zJ <| zY8 ?_
 refine zZF ?_
 refine z6 h (fun h => ?_) (fun h => ?_)
 ·
  refine Q2 ?_
  have ⟨b11, hb11, h⟩ := bE h
  refine yH ((zC (lq rfl) rfl).bool (oi hb11)) ?_
  refine q39 (.d (db a2)) ?_
  refine q19 ?_
  refine Q1 ?_
  cases h
  refine zB ?_
  exact zH rfl
 ·
  refine Q0 ?_
  refine zZF ?_
  refine z6 h (fun h => ?_) (fun h => ?_)
  ·
   refine Q2 ?_
   have ⟨b17, hb17, h⟩ := bE h
   refine yH ((zC (lq rfl) rfl).bool (oi hb17)) ?_
   refine q12 (.d (db a2)) ?_
   refine Q43 ?_
   cases h
   refine zB ?_
   exact zH rfl
  ·
   refine zP <| Q2 ?_
   have ⟨b21, hb21, h⟩ := bE h
   refine yH ((zC (lq rfl) rfl).bool (oi hb21)) ?_
   refine q12 (.d (db a2)) ?_
   refine zY0 (.d (db (!a2))) ?_
   refine Q43 ?_
   cases h
   refine zB ?_
   exact zH rfl
theorem zOK {a0 a1 a2 r} (h : zEL a0 a1 a2 = some r) : zF Tryz.prog 111 [(eSet.dv a0), (eSet.dv a1), (di a2)] [(eSet.dv r)] := by
 refine co Tryz.func111 ?_; intro _ _ _ _
 unfold zEL at h
 refine Q88 ?_
 refine q62 ?_
 refine z2T ?_
 refine zJ <| kP ?_
 refine z2 MX rfl ?_
 refine q67 G26 ?_
 have ⟨t14, ht14, h⟩ := bE h
 refine q25 (z8U (zMC ht14) (nlN (nlE nl0))) ?_
 refine q67 G26 ?_
 have ⟨t16, ht16, h⟩ := bE h
 refine q25 (zMC ht16) ?_
 refine Q49 ?_
 refine Q0 ?_
 refine z2T ?_
 refine zJ ?_
 refine zQ (zLT (bid := 8) (off := 0) 4160 123 eRange.size (lq rfl) (by decide) rfl rfl rfl) ?_
 refine Q70 ?_
 have ⟨y1, hy1, h⟩ := bE h
 refine tl (.exit 0) ⟨[(6, .ptr 6 0), (8, .ptr 8 0)], [(6, .box 26 [.d (.v (.slice none 0 0))]), (8, .box 26 [.row 4160]), (4160, .row 123 eRange.size false (eRange.all y1))]⟩ ?_ ?_
 ·
  refine zD (fun x => ⟨[(2, .d (di a2)), (3, .d (.pt (eSet.cells a0))), (4, .d (.pt (eSet.cells a1))), (6, .ptr 6 0), (7, .d (zR eI t16)), (8, .ptr 8 0), (9, .d (db x.1)), (10, .d (di x.2.1))], [(6, .box 26 [.d (.v (.slice none 0 0))]), (8, .box 26 [.row 4160]), (4160, .row 123 eRange.size false (eRange.all x.2.2))]⟩) hy1 (wc) ?_
  rintro ⟨v9, v10, r4160⟩ sy1 p1
  replace p1 : kY t16 a0 a1 a2 v9 v10 r4160 = some sy1 := p1
  unfold kY at p1
  refine Q10 ?_
  refine Q82 ?_
  refine z6 p1 (fun p1 => ?_) (fun p1 => ?_)
  ·
   refine Q8 ?_
   refine Q44 ?_
   refine q2 ?_
   refine q0 ?_
   refine Q82 ?_
   have ⟨y2, hy2, p1⟩ := bE p1
   refine tl .normal ⟨[(2, .d (di a2)), (3, .d (.pt (eSet.cells a0))), (4, .d (.pt (eSet.cells a1))), (6, .ptr 6 0), (7, .d (zR eI t16)), (8, .ptr 8 0), (9, .d (db v9)), (10, .d (di v10)), (11, .d (di y2))], [(6, .box 26 [.d (.v (.slice none 0 0))]), (8, .box 26 [.row 4160]), (4160, .row 123 eRange.size false (eRange.all r4160))]⟩ ?_ ?_
   ·
    refine z6 hy2 (fun hy2 => ?_) (fun hy2 => ?_)
    ·
     refine Q94 ?_
     refine q2 ?_
     have ⟨t31, ht31, hy2⟩ := bE hy2
     refine q13 yF ht31 ?_
     refine q35 O3 ht31 ?_
     refine Q68 ?_
     cases hy2
     exact zI (wc)
    ·
     refine zP ?_
     cases hy2
     exact zI (wc)
   ·
    refine kP ?_
    refine z2 MX rfl ?_
    refine q4 ?_
    refine q67 G26 ?_
    refine Q23 ?_
    have ⟨t38, ht38, p1⟩ := bE p1
    refine q21 yF ht38 ?_
    refine q65 O3 ht38 ?_
    have ⟨t40, ht40, p1⟩ := bE p1
    refine q25 (zN3 ht40) ?_
    refine q67 G26 ?_
    refine Q23 ?_
    have ⟨t44, ht44, p1⟩ := bE p1
    refine q21 yF ht44 ?_
    refine q65 O3 ht44 ?_
    have ⟨t46, ht46, p1⟩ := bE p1
    refine q25 (zN3 ht46) ?_
    have ⟨t47, ht47, p1⟩ := bE p1
    refine q25 (zRK ht47) ?_
    refine Q49 ?_
    refine Q4 ?_
    have ⟨b49, hb49, p1⟩ := bE p1
    refine yH ((zC (lq rfl) rfl).bool (oi hb49)) ?_
    refine q12 (.d (db v9)) ?_
    refine Q37 ?_
    have ⟨y3, hy3, p1⟩ := bE p1
    refine tl .normal ⟨[(2, .d (di a2)), (3, .d (.pt (eSet.cells a0))), (4, .d (.pt (eSet.cells a1))), (6, .ptr 6 0), (7, .d (zR eI t16)), (8, .ptr 8 0), (9, .d (db v9)), (10, .d (di v10)), (11, .d (di y2)), (12, .d (db t47))], [(6, .box 26 [.d (.v (.slice none 0 0))]), (8, .box 26 [.row 4160]), (4160, .row 123 eRange.size false (eRange.all y3))]⟩ ?_ ?_
    ·
     refine z6 hy3 (fun hy3 => ?_) (fun hy3 => ?_)
     ·
      refine zBC <| q75 zHI ?_
      refine q40 O24 ?_
      refine q75 zHI ?_
      refine q40 O24 ?_
      refine z59 S24 ?_
      refine q31 ?_
      refine q0 ?_
      have ⟨t59, ht59, hy3⟩ := bE hy3
      refine q76 S24 ht59 ?_
      refine q75 zDP ?_
      have ⟨r4160_4, hr4160_4, hy3⟩ := bE hy3
      refine yW rfl (zGR (en := eRange) (l := r4160) (i := (wi ((r4160.length : Int) - 1))) (v := t59) (off := 1) O3 rfl rfl rfl ht59 rfl (by decide) hr4160_4 rfl rfl) ?_
      refine zJ ?_
      cases hy3
      exact zI (wc)
     ·
      refine zP ?_
      cases hy3
      exact zI (wc)
    ·
     refine Q4 ?_
     have ⟨b62, hb62, p1⟩ := bE p1
     refine yH ((zC (lq rfl) rfl).bool (oi hb62)) ?_
     refine q12 (.d (db v9)) ?_
     refine zY0 (.d (db (!v9))) ?_
     refine Q37 ?_
     have ⟨y5, hy5, p1⟩ := bE p1
     refine tl .normal ⟨[(2, .d (di a2)), (3, .d (.pt (eSet.cells a0))), (4, .d (.pt (eSet.cells a1))), (6, .ptr 6 0), (7, .d (zR eI t16)), (8, .ptr 8 0), (10, .d (di v10)), (12, .d (db t47))], [(6, .box 26 [.d (.v (.slice none 0 0))]), (8, .box 26 [.row 4160]), (4160, .row 123 eRange.size false (eRange.all y5))]⟩ ?_ ?_
     ·
      refine z6 hy5 (fun hy5 => ?_) (fun hy5 => ?_)
      ·
       refine zFU 9 MX rfl ?_
       refine q91 zHI ?_
       refine z9P O24 ?_
       refine Q23 ?_
       have ⟨t70, ht70, hy5⟩ := bE hy5
       refine q21 yF ht70 ?_
       refine q65 O3 ht70 ?_
       refine q4 ?_
       refine w8 (zDF (lq rfl) zWI rfl rfl) ?_
       refine z9S S24 ?_
       refine wB ?_
       have ⟨r4160_6, hr4160_6, hy5⟩ := bE hy5
       refine yW rfl (k7 (en := eRange) (l := y3) (m := [({ Lo := t70, Hi := y2 } : Range)]) (lq rfl) S24 rfl rfl rfl hr4160_6 (by decide) (by decide) rfl rfl) ?_
       refine q75 zHI ?_
       refine z6A O24 ?_
       refine zJ ?_
       cases hy5
       exact zI (wc)
      ·
       refine zP ?_
       cases hy5
       exact zI (wc)
     ·
      refine Q77 ?_
      refine Q11 ?_
      cases p1
      exact wc
  ·
   refine zG ?_
   cases p1
   intro q; cases q
   exact zI (wc)
 ·
  refine kP ?_
  refine zQ (zTF (bid := 8) (off := 0) rfl rfl rfl) ?_
  refine zBC ?_
  refine yH ((zBB (lq rfl) G26 rfl rfl rfl rfl).data rfl) ?_
  refine q17 G26 ?_
  refine zJ ?_
  cases h
  refine zB ?_
  exact vT rfl rfl G26 rfl
theorem zTW {a0 r} (h : zF0 a0 = some r) : zF Tryz.prog 91 [(zR eRange a0)] [(eSet.dv r)] := by
 refine co Tryz.func91 ?_; intro _ _ _ _
 unfold zF0 at h
 refine Q0 ?_
 refine z2T ?_
 refine zJ <| Q2 ?_
 refine q56 B26 ?_
 refine yH ((zDF (lq rfl) B26 rfl rfl).nils (bs := eSet.cells ({ Ranges := [] } : Set)) (nlN nl0)) ?_
 have ⟨t6, ht6, h⟩ := bE h
 refine q6 (zOK ht6) ?_
 refine q17 G26 ?_
 refine zJ ?_
 cases h
 refine zB ?_
 exact vT rfl rfl G26 rfl
theorem zTX {a0 a1 r} (h : zF1 a0 a1 = some r) : zF Tryz.prog 90 [(eSet.dv a0), (eSet.dv a1)] [(db r)] := by
 refine co Tryz.func90 ?_; intro _ _ _ _
 unfold zF1 at h
 refine Q88 ?_
 refine q62 ?_
 refine Q59 ?_
 refine Q89 ?_
 refine Q89 ?_
 refine Q40 ?_
 refine z6 h (fun h => ?_) (fun h => ?_)
 ·
  refine Q3 ?_
  cases h
  refine zB ?_
  exact zH rfl
 ·
  refine Q98 ?_
  have ⟨y1, hy1, h⟩ := bE h
  refine zN y1 (.exit 0) (fun y1 => ⟨[], []⟩) .ret (fun y1 => ⟨[(4, .d (db y1))], []⟩) ?_ ?_ ?_
  ·
   refine zD (fun x => ⟨[(2, .d (.pt (eSet.cells a0))), (3, .d (.pt (eSet.cells a1))), (5, .d (di x))], []⟩) hy1 (wc) ?_
   rintro v5 sy1 p1
   replace p1 : zBU a0 a1 v5 = some sy1 := p1
   unfold zBU at p1
   refine Q4 ?_
   refine Q89 ?_
   refine Q6 ?_
   refine z6 p1 (fun p1 => ?_) (fun p1 => ?_)
   ·
    refine Q61 ?_
    refine z2 MX rfl ?_
    refine q23 zHI ?_
    refine q27 O24 ?_
    refine q4 ?_
    have ⟨t23, ht23, p1⟩ := bE p1
    refine q21 S24 ht23 ?_
    refine w8 (xE (en := eRange) (l := a0.Ranges) (i := v5) (v := t23) (off := 0) (lq rfl) zBP rfl ht23 rfl rfl (by decide)) ?_
    refine q23 zHI ?_
    refine q27 O24 ?_
    refine q4 ?_
    have ⟨t28, ht28, p1⟩ := bE p1
    refine q21 S24 ht28 ?_
    refine w8 (xE (en := eRange) (l := a1.Ranges) (i := v5) (v := t28) (off := 0) (lq rfl) zBP rfl ht28 rfl rfl (by decide)) ?_
    refine w8 (zTL (en := eRange) (a := t23) (b := t28) (lq rfl) yFG rfl rfl) ?_
    refine wB ?_
    refine z6 p1 (fun p1 => ?_) (fun p1 => ?_)
    ·
     refine Q16 ?_
     cases p1
     intro q; cases q
     exact ⟨rfl, wc⟩
    ·
     refine Q24 ?_
     cases p1
     exact wc
   ·
    refine zG ?_
    cases p1
    intro q; cases q
    exact ⟨rfl, wc⟩
  ·
   rintro y1 rfl
   replace h := eL h
   refine Q3 ?_
   cases h
   refine zB ?_
   exact zH rfl
  ·
   rintro y1 rfl
   replace h := eR h
   cases h
   exact zH rfl
theorem zRL {a0 r} (h : zE2 a0 = some r) : zF Tryz.prog 63 [(eSet.dv a0)] [(db r)] := by
 refine co Tryz.func63 ?_; intro _ _ _ _
 unfold zE2 at h
 refine Q88 ?_
 refine Q15 ?_
 refine z2 MX rfl ?_
 refine q67 G26 ?_
 refine q23 zHI ?_
 refine q27 O24 ?_
 have ⟨t6, ht6, h⟩ := bE h
 refine q25 (zTW ht6) ?_
 have ⟨t7, ht7, h⟩ := bE h
 refine q25 (zTX ht7) ?_
 refine Q49 ?_
 cases h
 refine zB ?_
 exact zH rfl
theorem zDR {a0 a1 a2 r} (h : zCB a0 a1 a2 = some r) : zF Tryz.prog 64 [(zR eMapping a0), (di a1), (db a2)] [(di r)] := by
 refine co Tryz.func64 ?_; intro _ _ _ _
 unfold zCB at h
 refine Q70 ?_
 have ⟨y1, hy1, h⟩ := bE h
 refine zN y1 (.exit 0) (fun y1 => ⟨[], []⟩) .ret (fun y1 => ⟨[(6, .d (di y1))], []⟩) ?_ ?_ ?_
 ·
  refine zD (fun x => ⟨[(0, .d (zR eMapping a0)), (1, .d (di a1)), (2, .d (db a2)), (7, .d (di x))], []⟩) hy1 (wc) ?_
  rintro v7 sy1 p1
  replace p1 : zBV a0 a1 a2 v7 = some sy1 := p1
  unfold zBV at p1
  refine Q56 ?_
  refine z6 p1 (fun p1 => ?_) (fun p1 => ?_)
  ·
   refine Q66 ?_
   have ⟨t16, ht16, p1⟩ := bE p1
   refine q13 S23 ht16 ?_
   refine q44 zED ?_
   refine yH (z0 (en := eMapping) (l := a0) (i := v7) (v := t16) (off := 0) (lq rfl) O3 rfl ht16 rfl) ?_
   refine q0 ?_
   refine q50 ?_
   have ⟨b21, hb21, p1⟩ := bE p1
   refine yH ((zC (lq rfl) rfl).bool (oi hb21)) ?_
   refine q12 (.d (db a2)) ?_
   have ⟨b23, hb23, p1⟩ := bE p1
   refine sqt (.d (db b23)) rfl (fun hb => by subst hb; exact (zC (lq rfl) rfl).bool (oi hb23)) ?_
   refine jW (x := .d (zR eMapping a0)) rfl rfl rfl (lq rfl) (lq rfl) rfl (fun hb => by obtain ⟨hb, hb1⟩ := zM hb; obtain rfl : b21 = true := hb; obtain rfl := gF hb1; exact zC (lq rfl) rfl) ?_
   refine jW (x := .d (di v7)) rfl rfl rfl (lq rfl) (lq rfl) rfl (fun hb => by obtain ⟨hb, hb1⟩ := zM hb; obtain rfl : b21 = true := hb; obtain rfl := gF hb1; exact zC (lq rfl) rfl) ?_
   have ⟨t26, ht26, p1⟩ := bE p1
   refine jW (x := .ip (eMapping.all a0) (v7.toNat * eMapping.size)) rfl rfl rfl (lq rfl) (lq rfl) rfl (fun hb => by obtain ⟨hb, hb1⟩ := zM hb; obtain rfl : b21 = true := hb; obtain rfl := gF hb1; exact kJ (en := eMapping) (lq rfl) S23 rfl rfl ht26) ?_
   refine jW (x := .ip (eMapping.all a0) (v7.toNat * eMapping.size + 2)) rfl rfl rfl (lq rfl) (lq rfl) rfl (fun hb => by obtain ⟨hb, hb1⟩ := zM hb; obtain rfl : b21 = true := hb; obtain rfl := gF hb1; exact xD (lq rfl) zA7 rfl) ?_
   refine jW (x := .d (ds t26.Tag)) rfl rfl rfl (lq rfl) (lq rfl) rfl (fun hb => by obtain ⟨hb, hb1⟩ := zM hb; obtain rfl : b21 = true := hb; obtain rfl := gF hb1; exact z0 (en := eMapping) (l := a0) (i := v7) (v := t26) (off := 2) (lq rfl) O9 rfl ht26 rfl) ?_
   refine jW (x := .d (db (t26.Tag == []))) rfl rfl rfl (lq rfl) (lq rfl) rfl (fun hb => by obtain ⟨hb, hb1⟩ := zM hb; obtain rfl : b21 = true := hb; obtain rfl := gF hb1; exact zK3 (a := t26.Tag) (b := []) (lq rfl) rfl rfl) ?_
   refine z9O (.d (db (b23 || (t26.Tag == [])))) ?_
   refine Q37 ?_
   refine z6 p1 (fun p1 => ?_) (fun p1 => ?_)
   ·
    refine Q35 ?_
    refine zB ?_
    cases p1
    intro q; cases q
    exact ⟨rfl, wc⟩
   ·
    refine Q24 ?_
    cases p1
    exact wc
  ·
   refine zG ?_
   cases p1
   intro q; cases q
   exact ⟨rfl, wc⟩
 ·
  rintro y1 rfl
  replace h := eL h
  refine Q3 ?_
  cases h
  refine zB ?_
  exact zH rfl
 ·
  rintro y1 rfl
  replace h := eR h
  cases h
  exact zH rfl
theorem zMD {a0 r} (h : zD8 a0 = some r) : zF Tryz.prog 65 [(di a0)] [(di r)] := by
 refine co Tryz.func65 ?_; intro _ _ _ _
 unfold zD8 at h
 refine Q44 ?_
 refine q37 ?_
 have ⟨b5, hb5, h⟩ := bE h
 refine yH ((zC (lq rfl) rfl).bool (oi hb5)) ?_
 refine q12 (.d (di a0)) ?_
 refine q54 (.d (db (decide (a0 ≤ 4370)))) ?_
 refine Q37 ?_
 refine z6 h (fun h => ?_) (fun h => ?_)
 ·
  refine Q3 ?_
  cases h
  refine zB ?_
  exact zH rfl
 ·
  refine Q85 ?_
  refine q37 ?_
  have ⟨b11, hb11, h⟩ := bE h
  refine yH ((zC (lq rfl) rfl).bool (oi hb11)) ?_
  refine q12 (.d (di a0)) ?_
  refine q54 (.d (db (decide (a0 ≤ 4469)))) ?_
  refine Q37 ?_
  refine z6 h (fun h => ?_) (fun h => ?_)
  ·
   refine Q3 ?_
   cases h
   refine zB ?_
   exact zH rfl
  ·
   refine Q85 ?_
   refine q37 ?_
   have ⟨b17, hb17, h⟩ := bE h
   refine yH ((zC (lq rfl) rfl).bool (oi hb17)) ?_
   refine q12 (.d (di a0)) ?_
   refine q54 (.d (db (decide (a0 ≤ 4546)))) ?_
   refine Q37 ?_
   refine z6 h (fun h => ?_) (fun h => ?_)
   ·
    refine Q3 ?_
    cases h
    refine zB ?_
    exact zH rfl
   ·
    refine Q85 ?_
    refine q37 ?_
    have ⟨b23, hb23, h⟩ := bE h
    refine yH ((zC (lq rfl) rfl).bool (oi hb23)) ?_
    refine q12 (.d (di a0)) ?_
    refine q54 (.d (db (decide (a0 ≤ 55203)))) ?_
    refine Q37 ?_
    refine z6 h (fun h => ?_) (fun h => ?_)
    ·
     refine Q4 ?_
     refine q31 ?_
     have ⟨t29, ht29, h⟩ := bE h
     refine q86 ht29 ?_
     refine Q86 ?_
     refine z6 h (fun h => ?_) (fun h => ?_)
     ·
      refine Q3 ?_
      cases h
      refine zB ?_
      exact zH rfl
     ·
      refine Q58 ?_
      cases h
      refine zB ?_
      exact zH rfl
    ·
     refine Q58 ?_
     cases h
     refine zB ?_
     exact zH rfl
theorem zCY {a0 a1 r} (h : u9 a0 a1 = some r) : zF Tryz.prog 38 [(zR eSpan a0), (di a1)] [(di r)] := by
 refine co Tryz.func38 ?_; intro _ _ _ _
 unfold u9 at h
 refine Q44 ?_
 have ⟨t7, ht7, h⟩ := bE h
 refine q6 (zKX ht7) ?_
 refine Q40 ?_
 refine z6 h (fun h => ?_) (fun h => ?_)
 ·
  refine Q3 ?_
  cases h
  refine zB ?_
  exact zH rfl
 ·
  refine Q98 ?_
  have ⟨y1, hy1, h⟩ := bE h
  refine zN y1 (.exit 0) (fun y1 => ⟨[], []⟩) .ret (fun y1 => ⟨[(4, .d (di y1))], []⟩) ?_ ?_ ?_
  ·
   refine zD (fun x => ⟨[(0, .d (zR eSpan a0)), (1, .d (di a1)), (5, .d (di x))], []⟩) hy1 (wc) ?_
   rintro v5 sy1 p1
   replace p1 : xP a0 a1 v5 = some sy1 := p1
   unfold xP at p1
   refine Q10 ?_
   refine q5 S22 ?_
   refine Q6 ?_
   refine z6 p1 (fun p1 => ?_) (fun p1 => ?_)
   ·
    refine Q66 ?_
    have ⟨t17, ht17, p1⟩ := bE p1
    refine q13 S22 ht17 ?_
    refine q44 zHJ ?_
    refine yH (z0 (en := eSpan) (l := a0) (i := v5) (v := t17) (off := 0) (lq rfl) O3 rfl ht17 rfl) ?_
    refine q0 ?_
    refine q68 ?_
    have ⟨b22, hb22, p1⟩ := bE p1
    refine yH ((zC (lq rfl) rfl).bool (oi hb22)) ?_
    refine q12 (.d (di a1)) ?_
    refine q12 (.d (zR eSpan a0)) ?_
    refine q12 (.d (di v5)) ?_
    have ⟨t26, ht26, p1⟩ := bE p1
    refine sqt (.ip (eSpan.all a0) (v5.toNat * eSpan.size)) rfl (fun hb => by subst hb; exact kJ (en := eSpan) (lq rfl) S22 rfl rfl ht26) ?_
    refine z2Y (.ip (eSpan.all a0) (v5.toNat * eSpan.size + 1)) zHK ?_
    refine sqt (.d (di t26.Hi)) rfl (fun hb => by subst hb; exact z0 (en := eSpan) (l := a0) (i := v5) (v := t26) (off := 1) (lq rfl) O3 rfl ht26 rfl) ?_
    refine q54 (.d (db (decide (a1 ≤ t26.Hi)))) ?_
    refine Q37 ?_
    refine z6 p1 (fun p1 => ?_) (fun p1 => ?_)
    ·
     refine Q13 ?_
     have ⟨t33, ht33, p1⟩ := bE p1
     refine q13 S22 ht33 ?_
     refine q44 zIK ?_
     refine yH (z0 (en := eSpan) (l := a0) (i := v5) (v := t33) (off := 2) (lq rfl) O3 rfl ht33 rfl) ?_
     refine Q1 ?_
     refine zB ?_
     cases p1
     intro q; cases q
     exact ⟨rfl, wc⟩
    ·
     refine Q24 ?_
     cases p1
     exact wc
   ·
    refine zG ?_
    cases p1
    intro q; cases q
    exact ⟨rfl, wc⟩
  ·
   rintro y1 rfl
   replace h := eL h
   refine Q3 ?_
   cases h
   refine zB ?_
   exact zH rfl
  ·
   rintro y1 rfl
   replace h := eR h
   cases h
   exact zH rfl
theorem zTY {a0 r} (h : zF2 a0 = some r) : zF Tryz.prog 66 [(zR eMapping a0)] [(zR eB r)] := by
 refine co Tryz.func66 ?_; intro _ _ _ _
 unfold zF2 at h
 refine Q57 ?_
 refine q5 S23 ?_
 have ⟨r11, hr11, h⟩ := bE h
 refine yW rfl (z5A (en := eB) (lq rfl) z9B rfl rfl hr11 (by decide) rfl) ?_
 refine Q17 ?_
 refine Q31 ?_
 have ⟨y1, hy1, h⟩ := bE h
 refine tl (.exit 0) ⟨[(3, .row 11)], [(11, .row 4 eB.size false (eB.all y1))]⟩ ?_ ?_
 ·
  refine zD (fun x => ⟨[(0, .d (zR eMapping a0)), (3, .row 11), (4, .d (di x.1))], [(11, .row 4 eB.size false (eB.all x.2))]⟩) hy1 (wc) ?_
  rintro ⟨v4, r11⟩ sy1 p1
  replace p1 : zAG a0 v4 r11 = some sy1 := p1
  unfold zAG at p1
  refine Q56 ?_
  refine z6 p1 (fun p1 => ?_) (fun p1 => ?_)
  ·
   refine Q8 ?_
   refine Q14 ?_
   have ⟨y2, hy2, p1⟩ := bE p1
   refine tl (.exit 2) ⟨[(0, .d (zR eMapping a0)), (3, .row 11), (4, .d (di v4))], [(11, .row 4 eB.size false (eB.all y2))]⟩ ?_ ?_
   ·
    refine zD (fun x => ⟨[(0, .d (zR eMapping a0)), (3, .row 11), (4, .d (di v4)), (5, .d (di x.1))], [(11, .row 4 eB.size false (eB.all x.2))]⟩) hy2 (wc) ?_
    rintro ⟨v5, r11⟩ sy2 p2
    replace p2 : zAF a0 v5 r11 = some sy2 := p2
    unfold zAF at p2
    refine Q56 ?_
    refine z6 p2 (fun p2 => ?_) (fun p2 => ?_)
    ·
     refine Q8 ?_
     refine Q70 ?_
     have ⟨y3, hy3, p2⟩ := bE p2
     refine tl (.exit 4) ⟨[(0, .d (zR eMapping a0)), (3, .row 11), (4, .d (di v4)), (5, .d (di v5)), (6, .d (db y3))], [(11, .row 4 eB.size false (eB.all r11))]⟩ ?_ ?_
     ·
      refine zD (fun x => ⟨[(0, .d (zR eMapping a0)), (3, .row 11), (4, .d (di v4)), (5, .d (di v5)), (6, .d (db x.1)), (7, .d (di x.2))], [(11, .row 4 eB.size false (eB.all r11))]⟩) hy3 (wc) ?_
      rintro ⟨v6, v7⟩ sy3 p3
      replace p3 : wP a0 v5 r11 v6 v7 = some sy3 := p3
      unfold wP at p3
      refine Q10 ?_
      refine q0 ?_
      have ⟨t27, ht27, p3⟩ := bE p3
      refine q13 S23 ht27 ?_
      refine q44 zCE ?_
      refine q84 O33 ht27 ?_
      refine Q82 ?_
      refine z6 p3 (fun p3 => ?_) (fun p3 => ?_)
      ·
       refine Q66 ?_
       refine q0 ?_
       have ⟨t37, ht37, p3⟩ := bE p3
       refine q13 S23 ht37 ?_
       refine q44 zCE ?_
       refine q84 O33 ht37 ?_
       refine q0 ?_
       have ⟨t41, ht41, p3⟩ := bE p3
       refine q13 yF ht41 ?_
       refine q35 O3 ht41 ?_
       have ⟨t43, ht43, p3⟩ := bE p3
       refine q6 (zDR ht43) ?_
       refine Q1 ?_
       refine Q7 ?_
       have ⟨b45, hb45, p3⟩ := bE p3
       refine yH ((zC (lq rfl) rfl).bool (oi hb45)) ?_
       refine q12 (.d (di t43)) ?_
       refine q69 (.d (db (decide (t43 < 0)))) ?_
       have ⟨b48, hb48, p3⟩ := bE p3
       refine sqt (.d (db b48)) rfl (fun hb => by subst hb; exact (zC (lq rfl) rfl).bool (oi hb48)) ?_
       refine jW (x := .row 11) rfl rfl rfl (lq rfl) (lq rfl) rfl (fun hb => by obtain ⟨hb, hb1⟩ := zM hb; obtain rfl : b45 = true := hb; obtain rfl := gF hb1; exact zFV (lq rfl) rfl) ?_
       refine jW (x := .d (di t43)) rfl rfl rfl (lq rfl) (lq rfl) rfl (fun hb => by obtain ⟨hb, hb1⟩ := zM hb; obtain rfl : b45 = true := hb; obtain rfl := gF hb1; exact zC (lq rfl) rfl) ?_
       have ⟨t51, ht51, p3⟩ := bE p3
       refine jW (x := .ptr 11 (t43.toNat * eB.size)) rfl rfl rfl (lq rfl) (lq rfl) rfl (fun hb => by obtain ⟨hb, hb1⟩ := zM hb; obtain rfl : b45 = true := hb; obtain rfl := gF hb1; exact zB4 (en := eB) (l := r11) (lq rfl) z9B rfl rfl rfl ht51) ?_
       refine jW (x := .d (db t51)) rfl rfl rfl (lq rfl) (lq rfl) rfl (fun hb => by obtain ⟨hb, hb1⟩ := zM hb; obtain rfl : b45 = true := hb; obtain rfl := gF hb1; exact zFW (en := eB) (l := r11) (i := t43) (v := t51) (off := 0) (lq rfl) O4 rfl rfl ht51 rfl) ?_
       refine z9O (.d (db (b48 || t51))) ?_
       refine Q43 ?_
       refine Q11 ?_
       cases p3
       exact wc
      ·
       refine zG ?_
       cases p3
       intro q; cases q
       exact zI (wc)
     ·
      refine Q76 ?_
      have ⟨t58, ht58, p2⟩ := bE p2
      refine q76 z9B ht58 ?_
      have ⟨r11_4, hr11_4, p2⟩ := bE p2
      refine yW rfl (zGR (en := eB) (l := r11) (i := v5) (v := t58) (off := 0) O4 rfl rfl rfl ht58 rfl (by decide) hr11_4 rfl rfl) ?_
      refine zJ <| Q11 ?_
      cases p2
      exact wc
    ·
     refine zG ?_
     cases p2
     intro q; cases q
     exact zI (wc)
   ·
    refine Q11 ?_
    cases p1
    exact wc
  ·
   refine zG ?_
   cases p1
   intro q; cases q
   exact zI (wc)
 ·
  refine Q97 ?_
  cases h
  refine zB ?_
  exact zH rfl
theorem zDS {a0 r} (h : u0 a0 = some r) : zF Tryz.prog 92 [(di a0)] [(zR eI r)] := by
 refine co Tryz.func92 ?_; intro _ _ _ _
 unfold u0 at h
 refine Q44 ?_
 have ⟨t6, ht6, h⟩ := bE h
 refine q6 (zMD ht6) ?_
 refine Q6 ?_
 refine z6 h (fun h => ?_) (fun h => ?_)
 ·
  refine Q2 ?_
  refine q80 yF ?_
  refine Q17 ?_
  cases h
  refine zB ?_
  exact zH rfl
 ·
  refine zP <| Q2 ?_
  refine q31 ?_
  refine Q22 ?_
  have ⟨t13, ht13, h⟩ := bE h
  refine zY2 ht13 ?_
  have ⟨t14, ht14, h⟩ := bE h
  refine zY2 ht14 ?_
  refine q2 ?_
  refine q0 ?_
  have ⟨t17, ht17, h⟩ := bE h
  refine zY2 ht17 ?_
  have ⟨t18, ht18, h⟩ := bE h
  refine q86 ht18 ?_
  refine q2 ?_
  refine q80 yF ?_
  refine Q17 ?_
  refine Q4 ?_
  have ⟨t22, ht22, h⟩ := bE h
  refine q86 ht22 ?_
  refine Q60 ?_
  have ⟨y1, hy1, h⟩ := bE h
  refine tl .normal ⟨[(4, .row 20)], [(20, .row 3 eI.size false (eI.all y1))]⟩ ?_ ?_
  ·
   refine z6 hy1 (fun hy1 => ?_) (fun hy1 => ?_)
   ·
    refine zZH ?_
    have ⟨t26, ht26, hy1⟩ := bE hy1
    refine q86 ht26 ?_
    refine q2 ?_
    refine q31 ?_
    refine q38 yF ?_
    have ⟨r20_2, hr20_2, hy1⟩ := bE hy1
    refine yW rfl (k7 (en := eI) (l := [wi (4352 + t14), wi (4449 + t18)]) (m := [wi ((wi (4520 + t26)) - 1)]) (lq rfl) yF rfl rfl rfl hr20_2 (by decide) (by decide) rfl rfl) ?_
    refine Q17 ?_
    cases hy1
    exact zI (wc)
   ·
    refine zP ?_
    cases hy1
    exact zI (wc)
  ·
   refine Q97 ?_
   cases h
   refine zB ?_
   exact zH rfl
theorem zIS {a0 a1 r} (h : zBW a0 a1 = some r) : zF Tryz.prog 67 [(zR eMapping a0), (db a1)] [(zR eI r)] := by
 refine co Tryz.func67 ?_; intro _ _ _ _
 unfold zBW at h
 refine Q57 ?_
 refine q5 S23 ?_
 have ⟨r13, hr13, h⟩ := bE h
 refine yW rfl (z5A (en := eI) (lq rfl) yF rfl rfl hr13 (by decide) rfl) ?_
 refine Q17 ?_
 refine Q31 ?_
 have ⟨y1, hy1, h⟩ := bE h
 refine tl (.exit 0) ⟨[(5, .row 13)], [(13, .row 3 eI.size false (eI.all y1))]⟩ ?_ ?_
 ·
  refine zD (fun x => ⟨[(0, .d (zR eMapping a0)), (1, .d (db a1)), (5, .row 13), (6, .d (di x.1))], [(13, .row 3 eI.size false (eI.all x.2))]⟩) hy1 (wc) ?_
  rintro ⟨v6, r13⟩ sy1 p1
  replace p1 : wL a0 a1 v6 r13 = some sy1 := p1
  unfold wL at p1
  refine Q56 ?_
  refine z6 p1 (fun p1 => ?_) (fun p1 => ?_)
  ·
   refine Q8 ?_
   refine Q14 ?_
   have ⟨y2, hy2, p1⟩ := bE p1
   refine tl (.exit 2) ⟨[(0, .d (zR eMapping a0)), (1, .d (db a1)), (5, .row 13), (6, .d (di v6))], [(13, .row 3 eI.size false (eI.all y2))]⟩ ?_ ?_
   ·
    refine zD (fun x => ⟨[(0, .d (zR eMapping a0)), (1, .d (db a1)), (5, .row 13), (6, .d (di v6)), (7, .d (di x.1))], [(13, .row 3 eI.size false (eI.all x.2))]⟩) hy2 (wc) ?_
    rintro ⟨v7, r13⟩ sy2 p2
    replace p2 : wK a0 a1 v7 r13 = some sy2 := p2
    unfold wK at p2
    refine Q56 ?_
    refine z6 p2 (fun p2 => ?_) (fun p2 => ?_)
    ·
     refine Q5 ?_
     have ⟨y3, hy3, p2⟩ := bE p2
     refine tl .normal ⟨[(0, .d (zR eMapping a0)), (1, .d (db a1)), (5, .row 13), (6, .d (di v6)), (7, .d (di v7))], [(13, .row 3 eI.size false (eI.all y3))]⟩ ?_ ?_
     ·
      refine kB <| Q70 ?_
      have ⟨y4, hy4, hy3⟩ := bE hy3
      refine tl (.exit 4) ⟨[(0, .d (zR eMapping a0)), (1, .d (db a1)), (5, .row 13), (6, .d (di v6)), (7, .d (di v7)), (8, .d (di y4))], [(13, .row 3 eI.size false (eI.all r13))]⟩ ?_ ?_
      ·
       refine zD (fun x => ⟨[(0, .d (zR eMapping a0)), (1, .d (db a1)), (5, .row 13), (6, .d (di v6)), (7, .d (di v7)), (8, .d (di x.1)), (9, .d (di x.2))], [(13, .row 3 eI.size false (eI.all r13))]⟩) hy4 (wc) ?_
       rintro ⟨v8, v9⟩ sy4 p4
       replace p4 : jX a0 v7 a1 r13 v8 v9 = some sy4 := p4
       unfold jX at p4
       refine Q10 ?_
       refine q0 ?_
       have ⟨t29, ht29, p4⟩ := bE p4
       refine q13 S23 ht29 ?_
       refine q44 zCE ?_
       refine q84 O33 ht29 ?_
       refine Q82 ?_
       refine z6 p4 (fun p4 => ?_) (fun p4 => ?_)
       ·
        refine Q5 ?_
        have ⟨y5, hy5, p4⟩ := bE p4
        refine tl .normal ⟨[(0, .d (zR eMapping a0)), (1, .d (db a1)), (5, .row 13), (6, .d (di v6)), (7, .d (di v7)), (8, .d (di y5)), (9, .d (di v9))], [(13, .row 3 eI.size false (eI.all r13))]⟩ ?_ ?_
        ·
         refine Q74 ?_
         refine q0 ?_
         have ⟨t39, ht39, hy5⟩ := bE hy5
         refine q13 S23 ht39 ?_
         refine q44 zCE ?_
         refine q84 O33 ht39 ?_
         refine q0 ?_
         have ⟨t43, ht43, hy5⟩ := bE hy5
         refine q13 yF ht43 ?_
         refine q35 O3 ht43 ?_
         refine q0 ?_
         have ⟨t46, ht46, hy5⟩ := bE hy5
         refine q6 (zDR ht46) ?_
         refine Q22 ?_
         refine Q92 ?_
         refine z6 hy5 (fun hy5 => ?_) (fun hy5 => ?_)
         ·
          refine Q7 ?_
          refine Q19 ?_
          have ⟨t52, ht52, hy5⟩ := bE hy5
          refine q76 yF ht52 ?_
          refine yH (zFW (en := eI) (l := r13) (i := t46) (v := t52) (off := 0) (lq rfl) O3 rfl rfl ht52 rfl) ?_
          refine Q9 ?_
          cases hy5
          exact zI (wc)
         ·
          refine Q7 ?_
          refine Q65 ?_
          have ⟨t58, ht58, hy5⟩ := bE hy5
          refine q13 S23 ht58 ?_
          refine q44 zCE ?_
          refine q84 O33 ht58 ?_
          refine q0 ?_
          have ⟨t62, ht62, hy5⟩ := bE hy5
          refine q13 yF ht62 ?_
          refine q35 O3 ht62 ?_
          have ⟨t64, ht64, hy5⟩ := bE hy5
          refine q6 (zDS ht64) ?_
          refine q5 yF ?_
          refine Q9 ?_
          cases hy5
          exact zI (wc)
        ·
         refine Q11 ?_
         cases p4
         exact wc
       ·
        refine zG ?_
        cases p4
        intro q; cases q
        exact zI (wc)
      ·
       refine Q80 ?_
       refine z9U ?_
       refine z53 ?_
       have ⟨t72, ht72, hy3⟩ := bE hy3
       refine q76 yF ht72 ?_
       have ⟨r13_6, hr13_6, hy3⟩ := bE hy3
       refine yW rfl (zGR (en := eI) (l := r13) (i := v7) (v := t72) (off := 0) O3 rfl rfl rfl ht72 rfl (by decide) hr13_6 rfl rfl) ?_
       refine zJ <| Q13 ?_
       have ⟨t75, ht75, hy3⟩ := bE hy3
       refine q13 S23 ht75 ?_
       refine q44 zA7 ?_
       refine yH (z0 (en := eMapping) (l := a0) (i := v7) (v := t75) (off := 2) (lq rfl) O9 rfl ht75 rfl) ?_
       refine z2P ?_
       have ⟨b79, hb79, hy3⟩ := bE hy3
       refine yH ((zC (lq rfl) rfl).bool (oi hb79)) ?_
       refine q12 (.d (db a1)) ?_
       refine zY0 (.d (db (!a1))) ?_
       refine Q37 ?_
       refine z6 hy3 (fun hy3 => ?_) (fun hy3 => ?_)
       ·
        refine zZH ?_
        have ⟨t85, ht85, hy3⟩ := bE hy3
        refine q76 yF ht85 ?_
        have ⟨r13_7, hr13_7, hy3⟩ := bE hy3
        refine yW rfl (zGR (en := eI) (l := r13_6) (i := v7) (v := t85) (off := 0) O3 rfl rfl rfl ht85 rfl (by decide) hr13_7 rfl rfl) ?_
        refine zJ ?_
        cases hy3
        exact zI (wc)
       ·
        refine zP ?_
        cases hy3
        exact zI (wc)
     ·
      refine Q11 ?_
      cases p2
      exact wc
    ·
     refine zG ?_
     cases p2
     intro q; cases q
     exact zI (wc)
   ·
    refine Q11 ?_
    cases p1
    exact wc
  ·
   refine zG ?_
   cases p1
   intro q; cases q
   exact zI (wc)
 ·
  refine Q97 ?_
  cases h
  refine zB ?_
  exact zH rfl
theorem zRM {a0 r} (h : zE3 a0 = some r) : zF Tryz.prog 39 [(eNorm.dv a0)] [(di r)] := by
 refine co Tryz.func39 ?_; intro _ _ _ _
 unfold zE3 at h
 refine Q39 ?_
 refine Q59 ?_
 refine q7 uM ?_
 refine q8 O22 ?_
 have ⟨t16, ht16, h⟩ := bE h
 refine q6 (zKX ht16) ?_
 refine Q72 ?_
 refine z6 h (fun h => ?_) (fun h => ?_)
 ·
  refine Q35 ?_
  cases h
  refine zB ?_
  exact zH rfl
 ·
  refine Q79 ?_
  refine Q95 ?_
  have ⟨t22, ht22, h⟩ := bE h
  refine q6 (zRJ ht22) ?_
  refine Q72 ?_
  refine z6 h (fun h => ?_) (fun h => ?_)
  ·
   refine Q35 ?_
   cases h
   refine zB ?_
   exact zH rfl
  ·
   refine Q79 ?_
   refine q7 z5T ?_
   refine q89 G26 ?_
   have ⟨t28, ht28, h⟩ := bE h
   refine q6 (zRL ht28) ?_
   refine Q38 ?_
   refine z6 h (fun h => ?_) (fun h => ?_)
   ·
    refine Q3 ?_
    cases h
    refine zB ?_
    exact zH rfl
   ·
    refine Q48 ?_
    refine Q95 ?_
    refine Q96 ?_
    have ⟨y1, hy1, h⟩ := bE h
    refine zN y1 (.exit 0) (fun y1 => ⟨[(1, .d (.pt (eNorm.cells a0))), (5, .d (zR eMapping a0.Decomp))], []⟩) .ret (fun y1 => ⟨[(2, .d (di y1))], []⟩) ?_ ?_ ?_
    ·
     refine zD (fun x => ⟨[(1, .d (.pt (eNorm.cells a0))), (5, .d (zR eMapping a0.Decomp)), (6, .d (di x))], []⟩) hy1 (wc) ?_
     rintro v6 sy1 p1
     replace p1 : zA2 a0 v6 = some sy1 := p1
     unfold zA2 at p1
     refine Q56 ?_
     refine z6 p1 (fun p1 => ?_) (fun p1 => ?_)
     ·
      refine Q66 ?_
      refine q0 ?_
      have ⟨t41, ht41, p1⟩ := bE p1
      refine q13 S23 ht41 ?_
      refine q44 zED ?_
      refine yH (z0 (en := eMapping) (l := a0.Decomp) (i := v6) (v := t41) (off := 0) (lq rfl) O3 rfl ht41 rfl) ?_
      have ⟨t44, ht44, p1⟩ := bE p1
      refine q6 (zDR ht44) ?_
      refine q0 ?_
      refine Q6 ?_
      refine z6 p1 (fun p1 => ?_) (fun p1 => ?_)
      ·
       refine Q16 ?_
       cases p1
       intro q; cases q
       exact ⟨rfl, wc⟩
      ·
       refine Q24 ?_
       cases p1
       exact wc
     ·
      refine zG ?_
      cases p1
      intro q; cases q
      exact ⟨rfl, wc⟩
    ·
     rintro y1 rfl
     replace h := eL h
     refine Q31 ?_
     have ⟨y2, hy2, h⟩ := bE h
     refine zN y2 (.exit 2) (fun y2 => ⟨[(1, .d (.pt (eNorm.cells a0))), (5, .d (zR eMapping a0.Decomp))], []⟩) .ret (fun y2 => ⟨[(2, .d (di y2))], []⟩) ?_ ?_ ?_
     ·
      refine zD (fun x => ⟨[(1, .d (.pt (eNorm.cells a0))), (5, .d (zR eMapping a0.Decomp)), (7, .d (di x))], []⟩) hy2 (wc) ?_
      rintro v7 sy2 p2
      replace p2 : zA3 a0 v7 = some sy2 := p2
      unfold zA3 at p2
      refine Q56 ?_
      refine z6 p2 (fun p2 => ?_) (fun p2 => ?_)
      ·
       refine Q66 ?_
       have ⟨t55, ht55, p2⟩ := bE p2
       refine q13 S23 ht55 ?_
       refine q44 zA7 ?_
       refine yH (z0 (en := eMapping) (l := a0.Decomp) (i := v7) (v := t55) (off := 2) (lq rfl) O9 rfl ht55 rfl) ?_
       refine yH (zK3 (a := t55.Tag) (b := []) (lq rfl) rfl rfl) ?_
       have ⟨b59, hb59, p2⟩ := bE p2
       refine yH ((zC (lq rfl) rfl).bool (oi hb59)) ?_
       refine q12 (.d (zR eMapping a0.Decomp)) ?_
       refine q12 (.d (di v7)) ?_
       have ⟨t62, ht62, p2⟩ := bE p2
       refine sqt (.ip (eMapping.all a0.Decomp) (v7.toNat * eMapping.size)) rfl (fun hb => by subst hb; exact kJ (en := eMapping) (lq rfl) S23 rfl rfl ht62) ?_
       refine z2Y (.ip (eMapping.all a0.Decomp) (v7.toNat * eMapping.size + 1)) zCE ?_
       refine sqt (.d (zR eI t62.To)) rfl (fun hb => by subst hb; exact z0 (en := eMapping) (l := a0.Decomp) (i := v7) (v := t62) (off := 1) (lq rfl) O33 rfl ht62 rfl) ?_
       refine z2O (.d (di (t62.To.length : Int))) yF ?_
       refine z57 (.d (db (!decide ((t62.To.length : Int) = 1)))) ?_
       refine q14 ?_
       have ⟨b68, hb68, p2⟩ := bE p2
       refine yH ((zC (lq rfl) rfl).bool (oi hb68)) ?_
       refine q12 (.d (zR eMapping a0.Decomp)) ?_
       refine q12 (.d (di v7)) ?_
       have ⟨t71, ht71, p2⟩ := bE p2
       refine sqt (.ip (eMapping.all a0.Decomp) (v7.toNat * eMapping.size)) rfl (fun hb => by subst hb; exact kJ (en := eMapping) (lq rfl) S23 rfl rfl ht71) ?_
       refine z2Y (.ip (eMapping.all a0.Decomp) (v7.toNat * eMapping.size + 1)) zCE ?_
       refine sqt (.d (zR eI t71.To)) rfl (fun hb => by subst hb; exact z0 (en := eMapping) (l := a0.Decomp) (i := v7) (v := t71) (off := 1) (lq rfl) O33 rfl ht71 rfl) ?_
       refine z2O (.d (di (t71.To.length : Int))) yF ?_
       refine z57 (.d (db (!decide ((t71.To.length : Int) = 2)))) ?_
       refine Q37 ?_
       refine z6 p2 (fun p2 => ?_) (fun p2 => ?_)
       ·
        refine Q16 ?_
        cases p2
        intro q; cases q
        exact ⟨rfl, wc⟩
       ·
        refine Q24 ?_
        cases p2
        exact wc
      ·
       refine zG ?_
       cases p2
       intro q; cases q
       exact ⟨rfl, wc⟩
     ·
      rintro y2 rfl
      replace h := eL h
      refine Q31 ?_
      have ⟨y3, hy3, h⟩ := bE h
      refine zN y3 (.exit 4) (fun y3 => ⟨[(5, .d (zR eMapping a0.Decomp))], []⟩) .ret (fun y3 => ⟨[(2, .d (di y3))], []⟩) ?_ ?_ ?_
      ·
       refine zD (fun x => ⟨[(1, .d (.pt (eNorm.cells a0))), (5, .d (zR eMapping a0.Decomp)), (8, .d (di x))], []⟩) hy3 (wc) ?_
       rintro v8 sy3 p3
       replace p3 : zA4 a0 v8 = some sy3 := p3
       unfold zA4 at p3
       refine Q56 ?_
       refine z6 p3 (fun p3 => ?_) (fun p3 => ?_)
       ·
        refine Q61 ?_
        refine z2 MX rfl ?_
        refine Q23 ?_
        have ⟨t85, ht85, p3⟩ := bE p3
        refine q21 S23 ht85 ?_
        refine q45 zED ?_
        refine z6B O3 ht85 ?_
        have ⟨t88, ht88, p3⟩ := bE p3
        refine q25 (zMD ht88) ?_
        refine w8 (zNV (lq rfl) rfl rfl) ?_
        have ⟨b90, hb90, p3⟩ := bE p3
        refine w8 ((zC (lq rfl) rfl).bool (oi hb90)) ?_
        refine q46 (.d (zR eMapping a0.Decomp)) ?_
        refine q46 (.d (di v8)) ?_
        have ⟨t93, ht93, p3⟩ := bE p3
        refine daf (.ip (eMapping.all a0.Decomp) (v8.toNat * eMapping.size)) rfl (fun hb => by subst hb; exact kJ (en := eMapping) (lq rfl) S23 rfl rfl ht93) ?_
        refine q79 (.ip (eMapping.all a0.Decomp) (v8.toNat * eMapping.size + 2)) zA7 ?_
        refine daf (.d (ds t93.Tag)) rfl (fun hb => by subst hb; exact z0 (en := eMapping) (l := a0.Decomp) (i := v8) (v := t93) (off := 2) (lq rfl) O9 rfl ht93 rfl) ?_
        refine daf (.d (db (!(t93.Tag == [])))) rfl (fun hb => by subst hb; exact zYF (a := t93.Tag) (b := []) (lq rfl) rfl rfl) ?_
        have ⟨b97, hb97, p3⟩ := bE p3
        refine daf (.d (db b97)) rfl (fun hb => by subst hb; exact (zC (lq rfl) rfl).bool (oi hb97)) ?_
        refine zCM (x := .ip (eNorm.cells a0) (0 + 0)) rfl rfl rfl (lq rfl) (lq rfl) rfl (fun hb => by obtain ⟨hb, hb1⟩ := zM hb; obtain rfl := gF hb; obtain rfl : b97 = true := hb1; exact wD (lq rfl) uM rfl) ?_
        refine zCM (x := .d (zR eSpan a0.Classes)) rfl rfl rfl (lq rfl) (lq rfl) rfl (fun hb => by obtain ⟨hb, hb1⟩ := zM hb; obtain rfl := gF hb; obtain rfl : b97 = true := hb1; exact xU (lq rfl) O22 rfl rfl) ?_
        refine zCM (x := .d (zR eMapping a0.Decomp)) rfl rfl rfl (lq rfl) (lq rfl) rfl (fun hb => by obtain ⟨hb, hb1⟩ := zM hb; obtain rfl := gF hb; obtain rfl : b97 = true := hb1; exact zC (lq rfl) rfl) ?_
        refine zCM (x := .d (di v8)) rfl rfl rfl (lq rfl) (lq rfl) rfl (fun hb => by obtain ⟨hb, hb1⟩ := zM hb; obtain rfl := gF hb; obtain rfl : b97 = true := hb1; exact zC (lq rfl) rfl) ?_
        have ⟨t102, ht102, p3⟩ := bE p3
        refine zCM (x := .ip (eMapping.all a0.Decomp) (v8.toNat * eMapping.size)) rfl rfl rfl (lq rfl) (lq rfl) rfl (fun hb => by obtain ⟨hb, hb1⟩ := zM hb; obtain rfl := gF hb; obtain rfl : b97 = true := hb1; exact kJ (en := eMapping) (lq rfl) S23 rfl rfl ht102) ?_
        refine zCM (x := .ip (eMapping.all a0.Decomp) (v8.toNat * eMapping.size + 0)) rfl rfl rfl (lq rfl) (lq rfl) rfl (fun hb => by obtain ⟨hb, hb1⟩ := zM hb; obtain rfl := gF hb; obtain rfl : b97 = true := hb1; exact xD (lq rfl) zED rfl) ?_
        refine zCM (x := .d (di t102.From)) rfl rfl rfl (lq rfl) (lq rfl) rfl (fun hb => by obtain ⟨hb, hb1⟩ := zM hb; obtain rfl := gF hb; obtain rfl : b97 = true := hb1; exact z0 (en := eMapping) (l := a0.Decomp) (i := v8) (v := t102) (off := 0) (lq rfl) O3 rfl ht102 rfl) ?_
        have ⟨t105, ht105, p3⟩ := bE p3
        refine zCM (x := .d (di t105)) rfl rfl rfl (lq rfl) (lq rfl) rfl (fun hb => by obtain ⟨hb, hb1⟩ := zM hb; obtain rfl := gF hb; obtain rfl : b97 = true := hb1; exact wA (lq rfl) rfl (zCY ht105)) ?_
        refine zCM (x := .d (db (!decide (t105 = 0)))) rfl rfl rfl (lq rfl) (lq rfl) rfl (fun hb => by obtain ⟨hb, hb1⟩ := zM hb; obtain rfl := gF hb; obtain rfl : b97 = true := hb1; exact zNV (lq rfl) rfl rfl) ?_
        refine daf (.d (db (b97 && (!decide (t105 = 0))))) rfl (fun hb => by subst hb; exact zD0 (lq rfl) rfl rfl) ?_
        refine q95 ?_
        refine wB ?_
        refine z6 p3 (fun p3 => ?_) (fun p3 => ?_)
        ·
         refine Q16 ?_
         cases p3
         intro q; cases q
         exact ⟨rfl, wc⟩
        ·
         refine Q24 ?_
         cases p3
         exact wc
       ·
        refine zG ?_
        cases p3
        intro q; cases q
        exact ⟨rfl, wc⟩
      ·
       rintro y3 rfl
       replace h := eL h
       refine Q2 ?_
       have ⟨t110, ht110, h⟩ := bE h
       refine q6 (zTY ht110) ?_
       refine Q96 ?_
       have ⟨y4, hy4, h⟩ := bE h
       refine zN y4 (.exit 6) (fun y4 => ⟨[(5, .d (zR eMapping a0.Decomp))], []⟩) .ret (fun y4 => ⟨[(2, .d (di y4))], []⟩) ?_ ?_ ?_
       ·
        refine zD (fun x => ⟨[(5, .d (zR eMapping a0.Decomp)), (9, .d (zR eB t110)), (10, .d (di x))], []⟩) hy4 (wc) ?_
        rintro v10 sy4 p4
        replace p4 : zA5 a0 t110 v10 = some sy4 := p4
        unfold zA5 at p4
        refine Q56 ?_
        refine z6 p4 (fun p4 => ?_) (fun p4 => ?_)
        ·
         refine Q66 ?_
         have ⟨t119, ht119, p4⟩ := bE p4
         refine q13 z9B ht119 ?_
         refine yH (z0 (en := eB) (l := t110) (i := v10) (v := t119) (off := 0) (lq rfl) O4 rfl ht119 rfl) ?_
         refine Q38 ?_
         refine z6 p4 (fun p4 => ?_) (fun p4 => ?_)
         ·
          refine Q16 ?_
          cases p4
          intro q; cases q
          exact ⟨rfl, wc⟩
         ·
          refine Q24 ?_
          cases p4
          exact wc
        ·
         refine zG ?_
         cases p4
         intro q; cases q
         exact ⟨rfl, wc⟩
       ·
        rintro y4 rfl
        replace h := eL h
        refine Q2 ?_
        have ⟨t123, ht123, h⟩ := bE h
        refine q6 (zIS ht123) ?_
        refine q0 ?_
        have ⟨t125, ht125, h⟩ := bE h
        refine q6 (zIS ht125) ?_
        refine q1 ?_
        refine Q96 ?_
        have ⟨y5, hy5, h⟩ := bE h
        refine zN y5 (.exit 8) (fun y5 => ⟨[], []⟩) .ret (fun y5 => ⟨[(2, .d (di y5))], []⟩) ?_ ?_ ?_
        ·
         refine zD (fun x => ⟨[(5, .d (zR eMapping a0.Decomp)), (11, .d (zR eI t123)), (12, .d (zR eI t125)), (13, .d (di x))], []⟩) hy5 (wc) ?_
         rintro v13 sy5 p5
         replace p5 : zA6 a0 t123 t125 v13 = some sy5 := p5
         unfold zA6 at p5
         refine Q56 ?_
         refine z6 p5 (fun p5 => ?_) (fun p5 => ?_)
         ·
          refine Q66 ?_
          have ⟨t134, ht134, p5⟩ := bE p5
          refine q13 yF ht134 ?_
          refine q35 O3 ht134 ?_
          refine q48 ?_
          have ⟨b137, hb137, p5⟩ := bE p5
          refine yH ((zC (lq rfl) rfl).bool (oi hb137)) ?_
          refine q39 (.d (zR eI t125)) ?_
          refine q39 (.d (di v13)) ?_
          have ⟨t140, ht140, p5⟩ := bE p5
          refine sqf (.ip (eI.all t125) (v13.toNat * eI.size)) rfl (fun hb => by subst hb; exact kJ (en := eI) (lq rfl) yF rfl rfl ht140) ?_
          refine sqf (.d (di t140)) rfl (fun hb => by subst hb; exact z0 (en := eI) (l := t125) (i := v13) (v := t140) (off := 0) (lq rfl) O3 rfl ht140 rfl) ?_
          refine q58 (.d (db (decide (64 < t140)))) ?_
          refine Q50 ?_
          refine z6 p5 (fun p5 => ?_) (fun p5 => ?_)
          ·
           refine Q16 ?_
           cases p5
           intro q; cases q
           exact ⟨rfl, wc⟩
          ·
           refine Q24 ?_
           cases p5
           exact wc
         ·
          refine zG ?_
          cases p5
          intro q; cases q
          exact ⟨rfl, wc⟩
        ·
         rintro y5 rfl
         replace h := eL h
         refine Q3 ?_
         cases h
         refine zB ?_
         exact zH rfl
        ·
         rintro y5 rfl
         replace h := eR h
         cases h
         exact zH rfl
       ·
        rintro y4 rfl
        replace h := eR h
        cases h
        exact zH rfl
      ·
       rintro y3 rfl
       replace h := eR h
       cases h
       exact zH rfl
     ·
      rintro y2 rfl
      replace h := eR h
      cases h
      exact zH rfl
    ·
     rintro y1 rfl
     replace h := eR h
     cases h
     exact zH rfl
theorem xG {a0 r} (h : zD9 a0 = some r) : zF Tryz.prog 16 [(eNorm.dv a0)] [(eNorm.dv r)] := by
 refine co Tryz.func16 ?_; intro _ _ _ _
 unfold zD9 at h
 refine Q39 ?_
 refine z9V ?_
 refine zJ <| Q32 ?_
 refine q20 G28 ?_
 have ⟨t4, ht4, h⟩ := bE h
 refine q6 (zRM ht4) ?_
 refine Q40 ?_
 refine z6 h (fun h => ?_) (fun h => ?_)
 ·
  refine Q0 ?_
  refine yH ((zDF (lq rfl) B28 rfl rfl).nils (bs := eNorm.cells ({ Classes := [], Decomp := [], Excluded := (({ Ranges := [] }) : Set) } : Norm)) (nlN (nlN (nlN nl0)))) ?_
  refine q17 G28 ?_
  refine zJ ?_
  cases h
  refine zB ?_
  exact vT rfl rfl G28 rfl
 ·
  refine Q48 ?_
  refine q20 G28 ?_
  refine q17 G28 ?_
  refine zJ ?_
  cases h
  refine zB ?_
  exact vT rfl rfl G28 rfl
theorem zIA {a0 a1 r} (h : zCC a0 a1 = some r) : zF Tryz.prog 34 [(eCollation.dv a0), (zR eI a1)] [(zR eElement r.1), (db r.2)] := by
 refine co Tryz.func34 ?_; intro _ _ _ _
 unfold zCC at h
 refine Q71 ?_
 refine q1 ?_
 refine Q96 ?_
 have ⟨y1, hy1, h⟩ := bE h
 refine zN y1 (.exit 0) (fun y1 => ⟨[], []⟩) .ret (fun y1 => ⟨[(4, .row 22), (5, .d (db y1.1))], [(22, .row 63 eElement.size false (eElement.all y1.2))]⟩) ?_ ?_ ?_
 ·
  refine zD (fun x => ⟨[(1, .d (zR eI a1)), (2, .d (.pt (eCollation.cells a0))), (6, .d (di x))], []⟩) hy1 (wc) ?_
  rintro v6 sy1 p1
  replace p1 : zBX a0 a1 v6 = some sy1 := p1
  unfold zBX at p1
  refine Q4 ?_
  refine Q90 ?_
  refine q5 S29 ?_
  refine Q6 ?_
  refine z6 p1 (fun p1 => ?_) (fun p1 => ?_)
  ·
   refine Q30 ?_
   refine Q90 ?_
   refine q0 ?_
   have ⟨t17, ht17, p1⟩ := bE p1
   refine q13 S29 ht17 ?_
   refine q44 zF5 ?_
   refine yH (z0 (en := eEntry) (l := a0.Entries) (i := v6) (v := t17) (off := 0) (lq rfl) O33 rfl ht17 rfl) ?_
   refine q0 ?_
   have ⟨t21, ht21, p1⟩ := bE p1
   refine q6 (zKV ht21) ?_
   refine zJ ?_
   refine z6 p1 (fun p1 => ?_) (fun p1 => ?_)
   ·
    refine Q0 ?_
    refine q80 S38 ?_
    refine Q90 ?_
    refine q0 ?_
    have ⟨t26, ht26, p1⟩ := bE p1
    refine q13 S29 ht26 ?_
    refine q44 zJJ ?_
    refine yH (z0 (en := eEntry) (l := a0.Entries) (i := v6) (v := t26) (off := 1) (lq rfl) O38 rfl ht26 rfl) ?_
    have ⟨r22_2, hr22_2, p1⟩ := bE p1
    refine yW rfl (k7 (en := eElement) (l := []) (m := t26.Elements) (lq rfl) S38 rfl rfl rfl hr22_2 (by decide) (by decide) rfl rfl) ?_
    refine q16 ?_
    refine Q1 ?_
    refine zB ?_
    cases p1
    intro q; cases q
    exact ⟨rfl, wc⟩
   ·
    refine Q24 ?_
    cases p1
    exact wc
  ·
   refine zG ?_
   cases p1
   intro q; cases q
   exact ⟨rfl, wc⟩
 ·
  rintro y1 rfl
  replace h := eL h
  refine Q0 ?_
  refine Q34 ?_
  refine zQ (uD (t := 4) 1004 63 eElement.size (lq rfl) (lq rfl) rfl rfl) ?_
  cases h
  refine zB ?_
  exact zEI rfl rfl
 ·
  rintro y1 rfl
  replace h := eR h
  cases h
  exact zEI rfl rfl
theorem zOL {a0 a1 r} (h : zCW a0 a1 = some r) : zF Tryz.prog 15 [(zR eSpan a0), (di a1)] [(db r)] := by
 refine co Tryz.func15 ?_; intro _ _ _ _
 unfold zCW at h
 refine Q3 ?_
 refine Q13 ?_
 have ⟨t7, ht7, h⟩ := bE h
 refine q6 (zCY ht7) ?_
 refine zZF ?_
 cases h
 refine zB ?_
 exact zH rfl
theorem zME {a0 a1 r} (h : zEA a0 a1 = some r) : zF Tryz.prog 57 [(zR eI a0), (di a1)] [(zR eI r)] := by
 refine co Tryz.func57 ?_; intro _ _ _ _
 unfold zEA at h
 refine Q3 ?_
 refine Q0 ?_
 refine q80 yF ?_
 refine q0 ?_
 have ⟨r5_1, hr5_1, h⟩ := bE h
 refine yW rfl (k7 (en := eI) (l := []) (m := a0) (lq rfl) yF rfl rfl rfl hr5_1 (by decide) (by decide) rfl rfl) ?_
 refine q0 ?_
 refine q38 yF ?_
 have ⟨r5_2, hr5_2, h⟩ := bE h
 refine yW rfl (k7 (en := eI) (l := r5_1) (m := [a1]) (lq rfl) yF rfl rfl rfl hr5_2 (by decide) (by decide) rfl rfl) ?_
 refine Q17 ?_
 cases h
 refine zB ?_
 exact zH rfl
theorem zOM {a0 a1 a2 r} (h : zCX a0 a1 a2 = some r) : zF Tryz.prog 32 [(zR eSpan a0), (eCollation.dv a1), (zR eI a2)] [(zR eI r.1), (zR eI r.2.1), (db r.2.2)] := by
 refine co Tryz.func32 ?_; intro _ _ _ _
 unfold zCX at h
 refine Q71 ?_
 refine Q78 ?_
 refine Q70 ?_
 have ⟨y1, hy1, h⟩ := bE h
 refine tl (.exit 0) ⟨[(0, .d (zR eSpan a0)), (2, .d (zR eI a2)), (4, .d (.pt (eCollation.cells a1))), (9, .d (di y1))], []⟩ ?_ ?_
 ·
  refine zD (fun x => ⟨[(0, .d (zR eSpan a0)), (2, .d (zR eI a2)), (4, .d (.pt (eCollation.cells a1))), (9, .d (di x.1)), (10, .d (di x.2))], []⟩) hy1 (wc) ?_
  rintro ⟨v9, v10⟩ sy1 p1
  replace p1 : jY a2 a1 v9 v10 = some sy1 := p1
  unfold jY at p1
  refine Q10 ?_
  refine q5 yF ?_
  refine q68 ?_
  refine zJ ?_
  refine z6 p1 (fun p1 => ?_) (fun p1 => ?_)
  ·
   refine Q5 ?_
   have ⟨y2, hy2, p1⟩ := bE p1
   refine tl .normal ⟨[(0, .d (zR eSpan a0)), (2, .d (zR eI a2)), (4, .d (.pt (eCollation.cells a1))), (9, .d (di y2)), (10, .d (di v10))], []⟩ ?_ ?_
   ·
    refine kB <| kP ?_
    refine z2 MX rfl ?_
    refine q67 G32 ?_
    refine Q23 ?_
    have ⟨t30, ht30, hy2⟩ := bE hy2
    refine w8 (zPT (en := eI) (lq rfl) yF rfl rfl ht30) ?_
    have ⟨t31, ht31, hy2⟩ := bE hy2
    refine q25 (zIA ht31) ?_
    refine yDJ ?_
    refine q87 ?_
    refine q87 ?_
    refine q32 ?_
    refine Q49 ?_
    refine Q2 ?_
    refine zJ ?_
    refine z6 hy2 (fun hy2 => ?_) (fun hy2 => ?_)
    ·
     refine Q77 ?_
     cases hy2
     exact zI (wc)
    ·
     refine zP ?_
     cases hy2
     exact zI (wc)
   ·
    refine Q11 ?_
    cases p1
    exact wc
  ·
   refine zG ?_
   cases p1
   intro q; cases q
   exact zI (wc)
 ·
  refine Q4 ?_
  refine Q86 ?_
  refine z6 h (fun h => ?_) (fun h => ?_)
  ·
   refine kP ?_
   refine z2 MX rfl ?_
   refine q4 ?_
   have ⟨t39, ht39, h⟩ := bE h
   refine w8 (zPT (en := eI) (lq rfl) yF rfl rfl ht39) ?_
   refine q4 ?_
   have ⟨t41, ht41, h⟩ := bE h
   refine w8 (zVX (en := eI) (lq rfl) yF rfl rfl ht41) ?_
   refine q32 ?_
   refine q32 ?_
   refine Q49 ?_
   cases h
   refine zB ?_
   exact zJX rfl rfl rfl
  ·
   refine Q48 ?_
   refine q80 yF ?_
   refine Q65 ?_
   have ⟨t45, ht45, h⟩ := bE h
   refine yH (zPT (en := eI) (lq rfl) yF rfl rfl ht45) ?_
   have ⟨r42_3, hr42_3, h⟩ := bE h
   refine yW rfl (k7 (en := eI) (l := []) (m := t45) (lq rfl) yF rfl rfl rfl hr42_3 (by decide) (by decide) rfl rfl) ?_
   refine Q17 ?_
   refine zQ (zD2 (t := 13) (lq rfl) rfl rfl) ?_
   refine Q3 ?_
   refine zQ (uD (t := 14) 1014 3 eI.size (lq rfl) (lq rfl) rfl rfl) ?_
   refine Q57 ?_
   refine Q69 ?_
   have ⟨y4, hy4, h⟩ := bE h
   refine tl (.exit 2) ⟨[(2, .d (zR eI a2)), (13, .d (zR eI y4.1)), (14, .row 1014), (16, .d (di y4.2.1))], [(1014, .row 3 eI.size false (eI.all y4.2.2))]⟩ ?_ ?_
   ·
    refine zD (fun x => ⟨[(0, .d (zR eSpan a0)), (2, .d (zR eI a2)), (4, .d (.pt (eCollation.cells a1))), (13, .d (zR eI x.1)), (14, .row 1014), (15, .d (di x.2.1)), (16, .d (di x.2.2.1))], [(1014, .row 3 eI.size false (eI.all x.2.2.2))]⟩) hy4 (wc) ?_
    rintro ⟨v13, v15, v16, r1014⟩ sy4 p4
    replace p4 : xM a2 a0 a1 v13 v15 v16 r1014 = some sy4 := p4
    unfold xM at p4
    refine Q10 ?_
    refine q5 yF ?_
    refine q3 ?_
    have ⟨b52, hb52, p4⟩ := bE p4
    refine yH ((zC (lq rfl) rfl).bool (oi hb52)) ?_
    refine q12 (.d (zR eSpan a0)) ?_
    refine q12 (.d (zR eI a2)) ?_
    refine q12 (.d (di v16)) ?_
    have ⟨t56, ht56, p4⟩ := bE p4
    refine sqt (.ip (eI.all a2) (v16.toNat * eI.size)) rfl (fun hb => by subst hb; exact kJ (en := eI) (lq rfl) yF rfl rfl ht56) ?_
    refine sqt (.d (di t56)) rfl (fun hb => by subst hb; exact z0 (en := eI) (l := a2) (i := v16) (v := t56) (off := 0) (lq rfl) O3 rfl ht56 rfl) ?_
    have ⟨t58, ht58, p4⟩ := bE p4
    refine sqt (.d (db t58)) rfl (fun hb => by subst hb; exact wA (lq rfl) rfl (zOL ht58)) ?_
    refine zY0 (.d (db (!t58))) ?_
    refine Q37 ?_
    refine z6 p4 (fun p4 => ?_) (fun p4 => ?_)
    ·
     refine zP <| Q74 ?_
     refine q0 ?_
     have ⟨t64, ht64, p4⟩ := bE p4
     refine q13 yF ht64 ?_
     refine q35 O3 ht64 ?_
     have ⟨t66, ht66, p4⟩ := bE p4
     refine q6 (zCY ht66) ?_
     refine Q15 ?_
     refine z2 MX rfl ?_
     refine q67 G32 ?_
     refine Q23 ?_
     refine q4 ?_
     have ⟨t72, ht72, p4⟩ := bE p4
     refine q21 yF ht72 ?_
     refine q65 O3 ht72 ?_
     have ⟨t74, ht74, p4⟩ := bE p4
     refine q25 (zME ht74) ?_
     have ⟨t75, ht75, p4⟩ := bE p4
     refine q25 (zIA ht75) ?_
     refine yDJ ?_
     refine q87 ?_
     refine q87 ?_
     refine q32 ?_
     refine Q49 ?_
     refine Q4 ?_
     have ⟨b79, hb79, p4⟩ := bE p4
     refine yH ((zC (lq rfl) rfl).bool (oi hb79)) ?_
     refine q12 (.d (di t66)) ?_
     refine q12 (.d (di v15)) ?_
     refine sqt (.d (db (decide (v15 < t66)))) rfl (fun hb => by subst hb; exact zNU (lq rfl) rfl rfl) ?_
     refine Q37 ?_
     have ⟨y5, hy5, p4⟩ := bE p4
     refine tl .normal ⟨[(0, .d (zR eSpan a0)), (2, .d (zR eI a2)), (4, .d (.pt (eCollation.cells a1))), (13, .d (zR eI y5.1)), (14, .row 1014), (15, .d (di y5.2.1)), (16, .d (di v16))], [(1014, .row 3 eI.size false (eI.all y5.2.2))]⟩ ?_ ?_
     ·
      refine z6 hy5 (fun hy5 => ?_) (fun hy5 => ?_)
      ·
       refine Q7 ?_
       refine Q65 ?_
       have ⟨t87, ht87, hy5⟩ := bE hy5
       refine q13 yF ht87 ?_
       refine q35 O3 ht87 ?_
       have ⟨t89, ht89, hy5⟩ := bE hy5
       refine q6 (zME ht89) ?_
       refine Q1 ?_
       cases hy5
       exact zI (wc)
      ·
       refine Q80 ?_
       have ⟨t93, ht93, hy5⟩ := bE hy5
       refine q13 yF ht93 ?_
       refine q35 O3 ht93 ?_
       refine q38 yF ?_
       have ⟨r1014_6, hr1014_6, hy5⟩ := bE hy5
       refine yW rfl (k7 (en := eI) (l := r1014) (m := [t93]) (lq rfl) yF rfl rfl rfl hr1014_6 (by decide) (by decide) rfl rfl) ?_
       refine Q17 ?_
       refine Q94 ?_
       refine z9U ?_
       refine Q1 ?_
       cases hy5
       exact zI (wc)
     ·
      refine Q11 ?_
      cases p4
      exact wc
    ·
     refine zG ?_
     cases p4
     intro q; cases q
     exact zI (wc)
   ·
    refine Q2 ?_
    refine Q36 ?_
    have ⟨t106, ht106, h⟩ := bE h
    refine yH (zVX (en := eI) (lq rfl) yF rfl rfl ht106) ?_
    have ⟨r1014_7, hr1014_7, h⟩ := bE h
    refine yW rfl (k7 (en := eI) (l := y4.2.2) (m := t106) (lq rfl) yF rfl rfl rfl hr1014_7 (by decide) (by decide) rfl rfl) ?_
    refine q1 ?_
    refine q16 ?_
    refine Q1 ?_
    cases h
    refine zB ?_
    exact zJX rfl rfl rfl
theorem zNF {a0 a1 r} (h : zCD a0 a1 = some r) : zF Tryz.prog 33 [(eCollation.dv a0), (di a1)] [(zR eElement r)] := by
 refine co Tryz.func33 ?_; intro _ _ _ _
 unfold zCD at h
 refine Q71 ?_
 refine Q1 ?_
 refine Q4 ?_
 have ⟨t7, ht7, h⟩ := bE h
 refine q6 (vS ht7) ?_
 refine Q38 ?_
 refine z6 h (fun h => ?_) (fun h => ?_)
 ·
  refine Q3 ?_
  refine zQ (zC5 (t := 4) eElement.size (lq rfl) rfl) ?_
  cases h
  refine zB ?_
  exact zH rfl
 ·
  refine Q48 ?_
  refine q20 G32 ?_
  have ⟨t10, ht10, h⟩ := bE h
  refine q6 (zS ht10) ?_
  refine yDI ?_
  refine z6I ?_
  refine zQ (zW (t := 5) (lq rfl) rfl rfl rfl) ?_
  refine Q0 ?_
  refine q7 zKT ?_
  refine q8 O3 ?_
  refine q0 ?_
  have ⟨t14, ht14, h⟩ := bE h
  refine zY2 ht14 ?_
  refine q2 ?_
  refine q7 z0E ?_
  refine q8 O3 ?_
  refine q7 z0F ?_
  refine q8 O3 ?_
  refine q56 B63 ?_
  refine q0 ?_
  have ⟨t22, ht22, h⟩ := bE h
  refine q86 ht22 ?_
  refine q2 ?_
  refine q56 B63 ?_
  refine q38 S38 ?_
  refine Q1 ?_
  cases h
  refine zB ?_
  exact zH rfl
theorem zLB {a0 r} (h : uB a0 = some r) : zF Tryz.prog 37 [(eNorm.dv a0)] [(eNorm.dv r)] := by
 refine co Tryz.func37 ?_; intro _ _ _ _
 unfold uB at h
 refine Q39 ?_
 refine z9V ?_
 refine zJ <| Q32 ?_
 refine q20 G28 ?_
 have ⟨t4, ht4, h⟩ := bE h
 refine q6 (zG3 ht4) ?_
 refine Q40 ?_
 refine z6 h (fun h => ?_) (fun h => ?_)
 ·
  refine Q0 ?_
  refine yH ((zDF (lq rfl) B28 rfl rfl).nils (bs := eNorm.cells ({ Classes := [], Decomp := [], Excluded := (({ Ranges := [] }) : Set) } : Norm)) (nlN (nlN (nlN nl0)))) ?_
  refine q17 G28 ?_
  refine zJ ?_
  cases h
  refine zB ?_
  exact vT rfl rfl G28 rfl
 ·
  refine Q48 ?_
  refine q20 G28 ?_
  refine q17 G28 ?_
  refine zJ ?_
  cases h
  refine zB ?_
  exact vT rfl rfl G28 rfl
theorem zIB : ∀ (n : Nat) {a0 : Int} {a1 : (List (Int × (List Int)))} {a2 : Norm} {a3 : Bool} {r : (List Int) × (List (Int × (List Int)))}, yV n a0 a1 a2 a3 = some r → GC Tryz.prog 59 [.d (di a0), .ptr 3001 0, .d (.pt (eNorm.cells a2)), .d (.pt [(db a3)]), .ptr 3004 0] [(3001, .box 96 [.row 3120]), (3004, .box 74 [.clo 59 [.ptr 3001 0, .d (.pt (eNorm.cells a2)), .d (.pt [(db a3)]), .ptr 3004 0]]), (3120, .map (wU kI (eL eI) a1))] [3001, 3004, 3120] [.d (zR eI r.1)] [(3001, .box 96 [.row 3120]), (3004, .box 74 [.clo 59 [.ptr 3001 0, .d (.pt (eNorm.cells a2)), .d (.pt [(db a3)]), .ptr 3004 0]]), (3120, .map (wU kI (eL eI) r.2))] := by
 intro n
 induction n with
 | zero => intro a0 a1 a2 a3 r h; cases h
 | succ n ih =>
 intro a0 a1 a2 a3 r h
 replace h : xQ (yV n) a0 a1 a2 a3 = some r := h
 generalize yV n = rec at h ih
 refine zCN Tryz.func59 (by kernel_rfl) rfl (lq rfl) (lq rfl) fun w0 I0 hG0 p0 => ?_
 unfold xQ at h
 refine Q3 ?_
 refine Q32 ?_
 refine q40 O96 ?_
 refine q0 ?_
 refine yH (zSH (kv := kI) (ev := (eL eI)) (mp := a1) (k := a0) (zero := []) (lq rfl) M96 K3 rfl rfl rfl (fun _ _ => .nil _ _ _)) ?_
 refine z6J ?_
 refine zJ ?_
 refine z6 h (fun h => ?_) (fun h => ?_)
 ·
  refine Q35 ?_
  cases h
  refine zB ?_
  exact ⟨⟨_, _, rfl, rfl, rfl⟩, ⟨rfl, rfl, rfl, trivial⟩⟩
 ·
  refine Q48 ?_
  refine q20 G28 ?_
  refine q0 ?_
  refine zY1 O4 ?_
  have ⟨t26, ht26, h⟩ := bE h
  refine q6 (zHP ht26) ?_
  refine Q55 ?_
  refine Q34 ?_
  refine Q4 ?_
  refine Q38 ?_
  refine z6 h (fun h => ?_) (fun h => ?_)
  ·
   refine Q2 ?_
   refine q38 yF ?_
   refine Q1 ?_
   cases h
   refine zB ?_
   exact ⟨⟨_, _, rfl, rfl, rfl⟩, ⟨rfl, rfl, rfl, trivial⟩⟩
  ·
   refine Q58 ?_
   refine zQ (uD (t := 11) 1011 3 eI.size (lq rfl) (lq rfl) rfl rfl) ?_
   refine Q4 ?_
   refine Q99 ?_
   have ⟨y1, hy1, h⟩ := bE h
   refine tl (.exit 0) ⟨[(0, .d (di a0)), (1, .ptr 3001 0), (4, .ptr 3004 0), (11, .row 1011)], [(1011, .row 3 eI.size false (eI.all y1.1)), (3001, .box 96 [.row 3120]), (3004, .box 74 [.clo 59 [.ptr 3001 0, .d (.pt (eNorm.cells a2)), .d (.pt [(db a3)]), .ptr 3004 0]]), (3120, .map (wU kI (eL eI) y1.2))]⟩ ?_ ?_
   ·
    refine zD (fun x => ⟨[(0, .d (di a0)), (1, .ptr 3001 0), (4, .ptr 3004 0), (11, .row 1011), (33, .d (zR eI t26.1)), (34, .d (di (t26.1.length : Int))), (35, .d (di x.1))], [(1011, .row 3 eI.size false (eI.all x.2.1)), (3001, .box 96 [.row 3120]), (3004, .box 74 [.clo 59 [.ptr 3001 0, .d (.pt (eNorm.cells a2)), .d (.pt [(db a3)]), .ptr 3004 0]]), (3120, .map (wU kI (eL eI) x.2.2))]⟩) hy1 (wc) ?_
    rintro ⟨v35, r1011, r3120⟩ sy1 p1
    replace p1 : kV t26 rec a2 a3 v35 r1011 r3120 = some sy1 := p1
    unfold kV at p1
    refine Q27 ?_
    refine z6 p1 (fun p1 => ?_) (fun p1 => ?_)
    ·
     refine Q30 ?_
     have ⟨t37, ht37, p1⟩ := bE p1
     refine q13 yF ht37 ?_
     refine q35 O3 ht37 ?_
     refine Q1 ?_
     refine Q84 ?_
     refine q40 O74 ?_
     refine q0 ?_
     have ⟨t42, ht42, p1⟩ := bE p1
     refine yW rfl (zWE [(3001, 3001), (3004, 3004), (3120, 3120)] (ih ht42) (lq rfl) (by decide) rfl ⟨rfl, rfl, rfl, rfl, rfl, trivial⟩ rfl rfl ⟨rfl, rfl, rfl, trivial⟩ rfl rfl rfl rfl) ?_
     have ⟨r1011_2, hr1011_2, p1⟩ := bE p1
     refine yW rfl (k7 (en := eI) (l := r1011) (m := t42.1) (lq rfl) yF rfl rfl rfl hr1011_2 (by decide) (by decide) rfl rfl) ?_
     refine Q17 ?_
     refine Q29 ?_
     cases p1
     exact wc
    ·
     refine zG ?_
     cases p1
     intro q; cases q
     exact zI (wc)
   ·
    refine Q0 ?_
    refine q40 O96 ?_
    refine q0 ?_
    refine q11 ?_
    refine zHY (zD2 (t := 47) (lq rfl) rfl rfl) ?_ (by simp)
    refine z9N M96 K3 ?_
    refine Q64 ?_
    refine q11 ?_
    refine Q17 ?_
    refine zQ (zD2 (t := 6) (lq rfl) rfl rfl) ?_
    cases h
    refine zB ?_
    exact ⟨⟨_, _, rfl, rfl, rfl⟩, ⟨rfl, rfl, rfl, trivial⟩⟩
theorem zJO {a0} {a1} {r : Unit} (h : zBF a0 a1 = some r) : GCA Tryz.prog 36 [.d (eNorm.dv a0), .d (db a1)] [] [] (.clo 59 [.ptr 5 0, .d (.pt (eNorm.cells a0)), .d (.pt [(db a1)]), .ptr 6 0]) [(5, .box 96 [.row 7]), (6, .box 74 [.clo 59 [.ptr 5 0, .d (.pt (eNorm.cells a0)), .d (.pt [(db a1)]), .ptr 6 0]]), (7, .map (wU kI (eL eI) []))] := by
 refine yCW Tryz.func36 (by kernel_rfl) rfl (lq rfl) (lq rfl) rfl fun w0 I0 hG0 p0 => ?_
 unfold zBF at h
 refine Q39 ?_
 refine q62 ?_
 refine Q47 ?_
 refine z51 ?_
 refine yW rfl (kO (zs := [(.map none)]) (lq rfl) (by kernel_rfl) rfl rfl) ?_
 refine z6A O96 ?_
 refine Q64 ?_
 refine yW rfl (kO (zs := [.nilFunc]) (lq rfl) (by kernel_rfl) rfl rfl) ?_
 refine Q64 ?_
 refine yH (zSO (cs := [.ptr 5 0, .d (.pt (eNorm.cells a0)), .d (.pt [(db a1)]), .ptr 6 0]) (lq rfl) ⟨_, _, rfl, rfl, ⟨_, _, rfl, rfl, ⟨_, _, rfl, rfl, ⟨_, _, rfl, rfl, rfl⟩⟩⟩⟩) ?_
 refine yW rfl (zJF O74 rfl rfl (lq rfl) rfl rfl rfl rfl) ?_
 refine Q64 ?_
 refine q40 O74 ?_
 refine yH (zEP (lq rfl) rfl) ?_
 refine zJ ?_
 cases h
 refine zB ?_
 exact ⟨rfl, ⟨rfl, rfl, rfl, trivial⟩⟩
theorem zMF {a0 a1 a2 r} (h : xW a0 a1 a2 = some r) : zF Tryz.prog 96 [(di a0), (di a1), (.pt [(zR eSpan a2)])] [(di r)] := by
 refine co Tryz.func96 ?_; intro _ _ _ _
 unfold xW at h
 refine Q3 ?_
 refine kP ?_
 refine z2 MX rfl ?_
 refine z6D O22 ?_
 refine q4 ?_
 have ⟨t8, ht8, h⟩ := bE h
 refine q25 (zEE ht8) ?_
 refine z6D O22 ?_
 refine q4 ?_
 have ⟨t11, ht11, h⟩ := bE h
 refine q25 (zEE ht11) ?_
 have ⟨t12, ht12, h⟩ := bE h
 refine q25 (xS ht12) ?_
 refine Q49 ?_
 cases h
 refine zB ?_
 exact zH rfl
set_option maxHeartbeats 8000000 in
theorem uR {fv3 : DV} {a0 : (List Int)} {a1 : Int} {a2 : Int} {a3 : Int → Int → Option (Int)} (hf3 : ∀ x0 x1 y, a3 x0 x1 = some y → FnC Tryz.prog fv3 [(di x0), (di x1)] [(di y)]) {r : (List Int)} (h : kM a0 a1 a2 a3 = some r) : GC Tryz.prog 127 [.row 3000, .d (di a1), .d (di a2), .d fv3] [(3000, .win 3 eI.size 0 (eI.all a0))] [3000] [] [(3000, .win 3 eI.size 0 (eI.all r))] := by
 refine zCN Tryz.func127 (by kernel_rfl) rfl (lq rfl) (lq rfl) fun w0 I0 hG0 p0 => ?_
 unfold kM at h
 refine Q2 ?_
 refine Q9 ?_
 refine kB ?_
 have ⟨y1, hy1, h⟩ := bE h
 refine tl (.exit 0) ⟨[(0, .row 3000)], [(3000, .win 3 eI.size 0 (eI.all y1))]⟩ ?_ ?_
 ·
  refine zD (fun x => ⟨[(0, .row 3000), (1, .d (di a1)), (2, .d (di a2)), (3, .d fv3), (8, .d (di x.1))], [(3000, .win 3 eI.size 0 (eI.all x.2))]⟩) hy1 (wc) ?_
  rintro ⟨v8, r3000⟩ sy1 p1
  replace p1 : zT a2 a1 a3 v8 r3000 = some sy1 := p1
  unfold zT at p1
  refine Q67 ?_
  refine z6 p1 (fun p1 => ?_) (fun p1 => ?_)
  ·
   refine Q8 ?_
   refine Q35 ?_
   refine kB ?_
   have ⟨y2, hy2, p1⟩ := bE p1
   refine tl (.exit 2) ⟨[(0, .row 3000), (1, .d (di a1)), (2, .d (di a2)), (3, .d fv3), (8, .d (di v8))], [(3000, .win 3 eI.size 0 (eI.all y2))]⟩ ?_ ?_
   ·
    refine zD (fun x => ⟨[(0, .row 3000), (1, .d (di a1)), (2, .d (di a2)), (3, .d fv3), (8, .d (di v8)), (9, .d (di x.1))], [(3000, .win 3 eI.size 0 (eI.all x.2))]⟩) hy2 (wc) ?_
    rintro ⟨v9, r3000⟩ sy2 p2
    replace p2 : zZ a1 a3 v9 r3000 = some sy2 := p2
    unfold zZ at p2
    refine kP <| kP ?_
    refine z2 MX rfl ?_
    refine Q23 ?_
    refine zYW ?_
    have ⟨b21, hb21, p2⟩ := bE p2
    refine w8 ((zC (lq rfl) rfl).bool (oi hb21)) ?_
    refine q49 (.d fv3) ?_
    refine z58 (.row 3000) ?_
    refine q49 (.d (di v9)) ?_
    have ⟨t25, ht25, p2⟩ := bE p2
    refine dat (.wp 3000 (v9.toNat * eI.size)) rfl (fun hb => by subst hb; exact zEQ (en := eI) (l := r3000) (lq rfl) yF rfl rfl rfl ht25) ?_
    refine dat (.d (di t25)) rfl (fun hb => by subst hb; exact zH7 (en := eI) (l := r3000) (i := v9) (v := t25) (lq rfl) O3 rfl rfl ht25 rfl) ?_
    refine z58 (.row 3000) ?_
    refine q49 (.d (di v9)) ?_
    refine z2Q (.d (di (wi (v9 - 1)))) ?_
    have ⟨t30, ht30, p2⟩ := bE p2
    refine dat (.wp 3000 ((wi (v9 - 1)).toNat * eI.size)) rfl (fun hb => by subst hb; exact zEQ (en := eI) (l := r3000) (lq rfl) yF rfl rfl rfl ht30) ?_
    refine dat (.d (di t30)) rfl (fun hb => by subst hb; exact zH7 (en := eI) (l := r3000) (i := (wi (v9 - 1))) (v := t30) (lq rfl) O3 rfl rfl ht30 rfl) ?_
    have ⟨t32, ht32, p2⟩ := bE p2
    refine dat (.d (di t32)) rfl (fun hb => by subst hb; exact zEJ (lq rfl) rfl rfl (hf3 _ _ _ ht32)) ?_
    refine dat (.d (db (decide (t32 < 0)))) rfl (fun hb => by subst hb; exact zLP (lq rfl) rfl rfl) ?_
    refine Q91 ?_
    refine z6 p2 (fun p2 => ?_) (fun p2 => ?_)
    ·
     refine Q8 ?_
     have ⟨t45, ht45, p2⟩ := bE p2
     have ⟨t49, ht49, p2⟩ := bE p2
     have ⟨t51, ht51, p2⟩ := bE p2
     have ⟨r3000_6x15, hr3000_6x15, p2⟩ := bE p2
     have ⟨t52, ht52, p2⟩ := bE p2
     have ⟨r3000_6x17, hr3000_6x17, p2⟩ := bE p2
     refine tl .normal ⟨[(0, .row 3000), (1, .d (di a1)), (2, .d (di a2)), (3, .d fv3), (8, .d (di v8)), (9, .d (di v9))], [(3000, .win 3 eI.size 0 (eI.all r3000_6x17))]⟩ ?_ ?_
     ·
      refine zCZ MX ?_
      refine zZA ?_
      refine xm 2 ?_
      refine xm 3 ?_
      refine zH8 (i := 4) rfl (lq rfl) rfl rfl rfl rfl rfl rfl ?_
      refine xm 5 ?_
      refine xm 6 ?_
      refine zH8 (i := 7) rfl (lq rfl) rfl rfl rfl rfl rfl rfl ?_
      refine xm 10 ?_
      refine xm 11 ?_
      refine xn [8,12] ?_
      refine q96 yF ht45 ?_ ?_
      ·
       refine xn [9,12] ?_
       refine q73 O3 ht45 ?_ ?_
       ·
        refine xn [12] ?_
        refine q15 yF ht49 ?_
        refine xn [13] ?_
        refine q26 O3 ht49 ?_
        refine xn [14] ?_
        refine q15 yF ht51 ?_
        refine xn [15] ?_
        refine q18 O3 ht51 hr3000_6x15 ?_
        refine xn [16] ?_
        refine q15 yF ht52 ?_
        refine xn [17] ?_
        refine q18 O3 ht52 hr3000_6x17 ?_
        exact ae
       refine q15 yF ht49 ?_
       refine xn [9,13] ?_
       refine q73 O3 ht45 ?_ ?_
       ·
        refine xn [13] ?_
        refine q26 O3 ht49 ?_
        refine xn [14] ?_
        refine q15 yF ht51 ?_
        refine xn [15] ?_
        refine q18 O3 ht51 hr3000_6x15 ?_
        refine xn [16] ?_
        refine q15 yF ht52 ?_
        refine xn [17] ?_
        refine q18 O3 ht52 hr3000_6x17 ?_
        exact ae
       refine q26 O3 ht49 ?_
       refine xn [9] ?_
       refine q26 O3 ht45 ?_
       refine xn [14] ?_
       refine q15 yF ht51 ?_
       refine xn [15] ?_
       refine q18 O3 ht51 hr3000_6x15 ?_
       refine xn [16] ?_
       refine q15 yF ht52 ?_
       refine xn [17] ?_
       refine q18 O3 ht52 hr3000_6x17 ?_
       exact ae
      refine q15 yF ht49 ?_
      refine xn [8,13] ?_
      refine q96 yF ht45 ?_ ?_
      ·
       refine xn [9,13] ?_
       refine q73 O3 ht45 ?_ ?_
       ·
        refine xn [13] ?_
        refine q26 O3 ht49 ?_
        refine xn [14] ?_
        refine q15 yF ht51 ?_
        refine xn [15] ?_
        refine q18 O3 ht51 hr3000_6x15 ?_
        refine xn [16] ?_
        refine q15 yF ht52 ?_
        refine xn [17] ?_
        refine q18 O3 ht52 hr3000_6x17 ?_
        exact ae
       refine q26 O3 ht49 ?_
       refine xn [9] ?_
       refine q26 O3 ht45 ?_
       refine xn [14] ?_
       refine q15 yF ht51 ?_
       refine xn [15] ?_
       refine q18 O3 ht51 hr3000_6x15 ?_
       refine xn [16] ?_
       refine q15 yF ht52 ?_
       refine xn [17] ?_
       refine q18 O3 ht52 hr3000_6x17 ?_
       exact ae
      refine q26 O3 ht49 ?_
      refine xn [8] ?_
      refine q15 yF ht45 ?_
      refine xn [9] ?_
      refine q26 O3 ht45 ?_
      refine xn [14] ?_
      refine q15 yF ht51 ?_
      refine xn [15] ?_
      refine q18 O3 ht51 hr3000_6x15 ?_
      refine xn [16] ?_
      refine q15 yF ht52 ?_
      refine xn [17] ?_
      refine q18 O3 ht52 hr3000_6x17 ?_
      exact ae
     refine Q7 ?_
     refine Q68 ?_
     cases p2
     exact wc
    ·
     refine zG ?_
     cases p2
     intro q; cases q
     exact zI (wc)
   ·
    refine Q11 ?_
    cases p1
    exact wc
  ·
   refine zG ?_
   cases p1
   intro q; cases q
   exact zI (wc)
 ·
  cases h
  exact ⟨rfl, ⟨rfl, trivial⟩⟩
set_option maxHeartbeats 8000000 in
theorem w7 {fv4 : DV} {a0 : (List Int)} {a1 : Int} {a2 : Int} {a3 : Int} {a4 : Int → Int → Option (Int)} (hf4 : ∀ x0 x1 y, a4 x0 x1 = some y → FnC Tryz.prog fv4 [(di x0), (di x1)] [(di y)]) {r : (List Int)} (h : yX a0 a1 a2 a3 a4 = some r) : GC Tryz.prog 144 [.row 3000, .d (di a1), .d (di a2), .d (di a3), .d fv4] [(3000, .win 3 eI.size 0 (eI.all a0))] [3000] [] [(3000, .win 3 eI.size 0 (eI.all r))] := by
 refine zCN Tryz.func144 (by kernel_rfl) rfl (lq rfl) (lq rfl) fun w0 I0 hG0 p0 => ?_
 unfold yX at h
 refine Q14 ?_
 have ⟨y1, hy1, h⟩ := bE h
 refine tl (.exit 0) ⟨[(0, .row 3000)], [(3000, .win 3 eI.size 0 (eI.all y1))]⟩ ?_ ?_
 ·
  refine zD (fun x => ⟨[(0, .row 3000), (1, .d (di a1)), (2, .d (di a2)), (3, .d (di a3)), (10, .d (di x.1))], [(3000, .win 3 eI.size 0 (eI.all x.2))]⟩) hy1 (wc) ?_
  rintro ⟨v10, r3000⟩ sy1 p1
  replace p1 : yL a3 a2 a1 v10 r3000 = some sy1 := p1
  unfold yL at p1
  refine Q67 ?_
  refine z6 p1 (fun p1 => ?_) (fun p1 => ?_)
  ·
   refine Q8 ?_
   have ⟨t28, ht28, p1⟩ := bE p1
   have ⟨t34, ht34, p1⟩ := bE p1
   have ⟨t36, ht36, p1⟩ := bE p1
   have ⟨r3000_3x21, hr3000_3x21, p1⟩ := bE p1
   have ⟨t37, ht37, p1⟩ := bE p1
   have ⟨r3000_3x23, hr3000_3x23, p1⟩ := bE p1
   refine tl .normal ⟨[(0, .row 3000), (1, .d (di a1)), (2, .d (di a2)), (3, .d (di a3)), (10, .d (di v10))], [(3000, .win 3 eI.size 0 (eI.all r3000_3x23))]⟩ ?_ ?_
   ·
    refine zCZ MX ?_
    refine zZA ?_
    refine xm 2 ?_
    refine zJ4 (i := 3) rfl (lq rfl) rfl rfl rfl rfl rfl rfl ?_
    refine xm 4 ?_
    refine xm 5 ?_
    refine xm 6 ?_
    refine zJ4 (i := 7) rfl (lq rfl) rfl rfl rfl rfl rfl rfl ?_
    refine xm 8 ?_
    refine xm 9 ?_
    refine xm 10 ?_
    refine zJ4 (i := 11) rfl (lq rfl) rfl rfl rfl rfl rfl rfl ?_
    refine xm 14 ?_
    refine xm 15 ?_
    refine xm 16 ?_
    refine zJ4 (i := 17) rfl (lq rfl) rfl rfl rfl rfl rfl rfl ?_
    refine xn [12,18] ?_
    refine q96 yF ht28 ?_ ?_
    ·
     refine xn [13,18] ?_
     refine q73 O3 ht28 ?_ ?_
     ·
      refine xn [18] ?_
      refine q15 yF ht34 ?_
      refine xn [19] ?_
      refine q26 O3 ht34 ?_
      refine xn [20] ?_
      refine q15 yF ht36 ?_
      refine xn [21] ?_
      refine q18 O3 ht36 hr3000_3x21 ?_
      refine xn [22] ?_
      refine q15 yF ht37 ?_
      refine xn [23] ?_
      refine q18 O3 ht37 hr3000_3x23 ?_
      exact ae
     refine q15 yF ht34 ?_
     refine xn [13,19] ?_
     refine q73 O3 ht28 ?_ ?_
     ·
      refine xn [19] ?_
      refine q26 O3 ht34 ?_
      refine xn [20] ?_
      refine q15 yF ht36 ?_
      refine xn [21] ?_
      refine q18 O3 ht36 hr3000_3x21 ?_
      refine xn [22] ?_
      refine q15 yF ht37 ?_
      refine xn [23] ?_
      refine q18 O3 ht37 hr3000_3x23 ?_
      exact ae
     refine q26 O3 ht34 ?_
     refine xn [13] ?_
     refine q26 O3 ht28 ?_
     refine xn [20] ?_
     refine q15 yF ht36 ?_
     refine xn [21] ?_
     refine q18 O3 ht36 hr3000_3x21 ?_
     refine xn [22] ?_
     refine q15 yF ht37 ?_
     refine xn [23] ?_
     refine q18 O3 ht37 hr3000_3x23 ?_
     exact ae
    refine q15 yF ht34 ?_
    refine xn [12,19] ?_
    refine q96 yF ht28 ?_ ?_
    ·
     refine xn [13,19] ?_
     refine q73 O3 ht28 ?_ ?_
     ·
      refine xn [19] ?_
      refine q26 O3 ht34 ?_
      refine xn [20] ?_
      refine q15 yF ht36 ?_
      refine xn [21] ?_
      refine q18 O3 ht36 hr3000_3x21 ?_
      refine xn [22] ?_
      refine q15 yF ht37 ?_
      refine xn [23] ?_
      refine q18 O3 ht37 hr3000_3x23 ?_
      exact ae
     refine q26 O3 ht34 ?_
     refine xn [13] ?_
     refine q26 O3 ht28 ?_
     refine xn [20] ?_
     refine q15 yF ht36 ?_
     refine xn [21] ?_
     refine q18 O3 ht36 hr3000_3x21 ?_
     refine xn [22] ?_
     refine q15 yF ht37 ?_
     refine xn [23] ?_
     refine q18 O3 ht37 hr3000_3x23 ?_
     exact ae
    refine q26 O3 ht34 ?_
    refine xn [12] ?_
    refine q15 yF ht28 ?_
    refine xn [13] ?_
    refine q26 O3 ht28 ?_
    refine xn [20] ?_
    refine q15 yF ht36 ?_
    refine xn [21] ?_
    refine q18 O3 ht36 hr3000_3x21 ?_
    refine xn [22] ?_
    refine q15 yF ht37 ?_
    refine xn [23] ?_
    refine q18 O3 ht37 hr3000_3x23 ?_
    exact ae
   refine Q11 ?_
   cases p1
   exact wc
  ·
   refine zG ?_
   cases p1
   intro q; cases q
   exact zI (wc)
 ·
  cases h
  exact ⟨rfl, ⟨rfl, trivial⟩⟩
theorem zF9 {fv4 : DV} {a0 : (List Int)} {a1 : Int} {a2 : Int} {a3 : Int} {a4 : Int → Int → Option (Int)} (hf4 : ∀ x0 x1 y, a4 x0 x1 = some y → FnC Tryz.prog fv4 [(di x0), (di x1)] [(di y)]) {r : (List Int)} (h : jN a0 a1 a2 a3 a4 = some r) : GC Tryz.prog 133 [.row 3000, .d (di a1), .d (di a2), .d (di a3), .d fv4] [(3000, .win 3 eI.size 0 (eI.all a0))] [3000] [] [(3000, .win 3 eI.size 0 (eI.all r))] := by
 refine zCN Tryz.func133 (by kernel_rfl) rfl (lq rfl) (lq rfl) fun w0 I0 hG0 p0 => ?_
 unfold jN at h
 refine Q13 ?_
 refine Q68 ?_
 refine Q13 ?_
 refine q31 ?_
 refine Q69 ?_
 have ⟨y1, hy1, h⟩ := bE h
 refine tl (.exit 0) ⟨[(0, .row 3000), (2, .d (di a2)), (4, .d fv4), (10, .d (di y1.1))], [(3000, .win 3 eI.size 0 (eI.all y1.2))]⟩ ?_ ?_
 ·
  refine zD (fun x => ⟨[(0, .row 3000), (2, .d (di a2)), (4, .d fv4), (10, .d (di x.1)), (11, .d (di x.2.1))], [(3000, .win 3 eI.size 0 (eI.all x.2.2))]⟩) hy1 (wc) ?_
  rintro ⟨v10, v11, r3000⟩ sy1 p1
  replace p1 : yD a2 a4 v10 v11 r3000 = some sy1 := p1
  unfold yD at p1
  refine Q10 ?_
  refine Q40 ?_
  refine z6 p1 (fun p1 => ?_) (fun p1 => ?_)
  ·
   refine zP ?_
   have ⟨y2, hy2, p1⟩ := bE p1
   refine tl .normal ⟨[(0, .row 3000), (2, .d (di a2)), (4, .d fv4), (10, .d (di y2.1)), (11, .d (di y2.2.1))], [(3000, .win 3 eI.size 0 (eI.all y2.2.2))]⟩ ?_ ?_
   ·
    refine Q74 ?_
    refine Q60 ?_
    refine z6 hy2 (fun hy2 => ?_) (fun hy2 => ?_)
    ·
     refine Q80 ?_
     refine q31 ?_
     refine Q65 ?_
     refine q0 ?_
     have ⟨t31, ht31, hy2⟩ := bE hy2
     refine yW rfl (zCF [(3000, 3000)] (w7 hf4 ht31) (lq rfl) (by decide) ⟨rfl, rfl, rfl, rfl, rfl, trivial⟩ rfl rfl ⟨rfl, trivial⟩ rfl rfl rfl rfl) ?_
     refine zJ <| Q94 ?_
     refine Q68 ?_
     cases hy2
     exact zI (wc)
    ·
     refine Q80 ?_
     refine q31 ?_
     refine Q65 ?_
     refine q2 ?_
     refine q0 ?_
     refine q31 ?_
     refine Q65 ?_
     have ⟨t46, ht46, hy2⟩ := bE hy2
     refine yW rfl (zCF [(3000, 3000)] (w7 hf4 ht46) (lq rfl) (by decide) ⟨rfl, rfl, rfl, rfl, rfl, trivial⟩ rfl rfl ⟨rfl, trivial⟩ rfl rfl rfl rfl) ?_
     refine zJ <| Q94 ?_
     refine Q68 ?_
     cases hy2
     exact zI (wc)
   ·
    cases p1
    exact wc
  ·
   refine zG ?_
   cases p1
   intro q; cases q
   exact zI (wc)
 ·
  refine Q76 ?_
  refine q31 ?_
  refine Q65 ?_
  refine q0 ?_
  have ⟨t57, ht57, h⟩ := bE h
  refine yW rfl (zCF [(3000, 3000)] (w7 hf4 ht57) (lq rfl) (by decide) ⟨rfl, rfl, rfl, rfl, rfl, trivial⟩ rfl rfl ⟨rfl, trivial⟩ rfl rfl rfl rfl) ?_
  refine zJ ?_
  cases h
  exact ⟨rfl, ⟨rfl, trivial⟩⟩
set_option maxHeartbeats 8000000 in
theorem zBQ : ∀ (n : Nat) {fv4 : DV} {a0 : (List Int)} {a1 : Int} {a2 : Int} {a3 : Int} {a4 : Int → Int → Option (Int)} (hf4 : ∀ x0 x1 y, a4 x0 x1 = some y → FnC Tryz.prog fv4 [(di x0), (di x1)] [(di y)]) {r : (List Int)} (h : yU n a0 a1 a2 a3 a4 = some r), GC Tryz.prog 128 [.row 3000, .d (di a1), .d (di a2), .d (di a3), .d fv4] [(3000, .win 3 eI.size 0 (eI.all a0))] [3000] [] [(3000, .win 3 eI.size 0 (eI.all r))] := by
 intro n
 induction n with
 | zero => intro fv4 a0 a1 a2 a3 a4 hf4 r h; cases h
 | succ n ih =>
 intro fv4 a0 a1 a2 a3 a4 hf4 r h
 replace h : yC (yU n) a0 a1 a2 a3 a4 = some r := h
 generalize yU n = rec at h ih
 refine zCN Tryz.func128 (by kernel_rfl) rfl (lq rfl) (lq rfl) fun w0 I0 hG0 p0 => ?_
 unfold yC at h
 refine Q10 ?_
 refine q31 ?_
 refine Q86 ?_
 refine z6 h (fun h => ?_) (fun h => ?_)
 ·
  refine Q2 ?_
  refine Q22 ?_
  refine Q69 ?_
  have ⟨y1, hy1, h⟩ := bE h
  refine tl (.exit 0) ⟨[(0, .row 3000), (1, .d (di a1)), (10, .d (di y1))], [(3000, .win 3 eI.size 0 (eI.all a0))]⟩ ?_ ?_
  ·
   refine zD (fun x => ⟨[(0, .row 3000), (1, .d (di a1)), (4, .d fv4), (10, .d (di x.1)), (11, .d (di x.2))], [(3000, .win 3 eI.size 0 (eI.all a0))]⟩) hy1 (wc) ?_
   rintro ⟨v10, v11⟩ sy1 p1
   replace p1 : yN a0 a1 a4 v10 v11 = some sy1 := p1
   unfold yN at p1
   refine Q67 ?_
   refine z6 p1 (fun p1 => ?_) (fun p1 => ?_)
   ·
    refine zP ?_
    have ⟨y2, hy2, p1⟩ := bE p1
    refine tl .normal ⟨[(0, .row 3000), (1, .d (di a1)), (4, .d fv4), (10, .d (di y2.1)), (11, .d (di y2.2))], [(3000, .win 3 eI.size 0 (eI.all a0))]⟩ ?_ ?_
    ·
     refine Q74 ?_
     refine zZG ?_
     refine Q15 ?_
     refine z2 MX rfl ?_
     refine q4 ?_
     refine zWU ?_
     have ⟨t43, ht43, hy2⟩ := bE hy2
     refine z2Z yF ht43 ?_
     refine z20 O3 ht43 ?_
     refine zWU ?_
     have ⟨t47, ht47, hy2⟩ := bE hy2
     refine z2Z yF ht47 ?_
     refine z20 O3 ht47 ?_
     have ⟨t49, ht49, hy2⟩ := bE hy2
     refine w8 (zEJ (lq rfl) rfl rfl (hf4 _ _ _ ht49)) ?_
     refine z2X ?_
     refine wB ?_
     refine z6 hy2 (fun hy2 => ?_) (fun hy2 => ?_)
     ·
      refine Q11 ?_
      cases hy2
      exact zI (wc)
     ·
      refine Q77 ?_
      cases hy2
      exact zI (wc)
    ·
     cases p1
     exact wc
   ·
    refine zG ?_
    cases p1
    intro q; cases q
    exact zI (wc)
  ·
   refine Q4 ?_
   refine Q1 ?_
   refine kB ?_
   have ⟨y3, hy3, h⟩ := bE h
   refine tl (.exit 2) ⟨[(0, .row 3000)], [(3000, .win 3 eI.size 0 (eI.all y3))]⟩ ?_ ?_
   ·
    refine zD (fun x => ⟨[(0, .row 3000), (10, .d (di y1)), (13, .d (di x.1))], [(3000, .win 3 eI.size 0 (eI.all x.2))]⟩) hy3 (wc) ?_
    rintro ⟨v13, r3000⟩ sy3 p3
    replace p3 : yO y1 v13 r3000 = some sy3 := p3
    unfold yO at p3
    refine Q10 ?_
    refine q31 ?_
    refine Q6 ?_
    refine z6 p3 (fun p3 => ?_) (fun p3 => ?_)
    ·
     refine Q8 ?_
     have ⟨t69, ht69, p3⟩ := bE p3
     have ⟨t73, ht73, p3⟩ := bE p3
     have ⟨t75, ht75, p3⟩ := bE p3
     have ⟨r3000_11x15, hr3000_11x15, p3⟩ := bE p3
     have ⟨t76, ht76, p3⟩ := bE p3
     have ⟨r3000_11x17, hr3000_11x17, p3⟩ := bE p3
     refine tl .normal ⟨[(0, .row 3000), (10, .d (di y1)), (13, .d (di v13))], [(3000, .win 3 eI.size 0 (eI.all r3000_11x17))]⟩ ?_ ?_
     ·
      refine zCZ MX ?_
      refine zZA ?_
      refine xm 2 ?_
      refine xm 3 ?_
      refine zJ4 (i := 4) rfl (lq rfl) rfl rfl rfl rfl rfl rfl ?_
      refine xm 5 ?_
      refine xm 6 ?_
      refine zJ4 (i := 7) rfl (lq rfl) rfl rfl rfl rfl rfl rfl ?_
      refine xm 10 ?_
      refine xm 11 ?_
      refine xn [8,12] ?_
      refine q96 yF ht69 ?_ ?_
      ·
       refine xn [9,12] ?_
       refine q73 O3 ht69 ?_ ?_
       ·
        refine xn [12] ?_
        refine q15 yF ht73 ?_
        refine xn [13] ?_
        refine q26 O3 ht73 ?_
        refine xn [14] ?_
        refine q15 yF ht75 ?_
        refine xn [15] ?_
        refine q18 O3 ht75 hr3000_11x15 ?_
        refine xn [16] ?_
        refine q15 yF ht76 ?_
        refine xn [17] ?_
        refine q18 O3 ht76 hr3000_11x17 ?_
        exact ae
       refine q15 yF ht73 ?_
       refine xn [9,13] ?_
       refine q73 O3 ht69 ?_ ?_
       ·
        refine xn [13] ?_
        refine q26 O3 ht73 ?_
        refine xn [14] ?_
        refine q15 yF ht75 ?_
        refine xn [15] ?_
        refine q18 O3 ht75 hr3000_11x15 ?_
        refine xn [16] ?_
        refine q15 yF ht76 ?_
        refine xn [17] ?_
        refine q18 O3 ht76 hr3000_11x17 ?_
        exact ae
       refine q26 O3 ht73 ?_
       refine xn [9] ?_
       refine q26 O3 ht69 ?_
       refine xn [14] ?_
       refine q15 yF ht75 ?_
       refine xn [15] ?_
       refine q18 O3 ht75 hr3000_11x15 ?_
       refine xn [16] ?_
       refine q15 yF ht76 ?_
       refine xn [17] ?_
       refine q18 O3 ht76 hr3000_11x17 ?_
       exact ae
      refine q15 yF ht73 ?_
      refine xn [8,13] ?_
      refine q96 yF ht69 ?_ ?_
      ·
       refine xn [9,13] ?_
       refine q73 O3 ht69 ?_ ?_
       ·
        refine xn [13] ?_
        refine q26 O3 ht73 ?_
        refine xn [14] ?_
        refine q15 yF ht75 ?_
        refine xn [15] ?_
        refine q18 O3 ht75 hr3000_11x15 ?_
        refine xn [16] ?_
        refine q15 yF ht76 ?_
        refine xn [17] ?_
        refine q18 O3 ht76 hr3000_11x17 ?_
        exact ae
       refine q26 O3 ht73 ?_
       refine xn [9] ?_
       refine q26 O3 ht69 ?_
       refine xn [14] ?_
       refine q15 yF ht75 ?_
       refine xn [15] ?_
       refine q18 O3 ht75 hr3000_11x15 ?_
       refine xn [16] ?_
       refine q15 yF ht76 ?_
       refine xn [17] ?_
       refine q18 O3 ht76 hr3000_11x17 ?_
       exact ae
      refine q26 O3 ht73 ?_
      refine xn [8] ?_
      refine q15 yF ht69 ?_
      refine xn [9] ?_
      refine q26 O3 ht69 ?_
      refine xn [14] ?_
      refine q15 yF ht75 ?_
      refine xn [15] ?_
      refine q18 O3 ht75 hr3000_11x15 ?_
      refine xn [16] ?_
      refine q15 yF ht76 ?_
      refine xn [17] ?_
      refine q18 O3 ht76 hr3000_11x17 ?_
      exact ae
     refine Q11 ?_
     cases p3
     exact wc
    ·
     refine zG ?_
     cases p3
     intro q; cases q
     exact zI (wc)
   ·
    cases h
    refine zB ?_
    exact ⟨rfl, ⟨rfl, trivial⟩⟩
 ·
  refine zP <| Q10 ?_
  refine q31 ?_
  refine Q86 ?_
  refine z6 h (fun h => ?_) (fun h => ?_)
  ·
   refine Q2 ?_
   refine Q22 ?_
   refine Q69 ?_
   have ⟨y4, hy4, h⟩ := bE h
   refine tl (.exit 4) ⟨[(0, .row 3000), (2, .d (di a2)), (14, .d (di y4))], [(3000, .win 3 eI.size 0 (eI.all a0))]⟩ ?_ ?_
   ·
    refine zD (fun x => ⟨[(0, .row 3000), (2, .d (di a2)), (4, .d fv4), (14, .d (di x.1)), (15, .d (di x.2))], [(3000, .win 3 eI.size 0 (eI.all a0))]⟩) hy4 (wc) ?_
    rintro ⟨v14, v15⟩ sy4 p4
    replace p4 : yP a0 a2 a4 v14 v15 = some sy4 := p4
    unfold yP at p4
    refine Q67 ?_
    refine z6 p4 (fun p4 => ?_) (fun p4 => ?_)
    ·
     refine zP ?_
     have ⟨y5, hy5, p4⟩ := bE p4
     refine tl .normal ⟨[(0, .row 3000), (2, .d (di a2)), (4, .d fv4), (14, .d (di y5.1)), (15, .d (di y5.2))], [(3000, .win 3 eI.size 0 (eI.all a0))]⟩ ?_ ?_
     ·
      refine Q74 ?_
      refine zZG ?_
      refine Q15 ?_
      refine z2 MX rfl ?_
      refine q4 ?_
      refine zWU ?_
      have ⟨t95, ht95, hy5⟩ := bE hy5
      refine z2Z yF ht95 ?_
      refine z20 O3 ht95 ?_
      refine zWU ?_
      have ⟨t99, ht99, hy5⟩ := bE hy5
      refine z2Z yF ht99 ?_
      refine z20 O3 ht99 ?_
      have ⟨t101, ht101, hy5⟩ := bE hy5
      refine w8 (zEJ (lq rfl) rfl rfl (hf4 _ _ _ ht101)) ?_
      refine z2X ?_
      refine z9H ?_
      refine wB ?_
      refine z6 hy5 (fun hy5 => ?_) (fun hy5 => ?_)
      ·
       refine Q11 ?_
       cases hy5
       exact zI (wc)
      ·
       refine Q77 ?_
       cases hy5
       exact zI (wc)
     ·
      cases p4
      exact wc
    ·
     refine zG ?_
     cases p4
     intro q; cases q
     exact zI (wc)
   ·
    refine Q4 ?_
    refine Q1 ?_
    refine kB ?_
    have ⟨y6, hy6, h⟩ := bE h
    refine tl (.exit 6) ⟨[(0, .row 3000)], [(3000, .win 3 eI.size 0 (eI.all y6))]⟩ ?_ ?_
    ·
     refine zD (fun x => ⟨[(0, .row 3000), (14, .d (di y4)), (17, .d (di x.1))], [(3000, .win 3 eI.size 0 (eI.all x.2))]⟩) hy6 (wc) ?_
     rintro ⟨v17, r3000⟩ sy6 p6
     replace p6 : yQ y4 v17 r3000 = some sy6 := p6
     unfold yQ at p6
     refine Q10 ?_
     refine Q60 ?_
     refine z6 p6 (fun p6 => ?_) (fun p6 => ?_)
     ·
      refine Q8 ?_
      have ⟨t121, ht121, p6⟩ := bE p6
      have ⟨t125, ht125, p6⟩ := bE p6
      have ⟨t127, ht127, p6⟩ := bE p6
      have ⟨r3000_23x15, hr3000_23x15, p6⟩ := bE p6
      have ⟨t128, ht128, p6⟩ := bE p6
      have ⟨r3000_23x17, hr3000_23x17, p6⟩ := bE p6
      refine tl .normal ⟨[(0, .row 3000), (14, .d (di y4)), (17, .d (di v17))], [(3000, .win 3 eI.size 0 (eI.all r3000_23x17))]⟩ ?_ ?_
      ·
       refine zCZ MX ?_
       refine zZA ?_
       refine xm 2 ?_
       refine xm 3 ?_
       refine zH8 (i := 4) rfl (lq rfl) rfl rfl rfl rfl rfl rfl ?_
       refine xm 5 ?_
       refine xm 6 ?_
       refine zH8 (i := 7) rfl (lq rfl) rfl rfl rfl rfl rfl rfl ?_
       refine xm 10 ?_
       refine xm 11 ?_
       refine xn [8,12] ?_
       refine q96 yF ht121 ?_ ?_
       ·
        refine xn [9,12] ?_
        refine q73 O3 ht121 ?_ ?_
        ·
         refine xn [12] ?_
         refine q15 yF ht125 ?_
         refine xn [13] ?_
         refine q26 O3 ht125 ?_
         refine xn [14] ?_
         refine q15 yF ht127 ?_
         refine xn [15] ?_
         refine q18 O3 ht127 hr3000_23x15 ?_
         refine xn [16] ?_
         refine q15 yF ht128 ?_
         refine xn [17] ?_
         refine q18 O3 ht128 hr3000_23x17 ?_
         exact ae
        refine q15 yF ht125 ?_
        refine xn [9,13] ?_
        refine q73 O3 ht121 ?_ ?_
        ·
         refine xn [13] ?_
         refine q26 O3 ht125 ?_
         refine xn [14] ?_
         refine q15 yF ht127 ?_
         refine xn [15] ?_
         refine q18 O3 ht127 hr3000_23x15 ?_
         refine xn [16] ?_
         refine q15 yF ht128 ?_
         refine xn [17] ?_
         refine q18 O3 ht128 hr3000_23x17 ?_
         exact ae
        refine q26 O3 ht125 ?_
        refine xn [9] ?_
        refine q26 O3 ht121 ?_
        refine xn [14] ?_
        refine q15 yF ht127 ?_
        refine xn [15] ?_
        refine q18 O3 ht127 hr3000_23x15 ?_
        refine xn [16] ?_
        refine q15 yF ht128 ?_
        refine xn [17] ?_
        refine q18 O3 ht128 hr3000_23x17 ?_
        exact ae
       refine q15 yF ht125 ?_
       refine xn [8,13] ?_
       refine q96 yF ht121 ?_ ?_
       ·
        refine xn [9,13] ?_
        refine q73 O3 ht121 ?_ ?_
        ·
         refine xn [13] ?_
         refine q26 O3 ht125 ?_
         refine xn [14] ?_
         refine q15 yF ht127 ?_
         refine xn [15] ?_
         refine q18 O3 ht127 hr3000_23x15 ?_
         refine xn [16] ?_
         refine q15 yF ht128 ?_
         refine xn [17] ?_
         refine q18 O3 ht128 hr3000_23x17 ?_
         exact ae
        refine q26 O3 ht125 ?_
        refine xn [9] ?_
        refine q26 O3 ht121 ?_
        refine xn [14] ?_
        refine q15 yF ht127 ?_
        refine xn [15] ?_
        refine q18 O3 ht127 hr3000_23x15 ?_
        refine xn [16] ?_
        refine q15 yF ht128 ?_
        refine xn [17] ?_
        refine q18 O3 ht128 hr3000_23x17 ?_
        exact ae
       refine q26 O3 ht125 ?_
       refine xn [8] ?_
       refine q15 yF ht121 ?_
       refine xn [9] ?_
       refine q26 O3 ht121 ?_
       refine xn [14] ?_
       refine q15 yF ht127 ?_
       refine xn [15] ?_
       refine q18 O3 ht127 hr3000_23x15 ?_
       refine xn [16] ?_
       refine q15 yF ht128 ?_
       refine xn [17] ?_
       refine q18 O3 ht128 hr3000_23x17 ?_
       exact ae
      refine Q7 ?_
      refine Q68 ?_
      cases p6
      exact wc
     ·
      refine zG ?_
      cases p6
      intro q; cases q
      exact zI (wc)
    ·
     cases h
     refine zB ?_
     exact ⟨rfl, ⟨rfl, trivial⟩⟩
  ·
   refine zP <| Q13 ?_
   refine zZG ?_
   refine Q1 ?_
   refine Q13 ?_
   refine Q9 ?_
   refine Q0 ?_
   refine Q34 ?_
   refine Q10 ?_
   refine Q60 ?_
   have ⟨y7, hy7, h⟩ := bE h
   refine tl .normal ⟨[(0, .row 3000), (1, .d (di a1)), (2, .d (di a2)), (3, .d (di a3)), (4, .d fv4), (18, .d (di (wi ((wu (wi (a1 + a3))) / 2 ^ 1)))), (19, .d (di (wi ((wi ((wu (wi (a1 + a3))) / 2 ^ 1)) + a2)))), (20, .d (di y7.1)), (21, .d (di y7.2))], [(3000, .win 3 eI.size 0 (eI.all a0))]⟩ ?_ ?_
   ·
    refine z6 hy7 (fun hy7 => ?_) (fun hy7 => ?_)
    ·
     refine Q13 ?_
     refine Q68 ?_
     refine Q77 ?_
     cases hy7
     exact zI (wc)
    ·
     refine Q35 ?_
     refine Q77 ?_
     cases hy7
     exact zI (wc)
   ·
    refine Q2 ?_
    refine q31 ?_
    refine Q69 ?_
    have ⟨y8, hy8, h⟩ := bE h
    refine tl (.exit 8) ⟨[(0, .row 3000), (1, .d (di a1)), (2, .d (di a2)), (3, .d (di a3)), (4, .d fv4), (18, .d (di (wi ((wu (wi (a1 + a3))) / 2 ^ 1)))), (19, .d (di (wi ((wi ((wu (wi (a1 + a3))) / 2 ^ 1)) + a2)))), (20, .d (di y8))], [(3000, .win 3 eI.size 0 (eI.all a0))]⟩ ?_ ?_
    ·
     refine zD (fun x => ⟨[(0, .row 3000), (1, .d (di a1)), (2, .d (di a2)), (3, .d (di a3)), (4, .d fv4), (18, .d (di (wi ((wu (wi (a1 + a3))) / 2 ^ 1)))), (19, .d (di (wi ((wi ((wu (wi (a1 + a3))) / 2 ^ 1)) + a2)))), (20, .d (di x.1)), (21, .d (di x.2)), (22, .d (di (wi ((wi ((wi ((wu (wi (a1 + a3))) / 2 ^ 1)) + a2)) - 1))))], [(3000, .win 3 eI.size 0 (eI.all a0))]⟩) hy8 (wc) ?_
     rintro ⟨v20, v21⟩ sy8 p8
     replace p8 : yR a0 a1 a3 a2 a4 v20 v21 = some sy8 := p8
     unfold yR at p8
     refine Q67 ?_
     refine z6 p8 (fun p8 => ?_) (fun p8 => ?_)
     ·
      refine zP ?_
      have ⟨y9, hy9, p8⟩ := bE p8
      refine tl .normal ⟨[(0, .row 3000), (1, .d (di a1)), (2, .d (di a2)), (3, .d (di a3)), (4, .d fv4), (18, .d (di (wi ((wu (wi (a1 + a3))) / 2 ^ 1)))), (19, .d (di (wi ((wi ((wu (wi (a1 + a3))) / 2 ^ 1)) + a2)))), (20, .d (di y9.1)), (21, .d (di y9.2)), (22, .d (di (wi ((wi ((wi ((wu (wi (a1 + a3))) / 2 ^ 1)) + a2)) - 1))))], [(3000, .win 3 eI.size 0 (eI.all a0))]⟩ ?_ ?_
      ·
       refine Q74 ?_
       refine zZG ?_
       refine Q15 ?_
       refine z2 MX rfl ?_
       refine q4 ?_
       refine q77 ?_
       refine Q23 ?_
       refine q92 ?_
       have ⟨t163, ht163, hy9⟩ := bE hy9
       refine z2Z yF ht163 ?_
       refine z20 O3 ht163 ?_
       refine zWU ?_
       have ⟨t167, ht167, hy9⟩ := bE hy9
       refine z2Z yF ht167 ?_
       refine z20 O3 ht167 ?_
       have ⟨t169, ht169, hy9⟩ := bE hy9
       refine w8 (zEJ (lq rfl) rfl rfl (hf4 _ _ _ ht169)) ?_
       refine z2X ?_
       refine z9H ?_
       refine wB ?_
       refine z6 hy9 (fun hy9 => ?_) (fun hy9 => ?_)
       ·
        refine Q11 ?_
        cases hy9
        exact zI (wc)
       ·
        refine Q77 ?_
        cases hy9
        exact zI (wc)
      ·
       cases p8
       exact wc
     ·
      refine zG ?_
      cases p8
      intro q; cases q
      exact zI (wc)
    ·
     refine Q13 ?_
     refine Q68 ?_
     refine Q10 ?_
     refine q3 ?_
     have ⟨b181, hb181, h⟩ := bE h
     refine yH ((zC (lq rfl) rfl).bool (oi hb181)) ?_
     refine q12 (.d (di a2)) ?_
     refine q12 (.d (di (wi ((wi ((wi ((wu (wi (a1 + a3))) / 2 ^ 1)) + a2)) - y8)))) ?_
     refine q69 (.d (db (decide (a2 < (wi ((wi ((wi ((wu (wi (a1 + a3))) / 2 ^ 1)) + a2)) - y8)))))) ?_
     refine Q37 ?_
     have ⟨y10, hy10, h⟩ := bE h
     refine tl .normal ⟨[(0, .row 3000), (1, .d (di a1)), (3, .d (di a3)), (4, .d fv4), (18, .d (di (wi ((wu (wi (a1 + a3))) / 2 ^ 1)))), (20, .d (di y8)), (24, .d (di (wi ((wi ((wi ((wu (wi (a1 + a3))) / 2 ^ 1)) + a2)) - y8))))], [(3000, .win 3 eI.size 0 (eI.all y10))]⟩ ?_ ?_
     ·
      refine z6 hy10 (fun hy10 => ?_) (fun hy10 => ?_)
      ·
       refine Q76 ?_
       refine Q65 ?_
       have ⟨t191, ht191, hy10⟩ := bE hy10
       refine yW rfl (zCF [(3000, 3000)] (zF9 hf4 ht191) (lq rfl) (by decide) ⟨rfl, rfl, rfl, rfl, rfl, trivial⟩ rfl rfl ⟨rfl, trivial⟩ rfl rfl rfl rfl) ?_
       refine zJ ?_
       cases hy10
       exact zI (wc)
      ·
       refine zP ?_
       cases hy10
       exact zI (wc)
     ·
      refine Q10 ?_
      refine q3 ?_
      have ⟨b195, hb195, h⟩ := bE h
      refine yH ((zC (lq rfl) rfl).bool (oi hb195)) ?_
      refine q12 (.d (di y8)) ?_
      refine q12 (.d (di (wi ((wu (wi (a1 + a3))) / 2 ^ 1)))) ?_
      refine q69 (.d (db (decide (y8 < (wi ((wu (wi (a1 + a3))) / 2 ^ 1)))))) ?_
      refine Q37 ?_
      have ⟨y11, hy11, h⟩ := bE h
      refine tl .normal ⟨[(0, .row 3000), (3, .d (di a3)), (4, .d fv4), (18, .d (di (wi ((wu (wi (a1 + a3))) / 2 ^ 1)))), (24, .d (di (wi ((wi ((wi ((wu (wi (a1 + a3))) / 2 ^ 1)) + a2)) - y8))))], [(3000, .win 3 eI.size 0 (eI.all y11))]⟩ ?_ ?_
      ·
       refine z6 hy11 (fun hy11 => ?_) (fun hy11 => ?_)
       ·
        refine Q76 ?_
        refine Q65 ?_
        have ⟨t205, ht205, hy11⟩ := bE hy11
        refine yW rfl (zCF [(3000, 3000)] (ih hf4 ht205) (lq rfl) (by decide) ⟨rfl, rfl, rfl, rfl, rfl, trivial⟩ rfl rfl ⟨rfl, trivial⟩ rfl rfl rfl rfl) ?_
        refine zJ ?_
        cases hy11
        exact zI (wc)
       ·
        refine zP ?_
        cases hy11
        exact zI (wc)
      ·
       refine Q13 ?_
       refine q3 ?_
       have ⟨b209, hb209, h⟩ := bE h
       refine yH ((zC (lq rfl) rfl).bool (oi hb209)) ?_
       refine q12 (.d (di (wi ((wi ((wi ((wu (wi (a1 + a3))) / 2 ^ 1)) + a2)) - y8)))) ?_
       refine q12 (.d (di a3)) ?_
       refine q69 (.d (db (decide ((wi ((wi ((wi ((wu (wi (a1 + a3))) / 2 ^ 1)) + a2)) - y8)) < a3)))) ?_
       refine Q37 ?_
       refine z6 h (fun h => ?_) (fun h => ?_)
       ·
        refine Q76 ?_
        refine Q65 ?_
        have ⟨t219, ht219, h⟩ := bE h
        refine yW rfl (zCF [(3000, 3000)] (ih hf4 ht219) (lq rfl) (by decide) ⟨rfl, rfl, rfl, rfl, rfl, trivial⟩ rfl rfl ⟨rfl, trivial⟩ rfl rfl rfl rfl) ?_
        refine zJ ?_
        cases h
        exact ⟨rfl, ⟨rfl, trivial⟩⟩
       ·
        refine zP ?_
        cases h
        exact ⟨rfl, ⟨rfl, trivial⟩⟩
theorem zGA {fv2 : DV} {a0 : (List Int)} {a1 : Int} {a2 : Int → Int → Option (Int)} (hf2 : ∀ x0 x1 y, a2 x0 x1 = some y → FnC Tryz.prog fv2 [(di x0), (di x1)] [(di y)]) {r : (List Int)} (h : wQ a0 a1 a2 = some r) : GC Tryz.prog 113 [.row 3000, .d (di a1), .d fv2] [(3000, .win 3 eI.size 0 (eI.all a0))] [3000] [] [(3000, .win 3 eI.size 0 (eI.all r))] := by
 refine zCN Tryz.func113 (by kernel_rfl) rfl (lq rfl) (lq rfl) fun w0 I0 hG0 p0 => ?_
 unfold wQ at h
 refine Q57 ?_
 refine q1 ?_
 refine Q69 ?_
 have ⟨y1, hy1, h⟩ := bE h
 refine tl (.exit 0) ⟨[(0, .row 3000), (1, .d (di a1)), (2, .d fv2), (6, .d (di 20)), (7, .d (di y1.1))], [(3000, .win 3 eI.size 0 (eI.all y1.2))]⟩ ?_ ?_
 ·
  refine zD (fun x => ⟨[(0, .row 3000), (1, .d (di a1)), (2, .d fv2), (6, .d (di 20)), (7, .d (di x.1)), (8, .d (di x.2.1))], [(3000, .win 3 eI.size 0 (eI.all x.2.2))]⟩) hy1 (wc) ?_
  rintro ⟨v7, v8, r3000⟩ sy1 p1
  replace p1 : z8 a1 a2 v7 v8 r3000 = some sy1 := p1
  unfold z8 at p1
  refine Q10 ?_
  refine q68 ?_
  refine zJ ?_
  refine z6 p1 (fun p1 => ?_) (fun p1 => ?_)
  ·
   refine zP <| kB <| zZE ?_
   have ⟨t18, ht18, p1⟩ := bE p1
   refine yW rfl (zCF [(3000, 3000)] (uR hf2 ht18) (lq rfl) (by decide) ⟨rfl, rfl, rfl, rfl, trivial⟩ rfl rfl ⟨rfl, trivial⟩ rfl rfl rfl rfl) ?_
   refine zJ <| Q35 ?_
   refine Q94 ?_
   refine Q9 ?_
   cases p1
   exact wc
  ·
   refine zG ?_
   cases p1
   intro q; cases q
   exact zI (wc)
 ·
  refine zZE ?_
  have ⟨t27, ht27, h⟩ := bE h
  refine yW rfl (zCF [(3000, 3000)] (uR hf2 ht27) (lq rfl) (by decide) ⟨rfl, rfl, rfl, rfl, trivial⟩ rfl rfl ⟨rfl, trivial⟩ rfl rfl rfl rfl) ?_
  refine zJ <| kB ?_
  have ⟨y2, hy2, h⟩ := bE h
  refine tl (.exit 2) ⟨[(0, .row 3000)], [(3000, .win 3 eI.size 0 (eI.all y2))]⟩ ?_ ?_
  ·
   refine zD (fun x => ⟨[(0, .row 3000), (1, .d (di a1)), (2, .d fv2), (6, .d (di x.1))], [(3000, .win 3 eI.size 0 (eI.all x.2))]⟩) hy2 (wc) ?_
   rintro ⟨v6, r3000⟩ sy2 p2
   replace p2 : yE a1 a2 v6 r3000 = some sy2 := p2
   unfold yE at p2
   refine Q67 ?_
   refine z6 p2 (fun p2 => ?_) (fun p2 => ?_)
   ·
    refine zP <| zWV ?_
    refine yH (z45 (lq rfl) rfl rfl) ?_
    refine q1 ?_
    refine Q69 ?_
    have ⟨y3, hy3, p2⟩ := bE p2
    refine tl (.exit 4) ⟨[(0, .row 3000), (1, .d (di a1)), (2, .d fv2), (6, .d (di v6)), (7, .d (di y3.1))], [(3000, .win 3 eI.size 0 (eI.all y3.2))]⟩ ?_ ?_
    ·
     refine zD (fun x => ⟨[(0, .row 3000), (1, .d (di a1)), (2, .d fv2), (6, .d (di v6)), (7, .d (di x.1)), (8, .d (di x.2.1))], [(3000, .win 3 eI.size 0 (eI.all x.2.2))]⟩) hy3 (wc) ?_
     rintro ⟨v7, v8, r3000⟩ sy3 p3
     replace p3 : z9 a1 v6 a2 v7 v8 r3000 = some sy3 := p3
     unfold z9 at p3
     refine Q10 ?_
     refine q68 ?_
     refine zJ ?_
     refine z6 p3 (fun p3 => ?_) (fun p3 => ?_)
     ·
      refine zP <| kB <| zZE ?_
      refine q2 ?_
      refine Q65 ?_
      have ⟨t43, ht43, p3⟩ := bE p3
      refine yW rfl (zCF [(3000, 3000)] (zBQ _ hf2 ht43) (lq rfl) (by decide) ⟨rfl, rfl, rfl, rfl, rfl, trivial⟩ rfl rfl ⟨rfl, trivial⟩ rfl rfl rfl rfl) ?_
      refine zJ <| Q35 ?_
      refine Q94 ?_
      refine yH (z45 (lq rfl) rfl rfl) ?_
      refine Q9 ?_
      cases p3
      exact wc
     ·
      refine zG ?_
      cases p3
      intro q; cases q
      exact zI (wc)
    ·
     refine Q10 ?_
     refine Q9 ?_
     refine Q13 ?_
     refine Q6 ?_
     have ⟨y4, hy4, p2⟩ := bE p2
     refine tl .normal ⟨[(0, .row 3000), (1, .d (di a1)), (2, .d fv2), (6, .d (di v6))], [(3000, .win 3 eI.size 0 (eI.all y4))]⟩ ?_ ?_
     ·
      refine z6 hy4 (fun hy4 => ?_) (fun hy4 => ?_)
      ·
       refine Q76 ?_
       refine Q65 ?_
       have ⟨t60, ht60, hy4⟩ := bE hy4
       refine yW rfl (zCF [(3000, 3000)] (zBQ _ hf2 ht60) (lq rfl) (by decide) ⟨rfl, rfl, rfl, rfl, rfl, trivial⟩ rfl rfl ⟨rfl, trivial⟩ rfl rfl rfl rfl) ?_
       refine zJ ?_
       cases hy4
       exact zI (wc)
      ·
       refine zP ?_
       cases hy4
       exact zI (wc)
     ·
      refine Q7 ?_
      refine yH (z45 (lq rfl) rfl rfl) ?_
      refine Q1 ?_
      cases p2
      exact wc
   ·
    refine zG ?_
    cases p2
    intro q; cases q
    exact zI (wc)
  ·
   cases h
   exact ⟨rfl, ⟨rfl, trivial⟩⟩
theorem zDW {fv1 : DV} {a0 : (List Int)} {a1 : Int → Int → Option (Int)} (hf1 : ∀ x0 x1 y, a1 x0 x1 = some y → FnC Tryz.prog fv1 [(di x0), (di x1)] [(di y)]) {r : (List Int)} (h : kD a0 a1 = some r) : GC Tryz.prog 95 [.row 3000, .d fv1] [(3000, .win 3 eI.size 0 (eI.all a0))] [3000] [] [(3000, .win 3 eI.size 0 (eI.all r))] := by
 refine zCN Tryz.func95 (by kernel_rfl) rfl (lq rfl) (lq rfl) fun w0 I0 hG0 p0 => ?_
 unfold kD at h
 refine Q84 ?_
 refine q11 ?_
 refine z6E yF ?_
 refine q0 ?_
 have ⟨t8, ht8, h⟩ := bE h
 refine yW rfl (zCF [(3000, 3000)] (zGA hf1 ht8) (lq rfl) (by decide) ⟨rfl, rfl, rfl, trivial⟩ rfl rfl ⟨rfl, trivial⟩ rfl rfl rfl rfl) ?_
 refine zJ ?_
 cases h
 exact ⟨rfl, ⟨rfl, trivial⟩⟩
theorem zON {a0 : List Span} {a1 r : List Int} (h : zAH a0 a1 = some r) : GC Tryz.prog 68 [.d (zR eSpan a0), .d (zR eI a1)] [] [] [.row 100] [(100, .row 3 eI.size false (eI.all r))] := by
 unfold zAH at h
 have ⟨t8, ht8, h'⟩ := bE h; clear h
 have ⟨t10, ht10, h⟩ := bE h'; clear h'
 have ⟨t13, ht13, h'⟩ := bE h; clear h
 refine zCN Tryz.func68 (by kernel_rfl) rfl (lq rfl) (lq rfl) fun w0 I0 hG0 p0 => ?_
 refine Q0 ?_
 refine yW rfl (zZ0 (lq rfl) rfl rfl rfl) ?_
 refine Q47 ?_
 refine q40 O22 ?_
 refine q6 (zG1 ht8) ?_
 refine zYY O22 ?_
 refine zJ ?_
 refine zQ (zW (t := 2) (lq rfl) rfl rfl rfl) ?_
 refine Q2 ?_
 refine yW rfl (jO [(5, 100)] (zDQ ht10) (lq rfl) (by decide) ⟨rfl, trivial⟩ rfl rfl trivial rfl rfl rfl (fun _ => rfl) rfl) ?_
 refine z2T ?_
 refine z6A O33 ?_
 refine zJ <| Q32 ?_
 refine zY1 O22 ?_
 refine q0 ?_
 refine q6 zIQ ?_
 refine zJ <| kB ?_
 refine zR9 [(5, .ptr 5 0), (2, .d (.pt [zR eSpan t8])), (4, .d (.v (.slice none 0 0)))] [5] (fun k => [(5, .box 33 [.row 100]), (100, .row 3 eI.size false (eI.all (outK (fun p => kD p (fun x0 x1 => xW x0 x1 t8)) Range.Lo Range.Hi t10 (jR (fun c => kK t8 c == some 0) a1 0 (-1)) k)))]) rfl (zG2 ht13) rfl (fun _ _ _ _ h => h) ?hk ?hT rfl (fun _ => rfl) ?hbx (fun _ _ => rfl) ?hl ?hpn ?rd ?hK
 case hk => exact ⟨rfl, rfl, rfl, trivial⟩
 case hT => exact ⟨rfl, rfl, trivial⟩
 case hbx => intro k id hi; simp at hi; subst hi; exact fun (h : Blk.box _ _ = Blk.none) => by cases h
 case hl => intro x hx; obtain ⟨y, _, rfl⟩ := List.mem_map.1 hx; rfl
 case hpn => intro p hp; simp at hp; subst hp; exact (lq rfl)
 case rd =>
  intro w1 Iall X C0 ρ0 defs l1 D lp1 lp2 hok k x hx
  rw [List.getElem?_map] at hx
  obtain ⟨v, hv, rfl⟩ := Option.map_eq_some_iff.1 hx
  have hst := z2L h' hv
  obtain ⟨q0, q1, q2⟩ := z5R hst
  refine zBC <| zYZ ?_
  refine zZB ?_
  refine kB <| zBC <| q40 O33 ?_
  refine q75 zG8 ?_
  refine q40 O3 ?_
  refine q75 zDP ?_
  refine q40 O3 ?_
  refine yH (zWF (en := eI) (lq rfl) yF rfl rfl rfl rfl q0 q1 q2) ?_
  refine yH (zK0 (lq rfl) rfl) ?_
  refine yW rfl (yC8 (en := eI) (lq rfl) rfl rfl rfl hst yGS (fun m m' hm => zDW (fun _ _ _ q => .inl ⟨_, _, rfl, zMF q⟩) hm) rfl) ?_
  refine zJ ?_
  exact ⟨rfl, rfl, trivial⟩
 case hK =>
  rw [List.length_map, z5Q h']
  refine Q0 ?_
  refine q40 O33 ?_
  refine Q17 ?_
  refine zB ?_
  exact ⟨⟨_, _, rfl, rfl, rfl⟩, rfl, trivial⟩
theorem zHR  {a0} {a1} {a2}  {r : (List Int)} (h : uI a0 a1 a2 = some r) : GC Tryz.prog 40 [.d (eNorm.dv a0), .d (zR eI a1), .d (db a2)] [] [] [.row 2531] [(2531, .row 3 eI.size false (eI.all r))] := by
 refine zCN Tryz.func40 (by kernel_rfl) rfl (lq rfl) (lq rfl) fun w0 I0 hG0 p0 => ?_
 unfold uI at h
 refine Q0 ?_
 refine yW rfl (zSA (lq rfl) rfl rfl) ?_
 refine Q47 ?_
 refine yH ((zBB (lq rfl) G28 rfl rfl rfl rfl).data rfl) ?_
 have ⟨t12, ht12, h⟩ := bE h
 refine q6 (zLB ht12) ?_
 refine q17 G28 ?_
 refine Q64 ?_
 refine yH ((zBB (lq rfl) G28 rfl rfl rfl rfl).data rfl) ?_
 refine q0 ?_
 have ⟨t15, ht15, h⟩ := bE h
 refine yW rfl (z86 [(5, 2515), (6, 3015), (7, 3515)] (zJO ht15) (lq rfl) (by decide) ⟨rfl, rfl, trivial⟩ rfl rfl trivial rfl rfl rfl (fun _ => rfl) rfl) ?_
 refine yH (zEP (lq rfl) rfl) ?_
 refine zJ <| Q3 ?_
 refine zQ (uD (t := 8) 1008 3 eI.size (lq rfl) (lq rfl) rfl rfl) ?_
 refine Q4 ?_
 refine Q99 ?_
 have ⟨y1, hy1, h⟩ := bE h
 refine tl (.exit 0) ⟨[(3, .ptr 3 0), (8, .row 1008)], [(3, .box 28 [.d (zR eSpan t12.Classes), .d (zR eMapping t12.Decomp), .d (zR eRange t12.Excluded.Ranges)]), (1008, .row 3 eI.size false (eI.all y1))]⟩ ?_ ?_
 ·
  refine zD (fun x => ⟨[(3, .ptr 3 0), (7, .clo 59 [.ptr 2515 0, .d (.pt (eNorm.cells ({ Classes := t12.Classes, Decomp := t12.Decomp, Excluded := ({ Ranges := t12.Excluded.Ranges } : Set) } : Norm))), .d (.pt [(db a2)]), .ptr 3015 0]), (8, .row 1008), (16, .d (zR eI a1)), (17, .d (di (a1.length : Int))), (18, .d (di x.1))], [(3, .box 28 [.d (zR eSpan t12.Classes), .d (zR eMapping t12.Decomp), .d (zR eRange t12.Excluded.Ranges)]), (1008, .row 3 eI.size false (eI.all x.2.1)), (2515, .box 96 [.row 3515]), (3015, .box 74 [.clo 59 [.ptr 2515 0, .d (.pt (eNorm.cells ({ Classes := t12.Classes, Decomp := t12.Decomp, Excluded := ({ Ranges := t12.Excluded.Ranges } : Set) } : Norm))), .d (.pt [(db a2)]), .ptr 3015 0]]), (3515, .map (wU kI (eL eI) x.2.2))]⟩) hy1 (wc) ?_
  rintro ⟨v18, r1008, r3515⟩ sy1 p1
  replace p1 : xR a1 t12 a2 v18 r1008 r3515 = some sy1 := p1
  unfold xR at p1
  refine Q27 ?_
  refine z6 p1 (fun p1 => ?_) (fun p1 => ?_)
  ·
   refine Q30 ?_
   have ⟨t20, ht20, p1⟩ := bE p1
   refine q13 yF ht20 ?_
   refine q35 O3 ht20 ?_
   refine Q1 ?_
   refine Q84 ?_
   refine yH (zFN (lq rfl) rfl) ?_
   refine q0 ?_
   have ⟨t25, ht25, p1⟩ := bE p1
   refine yW rfl (z0A [(3001, 2515), (3004, 3015), (3120, 3515)] (zIB _ ht25) (lq rfl) (by decide) rfl ⟨rfl, rfl, rfl, rfl, rfl, trivial⟩ rfl rfl ⟨rfl, rfl, rfl, trivial⟩ rfl rfl rfl (fun _ => rfl) rfl) ?_
   have ⟨r1008_2, hr1008_2, p1⟩ := bE p1
   refine yW rfl (k7 (en := eI) (l := r1008) (m := t25.1) (lq rfl) yF rfl rfl rfl hr1008_2 (by decide) (by decide) rfl rfl) ?_
   refine Q17 ?_
   refine Q29 ?_
   cases p1
   exact wc
  ·
   refine zG ?_
   cases p1
   intro q; cases q
   exact zI (wc)
 ·
  refine Q0 ?_
  refine q75 uM ?_
  refine q40 O22 ?_
  refine q11 ?_
  refine zHY (zD2 (t := 30) (lq rfl) rfl rfl) ?_ (by simp)
  have ⟨t31, ht31, h⟩ := bE h
  refine yW rfl (jO [(100, 2531)] (zON ht31) (lq rfl) (by decide) ⟨rfl, rfl, trivial⟩ rfl rfl trivial rfl rfl rfl (fun _ => rfl) rfl) ?_
  refine Q17 ?_
  cases h
  refine zB ?_
  exact ⟨⟨_, _, rfl, rfl, rfl⟩, ⟨rfl, trivial⟩⟩
set_option maxHeartbeats 8000000 in
theorem zJP {a0 a1 a2 r} (h : uJ a0 a1 a2 = some r) : zF Tryz.prog 17 [(eNorm.dv a0), (eCollation.dv a1), (zR eI a2)] [(zR eElement r)] := by
 refine co Tryz.func17 ?_; intro _ _ _ _
 unfold uJ at h
 refine z3B ?_
 refine Q15 ?_
 have ⟨t14, ht14, h⟩ := bE h
 have ⟨t16, ht16, h⟩ := bE h
 refine tl .normal ⟨[(2, .d (zR eI a2)), (3, .d (.pt (eNorm.cells a0))), (7, .ptr 2514 0)], [(2514, .box 90 [.d (zR eEntry t16.c.Entries), .d (zR eGroup t16.c.Groups), .d (di t16.c.Base), .d (di t16.c.Second), .d (di t16.c.Third), .row 3014, .d (di t16.longest), .d (zR eSpan t16.classes), .d (di t16.top)]), (3014, .map (wU zDJ (eL eElement) t16.entries))]⟩ ?_ ?_
 ·
  refine zCZ MX ?_
  refine xn [0,2] ?_
  refine q83 G32 ?_ ?_
  ·
   refine xn [1,2] ?_
   refine xb rfl (jO [(13, 2514), (11, 3014)] (jZ ht14) (lq rfl) (by decide) ⟨rfl, trivial⟩ rfl rfl trivial rfl rfl rfl (fun _ => rfl) rfl) ?_ ?_
   ·
    refine xn [2] ?_
    refine q42 G28 ?_
    refine xn [3] ?_
    refine xd rfl (jO [(3000, 2514), (3105, 3014)] (kQ ht16) (lq rfl) (by decide) ⟨rfl, rfl, trivial⟩ rfl rfl ⟨rfl, rfl, trivial⟩ rfl rfl rfl (fun _ => rfl) rfl) ?_
    refine xn [4] ?_
    refine z21 ?_
    exact ae
   refine q42 G28 ?_
   refine xn [1] ?_
   refine xd rfl (jO [(13, 2514), (11, 3014)] (jZ ht14) (lq rfl) (by decide) ⟨rfl, trivial⟩ rfl rfl trivial rfl rfl rfl (fun _ => rfl) rfl) ?_
   refine xn [3] ?_
   refine xd rfl (jO [(3000, 2514), (3105, 3014)] (kQ ht16) (lq rfl) (by decide) ⟨rfl, rfl, trivial⟩ rfl rfl ⟨rfl, rfl, trivial⟩ rfl rfl rfl (fun _ => rfl) rfl) ?_
   refine xn [4] ?_
   refine z21 ?_
   exact ae
  refine q42 G28 ?_
  refine xn [0] ?_
  refine q42 G32 ?_
  refine xn [1] ?_
  refine xd rfl (jO [(13, 2514), (11, 3014)] (jZ ht14) (lq rfl) (by decide) ⟨rfl, trivial⟩ rfl rfl trivial rfl rfl rfl (fun _ => rfl) rfl) ?_
  refine xn [3] ?_
  refine xd rfl (jO [(3000, 2514), (3105, 3014)] (kQ ht16) (lq rfl) (by decide) ⟨rfl, rfl, trivial⟩ rfl rfl ⟨rfl, rfl, trivial⟩ rfl rfl rfl (fun _ => rfl) rfl) ?_
  refine xn [4] ?_
  refine z21 ?_
  exact ae
 refine zQ (zDH (bid := 2514) (off := 5) rfl rfl rfl) ?_
 refine zQ (zW (t := 7) (lq rfl) rfl rfl rfl) ?_
 refine Q3 ?_
 refine zQ (uD (t := 8) 1008 63 eElement.size (lq rfl) (lq rfl) rfl rfl) ?_
 refine Q32 ?_
 refine q20 G28 ?_
 refine q0 ?_
 have ⟨t19, ht19, h⟩ := bE h
 refine yW rfl (jO [(2531, 2519)] (zHR ht19) (lq rfl) (by decide) ⟨rfl, rfl, rfl, trivial⟩ rfl rfl trivial rfl rfl rfl (fun _ => rfl) rfl) ?_
 refine Q17 ?_
 refine zQ (zDG (id := 2519) rfl) ?_
 refine kB ?_
 have ⟨y1, hy1, h⟩ := bE h
 refine tl (.exit 0) ⟨[(8, .row 1008)], [(1008, .row 63 eElement.size false (eElement.all y1))]⟩ ?_ ?_
 ·
  refine zD (fun x => ⟨[(7, .d (.pt (eColltable_table.cells t16))), (8, .row 1008), (9, .row 2519)], [(1008, .row 63 eElement.size false (eElement.all x.1)), (2519, .win 3 eI.size 0 (eI.all x.2))]⟩) hy1 (wc) ?_
  rintro ⟨r1008, r2519⟩ sy1 p1
  replace p1 : jQ t16 r1008 r2519 = some sy1 := p1
  unfold jQ at p1
  refine Q32 ?_
  refine q11 ?_
  refine z6E yF ?_
  refine Q60 ?_
  refine z6 p1 (fun p1 => ?_) (fun p1 => ?_)
  ·
   refine zP <| zWV ?_
   refine q11 ?_
   have ⟨t26, ht26, p1⟩ := bE p1
   refine yW rfl (jO [(3001, 2519)] (xN ht26) (lq rfl) (by decide) ⟨rfl, rfl, trivial⟩ rfl rfl ⟨rfl, trivial⟩ rfl rfl rfl (fun _ => rfl) rfl) ?_
   refine yH (zJB (lq rfl) rfl) ?_
   refine q93 ?_
   refine q93 ?_
   refine q93 ?_
   refine Q78 ?_
   refine Q0 ?_
   refine Q19 ?_
   have ⟨r1008_2, hr1008_2, p1⟩ := bE p1
   refine yW rfl (k7 (en := eElement) (l := r1008) (m := t26.2.1) (lq rfl) S38 rfl rfl rfl hr1008_2 (by decide) (by decide) rfl rfl) ?_
   refine Q17 ?_
   refine zZH ?_
   have ⟨r2519_3, hr2519_3, p1⟩ := bE p1
   refine yW rfl (zWD (en := eI) (l := t26.2.2.2) (lq rfl) yF rfl rfl rfl hr2519_3 (Nat.le_refl _) rfl) ?_
   refine Q17 ?_
   cases p1
   exact wc
  ·
   refine zG ?_
   cases p1
   intro q; cases q
   exact zI (wc)
 ·
  refine Q97 ?_
  cases h
  refine zB ?_
  exact zH rfl
theorem zNG {a0 a1 a2 a3 r} (h : w6 a0 a1 a2 a3 = some r) : zF Tryz.prog 116 [(zR eMapping a0), (zR (eL eI) a1), (zR eI a2), (db a3)] [(zR eI r)] := by
 refine co Tryz.func116 ?_; intro _ _ _ _
 unfold w6 at h
 refine Q3 ?_
 refine Q3 ?_
 refine zQ (uD (t := 9) 1009 3 eI.size (lq rfl) (lq rfl) rfl rfl) ?_
 refine Q31 ?_
 have ⟨y1, hy1, h⟩ := bE h
 refine tl (.exit 0) ⟨[(9, .row 1009)], [(1009, .row 3 eI.size false (eI.all y1))]⟩ ?_ ?_
 ·
  refine zD (fun x => ⟨[(0, .d (zR eMapping a0)), (1, .d (zR (eL eI) a1)), (2, .d (zR eI a2)), (3, .d (db a3)), (9, .row 1009), (10, .d (di x.1))], [(1009, .row 3 eI.size false (eI.all x.2))]⟩) hy1 (wc) ?_
  rintro ⟨v10, r1009⟩ sy1 p1
  replace p1 : k5 a2 a0 a3 a1 v10 r1009 = some sy1 := p1
  unfold k5 at p1
  refine Q10 ?_
  refine Q82 ?_
  refine z6 p1 (fun p1 => ?_) (fun p1 => ?_)
  ·
   refine Q5 ?_
   have ⟨y2, hy2, p1⟩ := bE p1
   refine tl .normal ⟨[(0, .d (zR eMapping a0)), (1, .d (zR (eL eI) a1)), (2, .d (zR eI a2)), (3, .d (db a3)), (9, .row 1009), (10, .d (di v10))], [(1009, .row 3 eI.size false (eI.all y2))]⟩ ?_ ?_
   ·
    refine Q74 ?_
    refine q0 ?_
    have ⟨t21, ht21, hy2⟩ := bE hy2
    refine q13 yF ht21 ?_
    refine q35 O3 ht21 ?_
    refine q0 ?_
    have ⟨t24, ht24, hy2⟩ := bE hy2
    refine q6 (zDR ht24) ?_
    refine Q22 ?_
    refine Q92 ?_
    refine z6 hy2 (fun hy2 => ?_) (fun hy2 => ?_)
    ·
     refine Q76 ?_
     have ⟨t30, ht30, hy2⟩ := bE hy2
     refine q13 z9C ht30 ?_
     refine yH (z0 (en := (eL eI)) (l := a1) (i := t24) (v := t30) (off := 0) (lq rfl) O33 rfl ht30 rfl) ?_
     have ⟨r1009_3, hr1009_3, hy2⟩ := bE hy2
     refine yW rfl (k7 (en := eI) (l := r1009) (m := t30) (lq rfl) yF rfl rfl rfl hr1009_3 (by decide) (by decide) rfl rfl) ?_
     refine Q17 ?_
     cases hy2
     exact zI (wc)
    ·
     refine Q76 ?_
     have ⟨t36, ht36, hy2⟩ := bE hy2
     refine q13 yF ht36 ?_
     refine q35 O3 ht36 ?_
     have ⟨t38, ht38, hy2⟩ := bE hy2
     refine q6 (zDS ht38) ?_
     have ⟨r1009_4, hr1009_4, hy2⟩ := bE hy2
     refine yW rfl (k7 (en := eI) (l := r1009) (m := t38) (lq rfl) yF rfl rfl rfl hr1009_4 (by decide) (by decide) rfl rfl) ?_
     refine Q17 ?_
     cases hy2
     exact zI (wc)
   ·
    refine Q11 ?_
    cases p1
    exact wc
  ·
   refine zG ?_
   cases p1
   intro q; cases q
   exact zI (wc)
 ·
  refine Q97 ?_
  cases h
  refine zB ?_
  exact zH rfl
theorem zMG  {a0} {a1} {a2} {a3}  {r : (List Int)} (h : w6 a0 a1 a2 a3 = some r) : GC Tryz.prog 116 [.d (zR eMapping a0), .row 3001, .d (zR eI a2), .d (db a3)] [(3001, .row 33 (eL eI).size false ((eL eI).all a1))] [3001] [.d (zR eI r)] [(3001, .row 33 (eL eI).size false ((eL eI).all a1))] := by
 refine zCN Tryz.func116 (by kernel_rfl) rfl (lq rfl) (lq rfl) fun w0 I0 hG0 p0 => ?_
 unfold w6 at h
 refine Q3 ?_
 refine Q3 ?_
 refine zQ (uD (t := 9) 1009 3 eI.size (lq rfl) (lq rfl) rfl rfl) ?_
 refine Q31 ?_
 have ⟨y1, hy1, h⟩ := bE h
 refine tl (.exit 0) ⟨[(1, .row 3001), (9, .row 1009)], [(1009, .row 3 eI.size false (eI.all y1)), (3001, .row 33 (eL eI).size false ((eL eI).all a1))]⟩ ?_ ?_
 ·
  refine zD (fun x => ⟨[(0, .d (zR eMapping a0)), (1, .row 3001), (2, .d (zR eI a2)), (3, .d (db a3)), (9, .row 1009), (10, .d (di x.1))], [(1009, .row 3 eI.size false (eI.all x.2)), (3001, .row 33 (eL eI).size false ((eL eI).all a1))]⟩) hy1 (wc) ?_
  rintro ⟨v10, r1009⟩ sy1 p1
  replace p1 : k5 a2 a0 a3 a1 v10 r1009 = some sy1 := p1
  unfold k5 at p1
  refine Q10 ?_
  refine Q82 ?_
  refine z6 p1 (fun p1 => ?_) (fun p1 => ?_)
  ·
   refine Q5 ?_
   have ⟨y2, hy2, p1⟩ := bE p1
   refine tl .normal ⟨[(0, .d (zR eMapping a0)), (1, .row 3001), (2, .d (zR eI a2)), (3, .d (db a3)), (9, .row 1009), (10, .d (di v10))], [(1009, .row 3 eI.size false (eI.all y2)), (3001, .row 33 (eL eI).size false ((eL eI).all a1))]⟩ ?_ ?_
   ·
    refine Q74 ?_
    refine q0 ?_
    have ⟨t21, ht21, hy2⟩ := bE hy2
    refine q13 yF ht21 ?_
    refine q35 O3 ht21 ?_
    refine q0 ?_
    have ⟨t24, ht24, hy2⟩ := bE hy2
    refine q6 (zDR ht24) ?_
    refine Q22 ?_
    refine Q92 ?_
    refine z6 hy2 (fun hy2 => ?_) (fun hy2 => ?_)
    ·
     refine Q84 ?_
     refine Q19 ?_
     have ⟨t30, ht30, hy2⟩ := bE hy2
     refine q76 z9C ht30 ?_
     refine yH (zFW (en := (eL eI)) (l := a1) (i := t24) (v := t30) (off := 0) (lq rfl) O33 rfl rfl ht30 rfl) ?_
     have ⟨r1009_3, hr1009_3, hy2⟩ := bE hy2
     refine yW rfl (k7 (en := eI) (l := r1009) (m := t30) (lq rfl) yF rfl rfl rfl hr1009_3 (by decide) (by decide) rfl rfl) ?_
     refine Q17 ?_
     cases hy2
     exact zI (wc)
    ·
     refine Q76 ?_
     have ⟨t36, ht36, hy2⟩ := bE hy2
     refine q13 yF ht36 ?_
     refine q35 O3 ht36 ?_
     have ⟨t38, ht38, hy2⟩ := bE hy2
     refine q6 (zDS ht38) ?_
     have ⟨r1009_4, hr1009_4, hy2⟩ := bE hy2
     refine yW rfl (k7 (en := eI) (l := r1009) (m := t38) (lq rfl) yF rfl rfl rfl hr1009_4 (by decide) (by decide) rfl rfl) ?_
     refine Q17 ?_
     cases hy2
     exact zI (wc)
   ·
    refine Q11 ?_
    cases p1
    exact wc
  ·
   refine zG ?_
   cases p1
   intro q; cases q
   exact zI (wc)
 ·
  refine Q97 ?_
  refine zQ (zD2 (t := 8) (lq rfl) rfl rfl) ?_
  cases h
  refine zB ?_
  exact ⟨⟨_, _, rfl, rfl, rfl⟩, ⟨rfl, trivial⟩⟩
theorem zRN {a0 a1 r} (h : zE4 a0 a1 = some r) : zF Tryz.prog 117 [(zR eMapping a0), (db a1)] [(zR (eL eI) r)] := by
 refine co Tryz.func117 ?_; intro _ _ _ _
 unfold zE4 at h
 refine Q57 ?_
 refine q5 S23 ?_
 have ⟨r10, hr10, h⟩ := bE h
 refine yW rfl (z88 (en := (eL eI)) (lq rfl) z9C rfl hr10 (by decide) rfl) ?_
 refine zHY (zQ4 (id := 10) rfl (z2M (en := (eL eI)) (zero := []) (nlN nl0) hr10)) ?_ (by simp)
 refine Q17 ?_
 refine Q31 ?_
 have ⟨y1, hy1, h⟩ := bE h
 refine tl (.exit 0) ⟨[(5, .row 10)], [(10, .row 33 (eL eI).size false ((eL eI).all y1))]⟩ ?_ ?_
 ·
  refine zD (fun x => ⟨[(0, .d (zR eMapping a0)), (1, .d (db a1)), (5, .row 10), (6, .d (di x.1))], [(10, .row 33 (eL eI).size false ((eL eI).all x.2))]⟩) hy1 (wc) ?_
  rintro ⟨v6, r10⟩ sy1 p1
  replace p1 : uL a0 a1 v6 r10 = some sy1 := p1
  unfold uL at p1
  refine Q56 ?_
  refine z6 p1 (fun p1 => ?_) (fun p1 => ?_)
  ·
   refine Q8 ?_
   refine Q14 ?_
   have ⟨y2, hy2, p1⟩ := bE p1
   refine tl (.exit 2) ⟨[(0, .d (zR eMapping a0)), (1, .d (db a1)), (5, .row 10), (6, .d (di v6))], [(10, .row 33 (eL eI).size false ((eL eI).all y2))]⟩ ?_ ?_
   ·
    refine zD (fun x => ⟨[(0, .d (zR eMapping a0)), (1, .d (db a1)), (5, .row 10), (6, .d (di v6)), (7, .d (di x.1))], [(10, .row 33 (eL eI).size false ((eL eI).all x.2))]⟩) hy2 (wc) ?_
    rintro ⟨v7, r10⟩ sy2 p2
    replace p2 : uK a0 a1 v7 r10 = some sy2 := p2
    unfold uK at p2
    refine Q56 ?_
    refine z6 p2 (fun p2 => ?_) (fun p2 => ?_)
    ·
     refine Q5 ?_
     have ⟨y3, hy3, p2⟩ := bE p2
     refine tl .normal ⟨[(0, .d (zR eMapping a0)), (1, .d (db a1)), (5, .row 10), (6, .d (di v6)), (7, .d (di v7))], [(10, .row 33 (eL eI).size false ((eL eI).all y3))]⟩ ?_ ?_
     ·
      refine zWV ?_
      have ⟨b24, hb24, hy3⟩ := bE hy3
      refine yH ((zC (lq rfl) rfl).bool (oi hb24)) ?_
      refine q39 (.d (zR eMapping a0)) ?_
      refine q39 (.d (di v7)) ?_
      have ⟨t27, ht27, hy3⟩ := bE hy3
      refine sqf (.ip (eMapping.all a0) (v7.toNat * eMapping.size)) rfl (fun hb => by subst hb; exact kJ (en := eMapping) (lq rfl) S23 rfl rfl ht27) ?_
      refine z9I (.ip (eMapping.all a0) (v7.toNat * eMapping.size + 2)) zA7 ?_
      refine sqf (.d (ds t27.Tag)) rfl (fun hb => by subst hb; exact z0 (en := eMapping) (l := a0) (i := v7) (v := t27) (off := 2) (lq rfl) O9 rfl ht27 rfl) ?_
      refine sqf (.d (db (t27.Tag == []))) rfl (fun hb => by subst hb; exact zK3 (a := t27.Tag) (b := []) (lq rfl) rfl rfl) ?_
      refine Q50 ?_
      refine z6 hy3 (fun hy3 => ?_) (fun hy3 => ?_)
      ·
       refine Q76 ?_
       refine Q36 ?_
       have ⟨t38, ht38, hy3⟩ := bE hy3
       refine q13 S23 ht38 ?_
       refine q44 zCE ?_
       refine q84 O33 ht38 ?_
       refine q0 ?_
       have ⟨t42, ht42, hy3⟩ := bE hy3
       refine yW rfl (jO [(3001, 10)] (zMG ht42) (lq rfl) (by decide) ⟨rfl, rfl, rfl, rfl, trivial⟩ rfl rfl ⟨rfl, trivial⟩ rfl rfl rfl (fun _ => rfl) rfl) ?_
       have ⟨t43, ht43, hy3⟩ := bE hy3
       refine q76 z9C ht43 ?_
       have ⟨r10_4, hr10_4, hy3⟩ := bE hy3
       refine yW rfl (zGR (en := (eL eI)) (l := r10) (i := v7) (v := t43) (off := 0) O33 rfl rfl rfl ht43 rfl (by decide) hr10_4 rfl rfl) ?_
       refine zJ ?_
       cases hy3
       exact zI (wc)
      ·
       refine zP ?_
       cases hy3
       exact zI (wc)
     ·
      refine Q11 ?_
      cases p2
      exact wc
    ·
     refine zG ?_
     cases p2
     intro q; cases q
     exact zI (wc)
   ·
    refine Q11 ?_
    cases p1
    exact wc
  ·
   refine zG ?_
   cases p1
   intro q; cases q
   exact zI (wc)
 ·
  refine Q97 ?_
  cases h
  refine zB ?_
  exact zH rfl
theorem zTZ {a0 a1 a2 r} (h : zF3 a0 a1 a2 = some r) : zF Tryz.prog 100 [(eNorm.dv a0), (zR eI a1), (db a2)] [(zR eI r)] := by
 refine co Tryz.func100 ?_; intro _ _ _ _
 unfold zF3 at h
 refine Q39 ?_
 refine Q15 ?_
 refine z2 MX rfl ?_
 refine q23 zP2 ?_
 refine q27 O23 ?_
 refine q23 zP2 ?_
 refine q27 O23 ?_
 refine q4 ?_
 have ⟨t12, ht12, h⟩ := bE h
 refine q25 (zRN ht12) ?_
 refine Q23 ?_
 have ⟨t15, ht15, h⟩ := bE h
 refine q25 (zNG ht15) ?_
 refine Q49 ?_
 cases h
 refine zB ?_
 exact zH rfl
theorem zT0 {a0 a1 r} (h : zEB a0 a1 = some r) : zF Tryz.prog 99 [(zR eSpan a0), (zR eI a1)] [(zR eI r)] := by
 refine co Tryz.func99 ?_; intro _ _ _ _
 unfold zEB at h
 refine Q3 ?_
 refine Q3 ?_
 refine zQ (uD (t := 5) 1005 3 eI.size (lq rfl) (lq rfl) rfl rfl) ?_
 refine Q31 ?_
 have ⟨y1, hy1, h⟩ := bE h
 refine tl (.exit 0) ⟨[(5, .row 1005)], [(1005, .row 3 eI.size false (eI.all y1))]⟩ ?_ ?_
 ·
  refine zD (fun x => ⟨[(0, .d (zR eSpan a0)), (1, .d (zR eI a1)), (5, .row 1005), (6, .d (di x.1))], [(1005, .row 3 eI.size false (eI.all x.2))]⟩) hy1 (wc) ?_
  rintro ⟨v6, r1005⟩ sy1 p1
  replace p1 : wR a1 a0 v6 r1005 = some sy1 := p1
  unfold wR at p1
  refine Q10 ?_
  refine Q82 ?_
  refine z6 p1 (fun p1 => ?_) (fun p1 => ?_)
  ·
   refine Q30 ?_
   refine Q36 ?_
   have ⟨t18, ht18, p1⟩ := bE p1
   refine q13 yF ht18 ?_
   refine q35 O3 ht18 ?_
   refine q38 yF ?_
   have ⟨r1005_2, hr1005_2, p1⟩ := bE p1
   refine yW rfl (k7 (en := eI) (l := r1005) (m := [t18]) (lq rfl) yF rfl rfl rfl hr1005_2 (by decide) (by decide) rfl rfl) ?_
   refine Q17 ?_
   refine Q13 ?_
   refine q0 ?_
   have ⟨t25, ht25, p1⟩ := bE p1
   refine q13 yF ht25 ?_
   refine q35 O3 ht25 ?_
   have ⟨t27, ht27, p1⟩ := bE p1
   refine q6 (zCY ht27) ?_
   refine Q47 ?_
   refine q11 ?_
   refine z59 yF ?_
   refine Q68 ?_
   refine kB ?_
   have ⟨y3, hy3, p1⟩ := bE p1
   refine tl (.exit 2) ⟨[(0, .d (zR eSpan a0)), (1, .d (zR eI a1)), (5, .row 1005), (6, .d (di v6))], [(1005, .row 3 eI.size false (eI.all y3))]⟩ ?_ ?_
   ·
    refine zD (fun x => ⟨[(0, .d (zR eSpan a0)), (1, .d (zR eI a1)), (5, .row 1005), (6, .d (di v6)), (7, .d (di t27)), (8, .d (di x.1))], [(1005, .row 3 eI.size false (eI.all x.2))]⟩) hy3 (wc) ?_
    rintro ⟨v8, r1005⟩ sy3 p3
    replace p3 : vR t27 a0 a1 v6 v8 r1005 = some sy3 := p3
    unfold vR at p3
    refine Q4 ?_
    refine q48 ?_
    have ⟨b33, hb33, p3⟩ := bE p3
    refine yH ((zC (lq rfl) rfl).bool (oi hb33)) ?_
    refine q12 (.d (di t27)) ?_
    refine sqt (.d (db (decide (0 < t27)))) rfl (fun hb => by subst hb; exact zNU (lq rfl) rfl rfl) ?_
    refine q14 ?_
    have ⟨b37, hb37, p3⟩ := bE p3
    refine yH ((zC (lq rfl) rfl).bool (oi hb37)) ?_
    refine q12 (.d (zR eSpan a0)) ?_
    refine sqt (.row 1005) rfl (fun hb => by subst hb; exact zFV (lq rfl) rfl) ?_
    refine q12 (.d (di v8)) ?_
    refine sqt (.d (di (wi (v8 - 1)))) rfl (fun hb => by subst hb; exact zSG (lq rfl) rfl rfl) ?_
    have ⟨t42, ht42, p3⟩ := bE p3
    refine sqt (.ptr 1005 ((wi (v8 - 1)).toNat * eI.size)) rfl (fun hb => by subst hb; exact zB4 (en := eI) (l := r1005) (lq rfl) yF rfl rfl rfl ht42) ?_
    refine sqt (.d (di t42)) rfl (fun hb => by subst hb; exact zFW (en := eI) (l := r1005) (i := (wi (v8 - 1))) (v := t42) (off := 0) (lq rfl) O3 rfl rfl ht42 rfl) ?_
    have ⟨t44, ht44, p3⟩ := bE p3
    refine sqt (.d (di t44)) rfl (fun hb => by subst hb; exact wA (lq rfl) rfl (zCY ht44)) ?_
    refine q12 (.d (di t27)) ?_
    refine sqt (.d (db (decide (t27 < t44)))) rfl (fun hb => by subst hb; exact zNU (lq rfl) rfl rfl) ?_
    refine Q37 ?_
    refine z6 p3 (fun p3 => ?_) (fun p3 => ?_)
    ·
     refine Q30 ?_
     refine Q19 ?_
     refine Q19 ?_
     refine q31 ?_
     have ⟨t55, ht55, p3⟩ := bE p3
     refine q76 yF ht55 ?_
     refine yH (zFW (en := eI) (l := r1005) (i := (wi (v8 - 1))) (v := t55) (off := 0) (lq rfl) O3 rfl rfl ht55 rfl) ?_
     have ⟨t57, ht57, p3⟩ := bE p3
     refine q76 yF ht57 ?_
     have ⟨r1005_4, hr1005_4, p3⟩ := bE p3
     refine yW rfl (zGR (en := eI) (l := r1005) (i := v8) (v := t57) (off := 0) O3 rfl rfl rfl ht57 rfl (by decide) hr1005_4 rfl rfl) ?_
     refine zJ <| zZH ?_
     refine q31 ?_
     refine Q65 ?_
     have ⟨t63, ht63, p3⟩ := bE p3
     refine q13 yF ht63 ?_
     refine q35 O3 ht63 ?_
     have ⟨t65, ht65, p3⟩ := bE p3
     refine q76 yF ht65 ?_
     have ⟨r1005_5, hr1005_5, p3⟩ := bE p3
     refine yW rfl (zGR (en := eI) (l := r1005_4) (i := (wi (v8 - 1))) (v := t65) (off := 0) O3 rfl rfl rfl ht65 rfl (by decide) hr1005_5 rfl rfl) ?_
     refine zJ <| Q7 ?_
     refine Q68 ?_
     cases p3
     exact wc
    ·
     refine zG ?_
     cases p3
     intro q; cases q
     exact zI (wc)
   ·
    refine Q11 ?_
    cases p1
    exact wc
  ·
   refine zG ?_
   cases p1
   intro q; cases q
   exact zI (wc)
 ·
  refine Q97 ?_
  cases h
  refine zB ?_
  exact zH rfl
theorem zT1 {a0 a1 a2 r} (h : zF4 a0 a1 a2 = some r) : zF Tryz.prog 72 [(eNorm.dv a0), (zR eI a1), (db a2)] [(zR eI r)] := by
 refine co Tryz.func72 ?_; intro _ _ _ _
 unfold zF4 at h
 refine Q39 ?_
 refine Q47 ?_
 refine q20 G28 ?_
 have ⟨t9, ht9, h⟩ := bE h
 refine q6 (xG ht9) ?_
 refine z9V ?_
 refine q17 G28 ?_
 refine zJ ?_
 refine zQ (zW (t := 7) (lq rfl) rfl rfl rfl) ?_
 refine kP ?_
 refine z2 MX rfl ?_
 refine q23 uM ?_
 refine q27 O22 ?_
 refine q67 G28 ?_
 refine Q23 ?_
 have ⟨t15, ht15, h⟩ := bE h
 refine q25 (zTZ ht15) ?_
 have ⟨t16, ht16, h⟩ := bE h
 refine q25 (zT0 ht16) ?_
 refine Q49 ?_
 cases h
 refine zB ?_
 exact zH rfl
set_option maxHeartbeats 8000000 in
theorem zMH {a0 a1 a2 r} (h : zEC a0 a1 a2 = some r) : zF Tryz.prog 46 [(eNorm.dv a0), (eCollation.dv a1), (zR eI a2)] [(zR eElement r.1), (db r.2)] := by
 refine co Tryz.func46 ?_; intro _ _ _ _
 unfold zEC at h
 refine z3B ?_
 refine q1 ?_
 refine Q15 ?_
 have ⟨t18, ht18, h⟩ := bE h
 have ⟨t21, ht21, h⟩ := bE h
 refine tl .normal ⟨[(2, .d (zR eI a2)), (3, .d (.pt (eNorm.cells a0))), (4, .d (.pt (eCollation.cells a1))), (8, .d (zR eSpan t18.Classes)), (9, .ptr 9 0)], [(9, .box 32 [.d (zR eEntry t21.Entries), .d (zR eGroup t21.Groups), .d (di t21.Base), .d (di t21.Second), .d (di t21.Third)])]⟩ ?_ ?_
 ·
  refine zCZ MX ?_
  refine xn [0,3,5] ?_
  refine q83 G28 ?_ ?_
  ·
   refine xn [1,3,5] ?_
   refine q74 (xG ht18) ?_ ?_
   ·
    refine xn [2,3,5] ?_
    refine q47 uM O22 ?_ ?_
    ·
     refine xn [3,5] ?_
     refine q83 G32 ?_ ?_
     ·
      refine xn [4,5] ?_
      refine q74 (zS ht21) ?_ ?_
      ·
       refine zZI ?_
       exact ae
      refine q43 ?_
      refine xn [4] ?_
      refine q24 (zS ht21) ?_
      refine Q21 ?_
      exact ae
     refine q43 ?_
     refine xn [3] ?_
     refine q42 G32 ?_
     refine xn [4] ?_
     refine q24 (zS ht21) ?_
     refine Q21 ?_
     exact ae
    refine q83 G32 ?_ ?_
    ·
     refine xn [2,4,5] ?_
     refine q47 uM O22 ?_ ?_
     ·
      refine xn [4,5] ?_
      refine q74 (zS ht21) ?_ ?_
      ·
       refine zZI ?_
       exact ae
      refine q43 ?_
      refine xn [4] ?_
      refine q24 (zS ht21) ?_
      refine Q21 ?_
      exact ae
     refine q74 (zS ht21) ?_ ?_
     ·
      refine xn [2,5] ?_
      refine q47 uM O22 ?_ ?_
      ·
       refine zZI ?_
       exact ae
      refine q43 ?_
      refine Q63 ?_
      exact ae
     refine q43 ?_
     refine xn [2,4] ?_
     refine q47 uM O22 ?_ ?_
     ·
      refine xn [4] ?_
      refine q24 (zS ht21) ?_
      refine Q21 ?_
      exact ae
     refine q24 (zS ht21) ?_
     refine Q63 ?_
     exact ae
    refine q43 ?_
    refine xn [2,3] ?_
    refine q47 uM O22 ?_ ?_
    ·
     refine xn [3] ?_
     refine q42 G32 ?_
     refine xn [4] ?_
     refine q24 (zS ht21) ?_
     refine Q21 ?_
     exact ae
    refine q42 G32 ?_
    refine xn [2,4] ?_
    refine q47 uM O22 ?_ ?_
    ·
     refine xn [4] ?_
     refine q24 (zS ht21) ?_
     refine Q21 ?_
     exact ae
    refine q24 (zS ht21) ?_
    refine Q63 ?_
    exact ae
   refine q83 G32 ?_ ?_
   ·
    refine xn [1,5] ?_
    refine q74 (xG ht18) ?_ ?_
    ·
     refine xn [2,4,5] ?_
     refine q47 uM O22 ?_ ?_
     ·
      refine xn [4,5] ?_
      refine q74 (zS ht21) ?_ ?_
      ·
       refine zZI ?_
       exact ae
      refine q43 ?_
      refine xn [4] ?_
      refine q24 (zS ht21) ?_
      refine Q21 ?_
      exact ae
     refine q74 (zS ht21) ?_ ?_
     ·
      refine xn [2,5] ?_
      refine q47 uM O22 ?_ ?_
      ·
       refine zZI ?_
       exact ae
      refine q43 ?_
      refine Q63 ?_
      exact ae
     refine q43 ?_
     refine xn [2,4] ?_
     refine q47 uM O22 ?_ ?_
     ·
      refine xn [4] ?_
      refine q24 (zS ht21) ?_
      refine Q21 ?_
      exact ae
     refine q24 (zS ht21) ?_
     refine Q63 ?_
     exact ae
    refine q43 ?_
    refine xn [1] ?_
    refine q24 (xG ht18) ?_
    refine xn [2,4] ?_
    refine q47 uM O22 ?_ ?_
    ·
     refine xn [4] ?_
     refine q24 (zS ht21) ?_
     refine Q21 ?_
     exact ae
    refine q24 (zS ht21) ?_
    refine Q63 ?_
    exact ae
   refine q43 ?_
   refine xn [1,3] ?_
   refine q74 (xG ht18) ?_ ?_
   ·
    refine xn [2,3] ?_
    refine q47 uM O22 ?_ ?_
    ·
     refine xn [3] ?_
     refine q42 G32 ?_
     refine xn [4] ?_
     refine q24 (zS ht21) ?_
     refine Q21 ?_
     exact ae
    refine q42 G32 ?_
    refine xn [2,4] ?_
    refine q47 uM O22 ?_ ?_
    ·
     refine xn [4] ?_
     refine q24 (zS ht21) ?_
     refine Q21 ?_
     exact ae
    refine q24 (zS ht21) ?_
    refine Q63 ?_
    exact ae
   refine q42 G32 ?_
   refine xn [1] ?_
   refine q24 (xG ht18) ?_
   refine xn [2,4] ?_
   refine q47 uM O22 ?_ ?_
   ·
    refine xn [4] ?_
    refine q24 (zS ht21) ?_
    refine Q21 ?_
    exact ae
   refine q24 (zS ht21) ?_
   refine Q63 ?_
   exact ae
  refine q83 G32 ?_ ?_
  ·
   refine xn [0,5] ?_
   refine q83 G28 ?_ ?_
   ·
    refine xn [1,5] ?_
    refine q74 (xG ht18) ?_ ?_
    ·
     refine xn [2,4,5] ?_
     refine q47 uM O22 ?_ ?_
     ·
      refine xn [4,5] ?_
      refine q74 (zS ht21) ?_ ?_
      ·
       refine zZI ?_
       exact ae
      refine q43 ?_
      refine xn [4] ?_
      refine q24 (zS ht21) ?_
      refine Q21 ?_
      exact ae
     refine q74 (zS ht21) ?_ ?_
     ·
      refine xn [2,5] ?_
      refine q47 uM O22 ?_ ?_
      ·
       refine zZI ?_
       exact ae
      refine q43 ?_
      refine Q63 ?_
      exact ae
     refine q43 ?_
     refine xn [2,4] ?_
     refine q47 uM O22 ?_ ?_
     ·
      refine xn [4] ?_
      refine q24 (zS ht21) ?_
      refine Q21 ?_
      exact ae
     refine q24 (zS ht21) ?_
     refine Q63 ?_
     exact ae
    refine q43 ?_
    refine xn [1] ?_
    refine q24 (xG ht18) ?_
    refine xn [2,4] ?_
    refine q47 uM O22 ?_ ?_
    ·
     refine xn [4] ?_
     refine q24 (zS ht21) ?_
     refine Q21 ?_
     exact ae
    refine q24 (zS ht21) ?_
    refine Q63 ?_
    exact ae
   refine q43 ?_
   refine xn [0] ?_
   refine q42 G28 ?_
   refine xn [1] ?_
   refine q24 (xG ht18) ?_
   refine xn [2,4] ?_
   refine q47 uM O22 ?_ ?_
   ·
    refine xn [4] ?_
    refine q24 (zS ht21) ?_
    refine Q21 ?_
    exact ae
   refine q24 (zS ht21) ?_
   refine Q63 ?_
   exact ae
  refine q43 ?_
  refine xn [0,3] ?_
  refine q83 G28 ?_ ?_
  ·
   refine xn [1,3] ?_
   refine q74 (xG ht18) ?_ ?_
   ·
    refine xn [2,3] ?_
    refine q47 uM O22 ?_ ?_
    ·
     refine xn [3] ?_
     refine q42 G32 ?_
     refine xn [4] ?_
     refine q24 (zS ht21) ?_
     refine Q21 ?_
     exact ae
    refine q42 G32 ?_
    refine xn [2,4] ?_
    refine q47 uM O22 ?_ ?_
    ·
     refine xn [4] ?_
     refine q24 (zS ht21) ?_
     refine Q21 ?_
     exact ae
    refine q24 (zS ht21) ?_
    refine Q63 ?_
    exact ae
   refine q42 G32 ?_
   refine xn [1] ?_
   refine q24 (xG ht18) ?_
   refine xn [2,4] ?_
   refine q47 uM O22 ?_ ?_
   ·
    refine xn [4] ?_
    refine q24 (zS ht21) ?_
    refine Q21 ?_
    exact ae
   refine q24 (zS ht21) ?_
   refine Q63 ?_
   exact ae
  refine q42 G32 ?_
  refine xn [0] ?_
  refine q42 G28 ?_
  refine xn [1] ?_
  refine q24 (xG ht18) ?_
  refine xn [2,4] ?_
  refine q47 uM O22 ?_ ?_
  ·
   refine xn [4] ?_
   refine q24 (zS ht21) ?_
   refine Q21 ?_
   exact ae
  refine q24 (zS ht21) ?_
  refine Q63 ?_
  exact ae
 refine zQ (zW (t := 9) (lq rfl) rfl rfl rfl) ?_
 refine Q0 ?_
 refine q20 G28 ?_
 refine q0 ?_
 have ⟨t24, ht24, h⟩ := bE h
 refine q6 (zT1 ht24) ?_
 refine Q1 ?_
 refine Q3 ?_
 refine zQ (uD (t := 11) 1011 63 eElement.size (lq rfl) (lq rfl) rfl rfl) ?_
 refine Q3 ?_
 refine kP <| kB ?_
 have ⟨y1, hy1, h⟩ := bE h
 refine tl (.exit 0) ⟨[(11, .row 1011), (12, .d (db y1.1))], [(1011, .row 63 eElement.size false (eElement.all y1.2))]⟩ ?_ ?_
 ·
  refine zD (fun x => ⟨[(4, .d (.pt (eCollation.cells a1))), (8, .d (zR eSpan t18.Classes)), (9, .d (.pt (eCollation.cells t21))), (10, .d (zR eI x.1)), (11, .row 1011), (12, .d (db x.2.1))], [(1011, .row 63 eElement.size false (eElement.all x.2.2))]⟩) hy1 (wc) ?_
  rintro ⟨v10, v12, r1011⟩ sy1 p1
  replace p1 : wS t18 t21 a1 v10 v12 r1011 = some sy1 := p1
  unfold wS at p1
  refine Q4 ?_
  refine q5 yF ?_
  refine Q60 ?_
  refine z6 p1 (fun p1 => ?_) (fun p1 => ?_)
  ·
   refine zP <| zWV ?_
   refine q20 G32 ?_
   refine q0 ?_
   have ⟨t32, ht32, p1⟩ := bE p1
   refine q6 (zOM ht32) ?_
   refine Q55 ?_
   refine q22 ?_
   refine q1 ?_
   refine q1 ?_
   refine Q15 ?_
   refine z2 MX rfl ?_
   refine q67 G32 ?_
   refine q4 ?_
   have ⟨t38, ht38, p1⟩ := bE p1
   refine q21 yF ht38 ?_
   refine q65 O3 ht38 ?_
   have ⟨t40, ht40, p1⟩ := bE p1
   refine q25 (zNF ht40) ?_
   refine Q49 ?_
   refine zY9 ?_
   have ⟨y2, hy2, p1⟩ := bE p1
   refine tl .normal ⟨[(4, .d (.pt (eCollation.cells a1))), (8, .d (zR eSpan t18.Classes)), (9, .d (.pt (eCollation.cells t21))), (11, .row 1011), (12, .d (db v12)), (14, .d (zR eI t32.2.1)), (15, .d (db t32.2.2)), (16, .d (zR eElement y2))], [(1011, .row 63 eElement.size false (eElement.all r1011))]⟩ ?_ ?_
   ·
    refine z6 hy2 (fun hy2 => ?_) (fun hy2 => ?_)
    ·
     refine zBC <| q20 G32 ?_
     refine q0 ?_
     have ⟨t45, ht45, hy2⟩ := bE hy2
     refine q6 (zIA ht45) ?_
     refine Q55 ?_
     refine Q1 ?_
     cases hy2
     exact zI (wc)
    ·
     refine zP ?_
     cases hy2
     exact zI (wc)
   ·
    refine Q0 ?_
    refine Q19 ?_
    have ⟨r1011_3, hr1011_3, p1⟩ := bE p1
    refine yW rfl (k7 (en := eElement) (l := r1011) (m := y2) (lq rfl) S38 rfl rfl rfl hr1011_3 (by decide) (by decide) rfl rfl) ?_
    refine Q17 ?_
    refine Q2 ?_
    have ⟨b52, hb52, p1⟩ := bE p1
    refine yH ((zC (lq rfl) rfl).bool (oi hb52)) ?_
    refine q12 (.d (db t32.2.2)) ?_
    refine Q43 ?_
    refine Q77 ?_
    cases p1
    exact wc
  ·
   refine zG ?_
   cases p1
   intro q; cases q
   exact zI (wc)
 ·
  refine Q0 ?_
  refine Q19 ?_
  refine q16 ?_
  refine Q1 ?_
  cases h
  refine zB ?_
  exact zEI rfl rfl
theorem zNH {a0 a1 a2 r} (h : zDO a0 a1 a2 = some r) : zF Tryz.prog 21 [(eNorm.dv a0), (eCollation.dv a1), (zR eI a2)] [(zR eElement r)] := by
 refine co Tryz.func21 ?_; intro _ _ _ _
 unfold zDO at h
 refine z3B ?_
 refine Q47 ?_
 refine q20 G28 ?_
 refine q20 G32 ?_
 refine q0 ?_
 have ⟨t13, ht13, h⟩ := bE h
 refine q6 (zMH ht13) ?_
 refine z6J ?_
 refine Q1 ?_
 cases h
 refine zB ?_
 exact zH rfl
set_option maxHeartbeats 8000000 in
theorem zMI {a0 a1 a2 r} (h : zBO a0 a1 a2 = some r) : zF Tryz.prog 22 [(eNorm.dv a0), (eCollation.dv a1), (zR eI a2)] [(db r)] := by
 refine co Tryz.func22 ?_; intro _ _ _ _
 unfold zBO at h
 refine z3B ?_
 refine Q15 ?_
 have ⟨t13, ht13, h⟩ := bE h
 have ⟨t15, ht15, h⟩ := bE h
 refine tl .normal ⟨[(2, .d (zR eI a2)), (3, .d (.pt (eNorm.cells a0))), (7, .ptr 2513 0)], [(2513, .box 90 [.d (zR eEntry t15.c.Entries), .d (zR eGroup t15.c.Groups), .d (di t15.c.Base), .d (di t15.c.Second), .d (di t15.c.Third), .row 3013, .d (di t15.longest), .d (zR eSpan t15.classes), .d (di t15.top)]), (3013, .map (wU zDJ (eL eElement) t15.entries))]⟩ ?_ ?_
 ·
  refine zCZ MX ?_
  refine xn [0,2] ?_
  refine q83 G32 ?_ ?_
  ·
   refine xn [1,2] ?_
   refine xb rfl (jO [(13, 2513), (11, 3013)] (jZ ht13) (lq rfl) (by decide) ⟨rfl, trivial⟩ rfl rfl trivial rfl rfl rfl (fun _ => rfl) rfl) ?_ ?_
   ·
    refine xn [2] ?_
    refine q42 G28 ?_
    refine xn [3] ?_
    refine xd rfl (jO [(3000, 2513), (3105, 3013)] (kQ ht15) (lq rfl) (by decide) ⟨rfl, rfl, trivial⟩ rfl rfl ⟨rfl, rfl, trivial⟩ rfl rfl rfl (fun _ => rfl) rfl) ?_
    refine xn [4] ?_
    refine z21 ?_
    exact ae
   refine q42 G28 ?_
   refine xn [1] ?_
   refine xd rfl (jO [(13, 2513), (11, 3013)] (jZ ht13) (lq rfl) (by decide) ⟨rfl, trivial⟩ rfl rfl trivial rfl rfl rfl (fun _ => rfl) rfl) ?_
   refine xn [3] ?_
   refine xd rfl (jO [(3000, 2513), (3105, 3013)] (kQ ht15) (lq rfl) (by decide) ⟨rfl, rfl, trivial⟩ rfl rfl ⟨rfl, rfl, trivial⟩ rfl rfl rfl (fun _ => rfl) rfl) ?_
   refine xn [4] ?_
   refine z21 ?_
   exact ae
  refine q42 G28 ?_
  refine xn [0] ?_
  refine q42 G32 ?_
  refine xn [1] ?_
  refine xd rfl (jO [(13, 2513), (11, 3013)] (jZ ht13) (lq rfl) (by decide) ⟨rfl, trivial⟩ rfl rfl trivial rfl rfl rfl (fun _ => rfl) rfl) ?_
  refine xn [3] ?_
  refine xd rfl (jO [(3000, 2513), (3105, 3013)] (kQ ht15) (lq rfl) (by decide) ⟨rfl, rfl, trivial⟩ rfl rfl ⟨rfl, rfl, trivial⟩ rfl rfl rfl (fun _ => rfl) rfl) ?_
  refine xn [4] ?_
  refine z21 ?_
  exact ae
 refine zQ (zDH (bid := 2513) (off := 5) rfl rfl rfl) ?_
 refine zQ (zW (t := 7) (lq rfl) rfl rfl rfl) ?_
 refine Q32 ?_
 refine q20 G28 ?_
 refine q0 ?_
 have ⟨t18, ht18, h⟩ := bE h
 refine yW rfl (jO [(2531, 2518)] (zHR ht18) (lq rfl) (by decide) ⟨rfl, rfl, rfl, trivial⟩ rfl rfl trivial rfl rfl rfl (fun _ => rfl) rfl) ?_
 refine Q17 ?_
 refine zQ (zDG (id := 2518) rfl) ?_
 refine kB ?_
 have ⟨y1, hy1, h⟩ := bE h
 refine zN y1 (.exit 0) (fun y1 => ⟨[], []⟩) .ret (fun y1 => ⟨[(6, .d (db y1))], []⟩) ?_ ?_ ?_
 ·
  refine zD (fun x => ⟨[(7, .d (.pt (eColltable_table.cells t15))), (8, .row 2518)], [(2518, .win 3 eI.size 0 (eI.all x))]⟩) hy1 (wc) ?_
  rintro r2518 sy1 p1
  replace p1 : jV t15 r2518 = some sy1 := p1
  unfold jV at p1
  refine Q32 ?_
  refine q11 ?_
  refine z6E yF ?_
  refine Q60 ?_
  refine z6 p1 (fun p1 => ?_) (fun p1 => ?_)
  ·
   refine zP <| zWV ?_
   refine q11 ?_
   have ⟨t25, ht25, p1⟩ := bE p1
   refine yW rfl (jO [(3001, 2518)] (xN ht25) (lq rfl) (by decide) ⟨rfl, rfl, trivial⟩ rfl rfl ⟨rfl, trivial⟩ rfl rfl rfl (fun _ => rfl) rfl) ?_
   refine yH (zJB (lq rfl) rfl) ?_
   refine q93 ?_
   refine q93 ?_
   refine q93 ?_
   refine Q78 ?_
   refine Q4 ?_
   refine Q38 ?_
   refine z6 p1 (fun p1 => ?_) (fun p1 => ?_)
   ·
    refine Q16 ?_
    cases p1
    intro q; cases q
    exact ⟨rfl, wc⟩
   ·
    refine zP <| zZH ?_
    have ⟨r2518_2, hr2518_2, p1⟩ := bE p1
    refine yW rfl (zWD (en := eI) (l := t25.2.2.2) (lq rfl) yF rfl rfl rfl hr2518_2 (Nat.le_refl _) rfl) ?_
    refine Q17 ?_
    cases p1
    exact wc
  ·
   refine zG ?_
   cases p1
   intro q; cases q
   exact ⟨rfl, wc⟩
 ·
  rintro y1 rfl
  replace h := eL h
  refine Q3 ?_
  cases h
  refine zB ?_
  exact zH rfl
 ·
  rintro y1 rfl
  replace h := eR h
  cases h
  exact zH rfl
theorem zRO {a0 a1 a2 r} (h : zGX a0 a1 a2 = some r) : zF Tryz.prog 23 [(eNorm.dv a0), (eCollation.dv a1), (zR eI a2)] [(db r)] := by
 refine co Tryz.func23 ?_; intro _ _ _ _
 unfold zGX at h
 refine z3B ?_
 refine Q47 ?_
 refine q20 G28 ?_
 refine q20 G32 ?_
 refine q0 ?_
 have ⟨t13, ht13, h⟩ := bE h
 refine q6 (zMH ht13) ?_
 refine z6J ?_
 refine Q1 ?_
 cases h
 refine zB ?_
 exact zH rfl
set_option maxRecDepth 40000 in
theorem law43_ColltableElements_c {a0 r} (h : vG a0 = some r) : zF Tryz.prog 6 [(eUnicodetextlaw43_Case.dv a0)] [(db r)] := by
 refine co Tryz.func6 ?_; intro _ _ _ _
 unfold vG at h
 refine Q0 ?_
 refine yFK ?_
 refine Q59 ?_
 refine q20 G35 ?_
 have ⟨t4, ht4, h⟩ := bE h
 refine q6 (zWX ht4) ?_
 refine Q38 ?_
 refine z6 h (fun h => ?_) (fun h => ?_)
 ·
  refine Q0 ?_
  have ⟨t6, ht6, h⟩ := bE h
  refine q6 (zKW ht6) ?_
  refine Q1 ?_
  cases h
  refine zB ?_
  exact zH rfl
 ·
  refine Q5 ?_
  refine z2 MX rfl ?_
  refine q23 zWM ?_
  refine z9W G28 ?_
  refine q23 zWN ?_
  refine z9W G32 ?_
  refine q23 zWO ?_
  refine q27 O33 ?_
  have ⟨t13, ht13, h⟩ := bE h
  refine q25 (zJP ht13) ?_
  refine q23 zWM ?_
  refine z9W G28 ?_
  refine q23 zWN ?_
  refine z9W G32 ?_
  refine q23 zWO ?_
  refine q27 O33 ?_
  have ⟨t20, ht20, h⟩ := bE h
  refine q25 (zNH ht20) ?_
  have ⟨t21, ht21, h⟩ := bE h
  refine q25 (zMA ht21) ?_
  have ⟨b22, hb22, h⟩ := bE h
  refine w8 ((zC (lq rfl) rfl).bool (oi hb22)) ?_
  refine q51 (.ip (eUnicodetextlaw43_Case.cells a0) (0 + 0)) zWM ?_
  refine q97 (.d (eNorm.dv a0.N)) G28 ?_
  refine q51 (.ip (eUnicodetextlaw43_Case.cells a0) (0 + 3)) zWN ?_
  refine q97 (.d (eCollation.dv a0.C)) G32 ?_
  refine q51 (.ip (eUnicodetextlaw43_Case.cells a0) (0 + 8)) zWO ?_
  refine q70 (.d (zR eI a0.Text)) O33 ?_
  have ⟨t29, ht29, h⟩ := bE h
  refine dat (.d (db t29)) rfl (fun hb => by subst hb; exact wA (lq rfl) rfl (zMI ht29)) ?_
  refine q51 (.ip (eUnicodetextlaw43_Case.cells a0) (0 + 0)) zWM ?_
  refine q97 (.d (eNorm.dv a0.N)) G28 ?_
  refine q51 (.ip (eUnicodetextlaw43_Case.cells a0) (0 + 3)) zWN ?_
  refine q97 (.d (eCollation.dv a0.C)) G32 ?_
  refine q51 (.ip (eUnicodetextlaw43_Case.cells a0) (0 + 8)) zWO ?_
  refine q70 (.d (zR eI a0.Text)) O33 ?_
  have ⟨t36, ht36, h⟩ := bE h
  refine dat (.d (db t36)) rfl (fun hb => by subst hb; exact wA (lq rfl) rfl (zRO ht36)) ?_
  refine dat (.d (db (t29 == t36))) rfl (fun hb => by subst hb; exact yCT (lq rfl) Tryz.underlying4 rfl rfl) ?_
  refine q64 ?_
  have ⟨b39, hb39, h⟩ := bE h
  refine w8 ((zC (lq rfl) rfl).bool (oi hb39)) ?_
  have ⟨t40, ht40, h⟩ := bE h
  refine dat (.d (db t40)) rfl (fun hb => by subst hb; exact wA (lq rfl) rfl (zKW ht40)) ?_
  refine q64 ?_
  refine Q49 ?_
  cases h
  refine zB ?_
  exact zH rfl
end Go.Proofs.YtgeaoceiacdadaaGreatDoor.Walk


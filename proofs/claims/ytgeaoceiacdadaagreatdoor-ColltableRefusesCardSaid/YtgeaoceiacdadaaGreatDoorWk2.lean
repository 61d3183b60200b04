/- Each function of the program answers as its plain counterpart does, where that answers. Conditions: none. -/
import Derived.Test.YtgeaoceiacdadaaGreatDoorMir
import Derived.Test.YtgeaoceiacdadaaGreatDoorProg
import Derived.Test.YtgeaoceiacdadaaGreatDoorWk1
set_option linter.unusedSimpArgs false
set_option linter.unusedVariables false
set_option linter.unnecessarySimpa false
namespace Go.Proofs.YtgeaoceiacdadaaGreatDoor.Walk
open Go.AV Go.M Go.RowKit Go.Proofs
theorem sort_Search_c {fv1 : DV} {a0 : Int} {a1 : Int → Option (Bool)} (hf1 : ∀ x0 y, a1 x0 = some y → FnC Tryz.prog fv1 [(di x0)] [(db y)]) {r : Int} (h : sort_Search a0 a1 = some r) : Contract Tryz.prog 82 [(di a0), fv1] [(di r)] := by
 refine contract_of Tryz.func82 (by kernel_rfl) rfl (lq rfl) (lq rfl) fun w0 I0 hI0 hG0 => ?_
 unfold sort_Search at h
 refine avc_sq2 <| avc_sq <| q1 ?_
 refine sq_nil <| avc_sq2 <| avc_sq <| q0 ?_
 refine q1 ?_
 refine q1 ?_
 refine sq_nil <| avc_sq2 <| avc_block ?_
 obtain ⟨y1, hy1, h'⟩ := bE h; clear h
 refine avc_tail (e := (.exit 0)) (S2 := ⟨[(5, .d (di y1))], []⟩) ?_ ?_
 ·
  refine avc_loopM (fun x => ⟨[(1, .d fv1), (5, .d (di x.1)), (6, .d (di x.2))], []⟩) hy1 (wc) ?_
  rintro ⟨v5, v6⟩ sy1 hsy1
  replace hsy1 : sort_Search_L0 a1 v5 v6 = some sy1 := hsy1
  unfold sort_Search_L0 at hsy1
  refine avc_sq2 <| avc_sq2 <| avc_sq <| q0 ?_
  refine q0 ?_
  refine q3 ?_
  refine sq_nil ?_
  refine avc_if rfl ⟨fun c1 => ?_, fun c1 => ?_⟩
  ·
   replace hsy1 := cT c1 hsy1
   refine avc_skip ?_
   obtain ⟨y2, hy2, hsy1'⟩ := bE hsy1; clear hsy1
   refine avc_tail (e := .normal) (S2 := ⟨[(1, .d fv1), (5, .d (di y2.1)), (6, .d (di y2.2))], []⟩) ?_ ?_
   ·
    refine avc_block <| avc_sq2 <| avc_sq <| q0 ?_
    refine q0 ?_
    refine q2 ?_
    refine q29 Tryz.underlying3 Tryz.underlying141 ?_
    refine sqa (a_shr (m := 1) (lq rfl) rfl rfl (by decide)) ?_
    refine q29 Tryz.underlying141 Tryz.underlying3 ?_
    refine q1 ?_
    refine sq_nil <| avc_sq2 <| avc_sq <| q0 ?_
    refine q0 ?_
    obtain ⟨t20, ht20, hy2'⟩ := bE hy2; clear hy2
    refine sqa (a_callF (lq rfl) rfl rfl (hf1 _ _ ht20)) ?_
    refine q16 ?_
    refine sq_nil ?_
    refine avc_if rfl ⟨fun c2 => ?_, fun c2 => ?_⟩
    ·
     replace hy2' := cT c2 hy2'
     refine avc_sq <| q0 ?_
     refine q2 ?_
     refine q1 ?_
     refine sq_nil ?_
     cases hy2'
     exact out_mk (wc)
    ·
     replace hy2' := cF c2 hy2'
     refine avc_sq <| q0 ?_
     refine q1 ?_
     refine sq_nil ?_
     cases hy2'
     exact out_mk (wc)
   ·
    cases hsy1'
    exact wc
  ·
   replace hsy1 := cF c1 hsy1
   refine avc_exit ?_
   cases hsy1
   intro q; cases q
   exact out_mk (wc)
 ·
  refine avc_sq2 <| avc_sq <| q0 ?_
  refine q1 ?_
  refine sq_nil ?_
  cases h'
  refine avc_ret ?_
  exact ret_1 rfl
theorem colltable_table_class_c  {a0 : Colltable_table} {a1 : Int}  {r : Int} (h : colltable_table_class a0 a1 = some r) : Contract Tryz.prog 56 [(.pt (eColltable_table.cells a0)), (di a1)] [(di r)] := by
 refine contract_of Tryz.func56 (by kernel_rfl) rfl (lq rfl) (lq rfl) fun w0 I0 hI0 hG0 => ?_
 unfold colltable_table_class at h
 refine avc_sq2 <| avc_sq ?_
 refine sqa (m_box (size := 1) (lq rfl) rfl rfl) ?_
 refine sqa (m_box (size := 1) (lq rfl) rfl rfl) ?_
 refine q1 ?_
 refine sq_nil <| avc_sq2 <| avc_sq <| q44 O66 ?_
 refine sqa (a_nil_pt (lq rfl) rfl) ?_
 refine q5 L90_3 ?_
 refine q6 O22 ?_
 refine sqa (m_len (en := eSpan) (l := a0.classes) (lq rfl) S22 rfl) ?_
 refine sqa (a_makeFunc (lq rfl) rfl) ?_
 obtain ⟨t12, ht12, h'⟩ := bE h; clear h
 refine sqa (a_call (lq rfl) rfl (sort_Search_c (fun _ _ q => .inl ⟨_, _, rfl, colltable_table_class_1_c q⟩) ht12)) ?_
 refine q1 ?_
 refine sq_nil <| avc_sq2 <| avc_sq2 ?_
 refine avc_drawA MX rfl ?_
 refine q4 ?_
 refine q54 O66 ?_
 refine q45 ?_
 refine q14 L90_3 ?_
 refine q15 O22 ?_
 refine daa (m_len (en := eSpan) (l := a0.classes) (lq rfl) S22 rfl) ?_
 refine q46 ?_
 obtain ⟨b20, hb20, h⟩ := bE h'; clear h'
 refine daa ((a_move_d (lq rfl) rfl).bool (Option.some.inj hb20)) ?_
 refine dat (.d (.pt (eColltable_table.cells a0))) rfl (fun hb => by subst hb; exact m_loadPt1 (lq rfl) O66 rfl) ?_
 refine dat (.d (.pt (eColltable_table.cells a0))) rfl (fun hb => by subst hb; exact a_nil_pt (lq rfl) rfl) ?_
 refine dat (.ip (eColltable_table.cells a0) (0 + 7)) rfl (fun hb => by subst hb; exact m_fieldPt (lq rfl) L90_3 rfl) ?_
 refine dat (.d (dsl eSpan a0.classes)) rfl (fun hb => by subst hb; exact a_load_ip (lq rfl) O22 rfl rfl) ?_
 refine dat (.d (di t12)) rfl (fun hb => by subst hb; exact a_move_d (lq rfl) rfl) ?_
 obtain ⟨t26, ht26, h'⟩ := bE h; clear h
 refine dat (.ip (eSpan.all a0.classes) (t12.toNat * eSpan.size)) rfl (fun hb => by subst hb; exact m_index (en := eSpan) (lq rfl) S22 rfl rfl ht26) ?_
 refine dat (.ip (eSpan.all a0.classes) (t12.toNat * eSpan.size + 0)) rfl (fun hb => by subst hb; exact a_fieldAddr_ip (lq rfl) L61_0 rfl) ?_
 refine dat (.d (di t26.Lo)) rfl (fun hb => by subst hb; exact m_loadE (en := eSpan) (l := a0.classes) (i := t12) (v := t26) (off := 0) (lq rfl) O3 rfl ht26 rfl) ?_
 refine dat (.d (di a1)) rfl (fun hb => by subst hb; exact m_loadPt1 (lq rfl) O3 rfl) ?_
 refine dat (.d (db (decide (t26.Lo ≤ a1)))) rfl (fun hb => by subst hb; exact a_leq (lq rfl) rfl rfl) ?_
 refine q30 ?_
 refine da_nil ?_
 refine avc_if rfl ⟨fun c1 => ?_, fun c1 => ?_⟩
 ·
  replace h' := cT c1 h'
  refine avc_sq2 <| avc_sq <| q44 O66 ?_
  refine sqa (a_nil_pt (lq rfl) rfl) ?_
  refine q5 L90_3 ?_
  refine q6 O22 ?_
  refine q0 ?_
  obtain ⟨t37, ht37, h⟩ := bE h'; clear h'
  refine sqa (m_index (en := eSpan) (lq rfl) S22 rfl rfl ht37) ?_
  refine q23 L61_2 ?_
  refine sqa (m_loadE (en := eSpan) (l := a0.classes) (i := t12) (v := t37) (off := 2) (lq rfl) O3 rfl ht37 rfl) ?_
  refine q1 ?_
  refine sq_nil ?_
  cases h
  refine avc_ret ?_
  exact ret_1 rfl
 ·
  replace h' := cF c1 h'
  refine avc_skip <| avc_sq2 <| avc_sq <| q1 ?_
  refine sq_nil ?_
  cases h'
  refine avc_ret ?_
  exact ret_1 rfl
theorem colltable_table_match_g  {a0 : Colltable_table} {a1 : (List Int)}  {r : Int × (List Element) × Bool × (List Int)} (h : colltable_table_match a0 a1 = some r) : GC Tryz.prog 30 [.d (.pt (eColltable_table.cells a0)), .row 3001] [(3001, .win 3 eI.size 0 (eI.all a1))] [3001] [.d (di r.1), .d (dsl eElement r.2.1), .d (db r.2.2.1)] [(3001, .win 3 eI.size r.1.toNat (eI.all r.2.2.2))] := by
 refine gc_of Tryz.func30 (by kernel_rfl) rfl (lq rfl) (lq rfl) fun w0 I0 hG0 p0 => ?_
 unfold colltable_table_match at h
 refine avc_sq2 <| avc_sq <| q1 ?_
 refine q1 ?_
 refine q1 ?_
 refine sq_nil <| avc_sq2 <| avc_sq <| q0 ?_
 refine sqa (a_nil_pt (lq rfl) rfl) ?_
 refine q5 L90_2 ?_
 refine q6 O3 ?_
 refine q7 ?_
 refine sqa (m_lenW (en := eI) (l := a1) (lq rfl) S33 rfl rfl) ?_
 refine q49 ?_
 refine q1 ?_
 refine sq_nil <| avc_sq2 <| avc_block ?_
 obtain ⟨y1, hy1, h'⟩ := bE h; clear h
 refine avc_tail (e := (.exit 0)) (S2 := ⟨[(0, .d (.pt (eColltable_table.cells a0))), (1, .row 3001), (7, .d (di y1))], [(3001, .win 3 eI.size 0 (eI.all a1))]⟩) ?_ ?_
 ·
  refine avc_loopM (fun x => ⟨[(0, .d (.pt (eColltable_table.cells a0))), (1, .row 3001), (7, .d (di x))], [(3001, .win 3 eI.size 0 (eI.all a1))]⟩) hy1 (wc) ?_
  rintro v7 sy1 hsy1
  replace hsy1 : colltable_table_match_L0 a1 a0 v7 = some sy1 := hsy1
  unfold colltable_table_match_L0 at hsy1
  refine avc_sq2 <| avc_sq2 <| avc_sq <| q0 ?_
  refine q25 ?_
  refine sq_nil ?_
  refine avc_if rfl ⟨fun c1 => ?_, fun c1 => ?_⟩
  ·
   replace hsy1 := cT c1 hsy1
   refine avc_skip <| avc_block <| avc_sq2 <| avc_sq2 <| avc_sq <| q0 ?_
   refine q7 ?_
   refine q0 ?_
   obtain ⟨t31, ht31, hsy1'⟩ := bE hsy1; clear hsy1
   refine sqa (m_sliceHW (en := eI) (l := a1) (lq rfl) S33 rfl rfl rfl ht31) ?_
   obtain ⟨t32, ht32, hsy1⟩ := bE hsy1'; clear hsy1'
   refine sq_b rfl (s_callT (lq rfl) ⟨_, _, rfl, .d _, ⟨_, _, rfl, .front rfl ht31, rfl⟩⟩ (colltable_table_find_c ht32)) ?_
   refine sqa (a_move_tupc (lq rfl) rfl) ?_
   refine q40 ?_
   refine q40 ?_
   refine sqa (a_assign_top (lq rfl)) ?_
   refine q1 ?_
   refine sq_nil <| avc_sq2 <| avc_sq <| q0 ?_
   refine sq_nil ?_
   refine avc_if rfl ⟨fun c2 => ?_, fun c2 => ?_⟩
   ·
    replace hsy1 := cT c2 hsy1
    refine avc_exit ?_
    cases hsy1
    intro q; cases q
    exact out_mk (wc)
   ·
    replace hsy1 := cF c2 hsy1
    refine avc_skip <| avc_sq <| q0 ?_
    refine q17 ?_
    refine q1 ?_
    refine sq_nil ?_
    cases hsy1
    exact wc
  ·
   replace hsy1 := cF c1 hsy1
   refine avc_exit ?_
   cases hsy1
   intro q; cases q
   exact out_mk (wc)
 ·
  refine avc_sq2 <| avc_sq2 <| avc_sq <| q0 ?_
  refine q26 ?_
  refine sq_nil ?_
  refine avc_if rfl ⟨fun c3 => ?_, fun c3 => ?_⟩
  ·
   replace h' := cT c3 h'
   refine avc_sq2 <| avc_sq <| q0 ?_
   refine q7 ?_
   obtain ⟨t42, ht42, h⟩ := bE h'; clear h'
   refine sqa (m_indexW (en := eI) (l := a1) (lq rfl) S33 rfl rfl rfl ht42) ?_
   refine sqa (m_loadW (en := eI) (l := a1) (i := (0 : Int)) (v := t42) (lq rfl) O3 rfl rfl ht42 rfl) ?_
   obtain ⟨t44, ht44, h'⟩ := bE h; clear h
   refine sqa (a_call (lq rfl) rfl (colltable_table_implicit_c ht44)) ?_
   refine q1 ?_
   refine q1 ?_
   refine q1 ?_
   refine sq_nil ?_
   refine avc_weak (weak_win_k (id := 3001) ((1 : Int).toNat) rfl (Nat.zero_le _)) ?_
   cases h'
   refine avc_ret ?_
   exact ⟨⟨_, _, rfl, rfl, ⟨_, _, rfl, rfl, ⟨_, _, rfl, rfl, rfl⟩⟩⟩, ⟨rfl, trivial⟩⟩
  ·
   replace h' := cF c3 h'
   refine avc_skip <| avc_sq2 <| avc_sq <| q1 ?_
   refine sq_nil <| avc_sq2 <| avc_sq2 <| avc_sq <| q0 ?_
   refine q1 ?_
   refine sq_nil <| avc_block ?_
   obtain ⟨y2, hy2, h⟩ := bE h'; clear h'
   refine avc_tail (e := (.exit 2)) (S2 := ⟨[(0, .d (.pt (eColltable_table.cells a0))), (1, .row 3001), (7, .d (di y2.1))], [(3001, .win 3 eI.size 0 (eI.all y2.2))]⟩) ?_ ?_
   ·
    refine avc_loopM (fun x => ⟨[(0, .d (.pt (eColltable_table.cells a0))), (1, .row 3001), (7, .d (di x.1)), (10, .d (di x.2.1)), (11, .d (di x.2.2.1))], [(3001, .win 3 eI.size 0 (eI.all x.2.2.2))]⟩) hy2 (wc) ?_
    rintro ⟨v7, v10, v11, r3001⟩ sy2 hsy2
    replace hsy2 : colltable_table_match_L1 a0 v7 v10 v11 r3001 = some sy2 := hsy2
    unfold colltable_table_match_L1 at hsy2
    refine avc_sq2 <| avc_sq2 <| avc_sq <| q0 ?_
    refine q7 ?_
    refine sqa (m_lenW (en := eI) (l := r3001) (lq rfl) S33 rfl rfl) ?_
    refine q3 ?_
    obtain ⟨b50, hb50, hsy2'⟩ := bE hsy2; clear hsy2
    refine sqa ((a_move_d (lq rfl) rfl).bool (Option.some.inj hb50)) ?_
    refine sqt (.d (di v10)) rfl (fun hb => by subst hb; exact a_move_d (lq rfl) rfl) ?_
    refine sqt (.d (.pt (eColltable_table.cells a0))) rfl (fun hb => by subst hb; exact a_move_d (lq rfl) rfl) ?_
    refine sqt (.d (.pt (eColltable_table.cells a0))) rfl (fun hb => by subst hb; exact a_nil_pt (lq rfl) rfl) ?_
    refine sqt (.ip (eColltable_table.cells a0) (0 + 8)) rfl (fun hb => by subst hb; exact m_fieldPt (lq rfl) L90_4 rfl) ?_
    refine sqt (.d (di a0.top)) rfl (fun hb => by subst hb; exact a_load_ip (lq rfl) O3 rfl rfl) ?_
    refine sqt (.d (db (decide (v10 < a0.top)))) rfl (fun hb => by subst hb; exact a_lss (lq rfl) rfl rfl) ?_
    refine q8 ?_
    refine sq_nil ?_
    refine avc_if rfl ⟨fun c4 => ?_, fun c4 => ?_⟩
    ·
     replace hsy2' := cT c4 hsy2'
     refine avc_skip <| avc_sq2 ?_
     obtain ⟨y3, hy3, hsy2⟩ := bE hsy2'; clear hsy2'
     refine avc_tail2 y3 (.exit 2) (fun y3 => ⟨[(0, .d (.pt (eColltable_table.cells a0))), (1, .row 3001), (7, .d (di v7))], [(3001, .win 3 eI.size 0 (eI.all r3001))]⟩) .normal (fun y3 => ⟨[(0, .d (.pt (eColltable_table.cells a0))), (1, .row 3001), (7, .d (di y3.1)), (10, .d (di y3.2.1)), (11, .d (di v11))], [(3001, .win 3 eI.size 0 (eI.all y3.2.2))]⟩) ?_ ?_ ?_
     ·
      refine avc_block <| avc_sq2 <| avc_sq <| q7 ?_
      refine q0 ?_
      obtain ⟨t62, ht62, hy3'⟩ := bE hy3; clear hy3
      refine sqa (m_indexW (en := eI) (l := r3001) (lq rfl) S33 rfl rfl rfl ht62) ?_
      refine sqa (m_loadW (en := eI) (l := r3001) (i := v11) (v := t62) (lq rfl) O3 rfl rfl ht62 rfl) ?_
      refine q1 ?_
      refine sq_nil <| avc_sq2 <| avc_sq <| q0 ?_
      refine q0 ?_
      obtain ⟨t66, ht66, hy3⟩ := bE hy3'; clear hy3'
      refine sqa (a_call (lq rfl) rfl (colltable_table_class_c ht66)) ?_
      refine q1 ?_
      refine sq_nil <| avc_sq2 <| avc_sq2 <| avc_sq <| q0 ?_
      refine q26 ?_
      refine sq_nil ?_
      refine avc_if rfl ⟨fun c5 => ?_, fun c5 => ?_⟩
      ·
       replace hy3 := cT c5 hy3
       refine avc_exit ?_
       cases hy3
       exact ⟨rfl, wc⟩
      ·
       replace hy3 := cF c5 hy3
       refine avc_skip <| avc_sq2 <| avc_sq2 <| avc_sq <| q0 ?_
       refine q0 ?_
       refine q32 ?_
       refine sq_nil ?_
       refine avc_if rfl ⟨fun c6 => ?_, fun c6 => ?_⟩
       ·
        replace hy3 := cT c6 hy3
        refine avc_exit ?_
        cases hy3
        exact ⟨rfl, wc⟩
       ·
        replace hy3 := cF c6 hy3
        refine avc_skip <| avc_sq2 <| avc_sq2 <| avc_sq <| q0 ?_
        refine q7 ?_
        refine q0 ?_
        refine q0 ?_
        obtain ⟨t77, ht77, hy3'⟩ := bE hy3; clear hy3
        refine sqa (m_slice3W (en := eI) (l := r3001) (lq rfl) S33 rfl rfl rfl rfl ht77) ?_
        refine q0 ?_
        refine q21 S33 ?_
        obtain ⟨r80_4, hr80_4, hy3⟩ := bE hy3'; clear hy3'
        refine sq_b rfl (m_appendW (en := eI) (l := r3001) (b := v7) (lq rfl) S33 rfl rfl ht77 rfl (by simp) hr80_4 (by decide) rfl) ?_
        obtain ⟨t81, ht81, hy3'⟩ := bE hy3; clear hy3
        refine sq_b rfl (s_call (lq rfl) rfl rfl (colltable_table_find_c ht81)) ?_
        refine q27 ?_
        refine q13 ?_
        refine q13 ?_
        refine q1 ?_
        refine q1 ?_
        refine sq_nil <| avc_sq2 <| avc_sq <| q0 ?_
        refine q16 ?_
        refine sq_nil ?_
        refine avc_if rfl ⟨fun c7 => ?_, fun c7 => ?_⟩
        ·
         replace hy3' := cT c7 hy3'
         refine avc_sq2 <| avc_sq <| q0 ?_
         refine q1 ?_
         refine sq_nil <| avc_exit ?_
         cases hy3'
         exact ⟨rfl, wc⟩
        ·
         replace hy3' := cF c7 hy3'
         refine avc_skip <| avc_sq2 ?_
         refine avc_draw 10 MX rfl ?_
         refine q34 ?_
         refine q4 ?_
         refine q53 ?_
         refine q4 ?_
         refine q53 ?_
         obtain ⟨t92, ht92, hy3⟩ := bE hy3'; clear hy3'
         refine daa (m_sliceW (en := eI) (l := r3001) (lq rfl) S33 rfl rfl rfl rfl ht92) ?_
         refine q34 ?_
         refine q4 ?_
         refine q4 ?_
         obtain ⟨t96, ht96, hy3'⟩ := bE hy3; clear hy3
         refine daa (m_sliceW (en := eI) (l := r3001) (lq rfl) S33 rfl rfl rfl rfl ht96) ?_
         refine da_nil ?_
         refine sq_b rfl (m_copyW (en := eI) (l := r3001) (a1 := (wi (v7 + 1))) (b1 := (wi (v11 + 1))) (a2 := v7) (b2 := v11) (lq rfl) S33 rfl rfl rfl ht92 ht96 rfl) ?_
         refine sq_nil <| avc_sq2 <| avc_sq <| q7 ?_
         refine q0 ?_
         refine q0 ?_
         obtain ⟨t101, ht101, hy3⟩ := bE hy3'; clear hy3'
         refine sqa (m_indexW (en := eI) (l := (cpM r3001 (wi (v7 + 1)) (wi (v11 + 1)) v7 v11)) (lq rfl) S33 rfl rfl rfl ht101) ?_
         obtain ⟨r3001_5, hr3001_5, hy3'⟩ := bE hy3; clear hy3
         refine sq_b rfl (m_storeW (en := eI) (l := (cpM r3001 (wi (v7 + 1)) (wi (v11 + 1)) v7 v11)) (i := v7) (v := t62) O3 rfl rfl rfl ht101 hr3001_5 rfl rfl rfl rfl) ?_
         refine sq_nil <| avc_sq <| q0 ?_
         refine q2 ?_
         refine q1 ?_
         refine sq_nil ?_
         cases hy3'
         exact ⟨rfl, wc⟩
     ·
      rintro y3 rfl
      replace hsy2 := eL hsy2
      cases hsy2
      intro q; cases q
      exact out_mk (wc)
     ·
      rintro y3 rfl
      replace hsy2 := eR hsy2
      refine avc_sq <| q0 ?_
      refine q2 ?_
      refine q1 ?_
      refine sq_nil ?_
      cases hsy2
      exact wc
    ·
     replace hsy2' := cF c4 hsy2'
     refine avc_exit ?_
     cases hsy2'
     intro q; cases q
     exact out_mk (wc)
   ·
    refine avc_sq2 <| avc_sq <| q0 ?_
    refine q7 ?_
    refine q0 ?_
    obtain ⟨t108, ht108, h'⟩ := bE h; clear h
    refine sqa (m_sliceHW (en := eI) (l := y2.2) (lq rfl) S33 rfl rfl rfl ht108) ?_
    refine sq_weak (weak_front (tm := 108) (en := eI) (l := y2.2) (b := y2.1) (lq rfl) rfl rfl ht108) ?_ (by simp)
    obtain ⟨t109, ht109, h⟩ := bE h'; clear h'
    refine sq_b rfl ((a_call (lq rfl) rfl (colltable_table_find_c ht109)).step) ?_
    refine q27 ?_
    refine q13 ?_
    refine q13 ?_
    refine q1 ?_
    refine q1 ?_
    refine sq_nil <| avc_sq2 <| avc_sq <| q0 ?_
    refine q0 ?_
    refine q1 ?_
    refine q1 ?_
    refine q1 ?_
    refine sq_nil ?_
    cases h
    refine avc_ret ?_
    exact ⟨⟨_, _, rfl, rfl, ⟨_, _, rfl, rfl, ⟨_, _, rfl, rfl, rfl⟩⟩⟩, ⟨rfl, trivial⟩⟩
theorem slices_Clone_api_Element_api_Element_g {a0 r : (List Element)} (h : slices_Clone_api_Element_api_Element a0 = some r) : GC Tryz.prog 31 [.d (dsl eElement a0)] [] [] [.row 5] [(5, .row 63 eElement.size false (eElement.all r))] := by
 unfold slices_Clone_api_Element_api_Element at h
 cases a0 with
 | nil =>
  refine gc_empty (by decide) fun B c => ?_
  refine gc_of Tryz.func31 (by kernel_rfl) rfl (lq rfl) (lq rfl) fun w0 I0 hG0 p0 => ?_
  refine avc_sq2 <| avc_sq <| q1 ?_
  refine sq_nil <| avc_sq2 <| avc_sq2 <| avc_sq <| q0 ?_
  refine sqa (a_eqnil_v (lq rfl) Tryz.underlying38 rfl) ?_
  refine sq_nil ?_
  refine avc_if rfl ⟨fun c1 => ?_, fun c1 => ?_⟩
  ·
   obtain ⟨rfl, _⟩ := app_some h
   refine avc_sq2 <| avc_sq <| q1 ?_
   refine sq_nil ?_
   refine avc_weak (weak_nil (t := 2) 5 63 eElement.size (lq rfl) (lq rfl) rfl rfl) ?_
   refine avc_ret ?_
   exact ⟨⟨_, _, rfl, rfl, rfl⟩, rfl, trivial⟩
  ·
   refine avc_skip ?_
   refine avc_sq2 <| avc_sq <| q35 S38 ?_
   refine q0 ?_
   refine sq_weak (weak_empty_d (t := 6) eElement.size (lq rfl) rfl) ?_ (by simp)
   refine sq_b rfl (m_append (en := eElement) (l := []) (m := []) (lq rfl) S38 rfl rfl rfl h (by decide) (by decide) rfl rfl) ?_
   refine q9 ?_
   refine sq_nil <| avc_ret ?_
   exact ⟨⟨_, _, rfl, rfl, rfl⟩, rfl, trivial⟩
 | cons x l =>
  refine gc_of Tryz.func31 (by kernel_rfl) rfl (lq rfl) (lq rfl) fun w0 I0 hG0 p0 => ?_
  refine avc_sq2 <| avc_sq <| q1 ?_
  refine sq_nil <| avc_sq2 <| avc_sq2 <| avc_sq <| q0 ?_
  refine sqa (a_eqnil (lq rfl) Tryz.underlying38 rfl (all_ne (by decide))) ?_
  refine sq_nil ?_
  refine avc_if rfl ⟨fun c1 => (by cases c1), fun c1 => ?_⟩
  refine avc_skip <| avc_sq2 <| avc_sq <| q35 S38 ?_
  refine q0 ?_
  refine sq_b rfl (m_append (en := eElement) (l := []) (m := x :: l) (lq rfl) S38 rfl rfl rfl h (by decide) (by decide) rfl rfl) ?_
  refine q9 ?_
  refine sq_nil <| avc_ret ?_
  exact ⟨⟨_, _, rfl, rfl, rfl⟩, rfl, trivial⟩
set_option maxHeartbeats 8000000 in
theorem colltable_Step_c  {a0 : Norm} {a1 : Collation} {a2 : (List Int)}  {r : Int × (List Int) × (List Element)} (h : colltable_Step a0 a1 a2 = some r) : Contract Tryz.prog 9 [(eNorm.dv a0), (eCollation.dv a1), (dsl eI a2)] [(di r.1), (dsl eI r.2.1), (dsl eElement r.2.2)] := by
 refine contract_of Tryz.func9 (by kernel_rfl) rfl (lq rfl) (lq rfl) fun w0 I0 hI0 hG0 => ?_
 unfold colltable_Step at h
 refine avc_sq2 <| avc_sq ?_
 refine sqa (m_box (size := 3) (lq rfl) rfl rfl) ?_
 refine sqa (m_box (size := 5) (lq rfl) rfl rfl) ?_
 refine q1 ?_
 refine q1 ?_
 refine q1 ?_
 refine sq_nil <| avc_sq2 <| avc_sq2 <| avc_sq <| q0 ?_
 refine sqa (m_len (en := eI) (l := a2) (lq rfl) S33 rfl) ?_
 refine q26 ?_
 refine sq_nil ?_
 refine avc_if rfl ⟨fun c1 => ?_, fun c1 => ?_⟩
 ·
  replace h := cT c1 h
  refine avc_sq2 <| avc_sq <| q1 ?_
  refine q1 ?_
  refine q1 ?_
  refine sq_nil ?_
  refine avc_weak (weak_nil_d (t := 7) eI.size (lq rfl) rfl) ?_
  refine avc_weak (weak_nil_d (t := 8) eElement.size (lq rfl) rfl) ?_
  cases h
  refine avc_ret ?_
  exact ret_three rfl rfl rfl
 ·
  replace h := cF c1 h
  refine avc_skip <| avc_sq2 <| avc_sq <| q0 ?_
  obtain ⟨t17, ht17, h'⟩ := bE h; clear h
  refine sq_b rfl (g_call [(5, 2517)] (slices_Clone_int_int_g ht17) (lq rfl) (by decide) ⟨rfl, trivial⟩ rfl rfl trivial rfl rfl rfl (fun _ => rfl) rfl) ?_
  refine q9 ?_
  refine sq_nil <| avc_sq2 ?_
  obtain ⟨t20, ht20, h⟩ := bE h'; clear h'
  obtain ⟨t22, ht22, h'⟩ := bE h; clear h
  obtain ⟨t24, ht24, h⟩ := bE h'; clear h'
  refine avc_tail (e := .normal) (S2 := ⟨[(9, .row 2517), (10, .d (di t24.1)), (11, .d (dsl eElement t24.2.1))], [(2517, .win 3 eI.size t24.1.toNat (eI.all t24.2.2.2))]⟩) ?_ ?_
  ·
   refine avc_any MX ?_
   refine any_move (i := 4) rfl (lq rfl) rfl rfl rfl rfl ?_
   refine xn [0,2] ?_
   refine xa rfl (m_loadPt (lq rfl) G32 rfl rfl) ?_ ?_
   ·
    refine xn [1,2] ?_
    refine xb rfl (g_call [(13, 2520), (11, 3020)] (colltable_made_g ht20) (lq rfl) (by decide) ⟨rfl, trivial⟩ rfl rfl trivial rfl rfl rfl (fun _ => rfl) rfl) ?_ ?_
    ·
     refine xn [2] ?_
     refine xc rfl (m_loadPt (lq rfl) G28 rfl rfl) ?_
     refine xn [3] ?_
     refine xd rfl (g_call [(3000, 2520), (3105, 3020)] (colltable_table_with_g ht22) (lq rfl) (by decide) ⟨rfl, rfl, trivial⟩ rfl rfl ⟨rfl, rfl, trivial⟩ rfl rfl rfl (fun _ => rfl) rfl) ?_
     refine any_w (weak_map_box (bid := 2520) (off := 5) rfl rfl rfl) ?_
     refine any_w (weak_freeze (t := 22) (lq rfl) rfl rfl rfl) ?_
     refine any_w (weak_row_win (id := 2517) rfl) ?_
     refine xn [5] ?_
     refine xd rfl (g_call [(3001, 2517)] (colltable_table_match_g ht24) (lq rfl) (by decide) ⟨rfl, rfl, trivial⟩ rfl rfl ⟨rfl, trivial⟩ rfl rfl rfl (fun _ => rfl) rfl) ?_
     refine any_move (i := 6) rfl (lq rfl) rfl rfl rfl rfl ?_
     refine any_extractC (i := 7) rfl (lq rfl) rfl rfl rfl rfl rfl rfl ?_
     refine any_extractC (i := 8) rfl (lq rfl) rfl rfl rfl rfl rfl rfl ?_
     refine any_extractC (i := 9) rfl (lq rfl) rfl rfl rfl rfl rfl rfl ?_
     refine xn [10] ?_
     refine xc rfl (a_assign_d (lq rfl) rfl) ?_
     refine xn [11] ?_
     refine xc rfl (a_assign_d (lq rfl) rfl) ?_
     refine xn [12] ?_
     refine xc rfl (a_assign_d (lq rfl) rfl) ?_
     exact any_end rfl (out_mk (wc))
    refine xc rfl (m_loadPt (lq rfl) G28 rfl rfl) ?_
    refine xn [1] ?_
    refine xd rfl (g_call [(13, 2520), (11, 3020)] (colltable_made_g ht20) (lq rfl) (by decide) ⟨rfl, trivial⟩ rfl rfl trivial rfl rfl rfl (fun _ => rfl) rfl) ?_
    refine xn [3] ?_
    refine xd rfl (g_call [(3000, 2520), (3105, 3020)] (colltable_table_with_g ht22) (lq rfl) (by decide) ⟨rfl, rfl, trivial⟩ rfl rfl ⟨rfl, rfl, trivial⟩ rfl rfl rfl (fun _ => rfl) rfl) ?_
    refine any_w (weak_map_box (bid := 2520) (off := 5) rfl rfl rfl) ?_
    refine any_w (weak_freeze (t := 22) (lq rfl) rfl rfl rfl) ?_
    refine any_w (weak_row_win (id := 2517) rfl) ?_
    refine xn [5] ?_
    refine xd rfl (g_call [(3001, 2517)] (colltable_table_match_g ht24) (lq rfl) (by decide) ⟨rfl, rfl, trivial⟩ rfl rfl ⟨rfl, trivial⟩ rfl rfl rfl (fun _ => rfl) rfl) ?_
    refine any_move (i := 6) rfl (lq rfl) rfl rfl rfl rfl ?_
    refine any_extractC (i := 7) rfl (lq rfl) rfl rfl rfl rfl rfl rfl ?_
    refine any_extractC (i := 8) rfl (lq rfl) rfl rfl rfl rfl rfl rfl ?_
    refine any_extractC (i := 9) rfl (lq rfl) rfl rfl rfl rfl rfl rfl ?_
    refine xn [10] ?_
    refine xc rfl (a_assign_d (lq rfl) rfl) ?_
    refine xn [11] ?_
    refine xc rfl (a_assign_d (lq rfl) rfl) ?_
    refine xn [12] ?_
    refine xc rfl (a_assign_d (lq rfl) rfl) ?_
    exact any_end rfl (out_mk (wc))
   refine xc rfl (m_loadPt (lq rfl) G28 rfl rfl) ?_
   refine xn [0] ?_
   refine xc rfl (m_loadPt (lq rfl) G32 rfl rfl) ?_
   refine xn [1] ?_
   refine xd rfl (g_call [(13, 2520), (11, 3020)] (colltable_made_g ht20) (lq rfl) (by decide) ⟨rfl, trivial⟩ rfl rfl trivial rfl rfl rfl (fun _ => rfl) rfl) ?_
   refine xn [3] ?_
   refine xd rfl (g_call [(3000, 2520), (3105, 3020)] (colltable_table_with_g ht22) (lq rfl) (by decide) ⟨rfl, rfl, trivial⟩ rfl rfl ⟨rfl, rfl, trivial⟩ rfl rfl rfl (fun _ => rfl) rfl) ?_
   refine any_w (weak_map_box (bid := 2520) (off := 5) rfl rfl rfl) ?_
   refine any_w (weak_freeze (t := 22) (lq rfl) rfl rfl rfl) ?_
   refine any_w (weak_row_win (id := 2517) rfl) ?_
   refine xn [5] ?_
   refine xd rfl (g_call [(3001, 2517)] (colltable_table_match_g ht24) (lq rfl) (by decide) ⟨rfl, rfl, trivial⟩ rfl rfl ⟨rfl, trivial⟩ rfl rfl rfl (fun _ => rfl) rfl) ?_
   refine any_move (i := 6) rfl (lq rfl) rfl rfl rfl rfl ?_
   refine any_extractC (i := 7) rfl (lq rfl) rfl rfl rfl rfl rfl rfl ?_
   refine any_extractC (i := 8) rfl (lq rfl) rfl rfl rfl rfl rfl rfl ?_
   refine any_extractC (i := 9) rfl (lq rfl) rfl rfl rfl rfl rfl rfl ?_
   refine xn [10] ?_
   refine xc rfl (a_assign_d (lq rfl) rfl) ?_
   refine xn [11] ?_
   refine xc rfl (a_assign_d (lq rfl) rfl) ?_
   refine xn [12] ?_
   refine xc rfl (a_assign_d (lq rfl) rfl) ?_
   exact any_end rfl (out_mk (wc))
  refine avc_weak (weak_win_d (t := 9) (lq rfl) rfl rfl) ?_
  refine avc_sq2 ?_
  obtain ⟨t35, ht35, h'⟩ := bE h; clear h
  obtain ⟨t37, ht37, h⟩ := bE h'; clear h'
  refine avc_tail (e := .normal) (S2 := ⟨[(6, .d (di t24.1)), (7, .d (dsl eI t35)), (8, .row 2537)], [(2537, .row 63 eElement.size false (eElement.all t37))]⟩) ?_ ?_
  ·
   refine avc_any MX ?_
   refine any_move (i := 0) rfl (lq rfl) rfl rfl rfl rfl ?_
   refine any_move (i := 1) rfl (lq rfl) rfl rfl rfl rfl ?_
   refine any_move (i := 2) rfl (lq rfl) rfl rfl rfl rfl ?_
   refine any_move (i := 3) rfl (lq rfl) rfl rfl rfl rfl ?_
   refine any_move (i := 5) rfl (lq rfl) rfl rfl rfl rfl ?_
   refine any_move (i := 8) rfl (lq rfl) rfl rfl rfl rfl ?_
   refine xn [4,6,9] ?_
   refine xa rfl (m_len (en := eI) (l := t24.2.2.2) (lq rfl) S33 rfl) ?_ ?_
   ·
    refine xn [6,9] ?_
    refine xa rfl (m_len (en := eI) (l := t24.2.2.2) (lq rfl) S33 rfl) ?_ ?_
    ·
     refine xn [7,9] ?_
     refine xa rfl (m_slice3 (en := eI) (lq rfl) S33 rfl rfl rfl rfl ht35) ?_ ?_
     ·
      refine xn [9] ?_
      refine xd rfl (g_call [(5, 2537)] (slices_Clone_api_Element_api_Element_g ht37) (lq rfl) (by decide) ⟨rfl, trivial⟩ rfl rfl trivial rfl rfl rfl (fun _ => rfl) rfl) ?_
      refine xn [10] ?_
      refine xc rfl (a_assign_d (lq rfl) rfl) ?_
      refine xn [11] ?_
      refine xc rfl (a_assign_d (lq rfl) rfl) ?_
      refine xn [12] ?_
      refine xc rfl (a_assign_row (lq rfl) rfl) ?_
      exact any_end rfl (out_mk (wc))
     refine xd rfl (g_call [(5, 2537)] (slices_Clone_api_Element_api_Element_g ht37) (lq rfl) (by decide) ⟨rfl, trivial⟩ rfl rfl trivial rfl rfl rfl (fun _ => rfl) rfl) ?_
     refine xn [7,10] ?_
     refine xa rfl (m_slice3 (en := eI) (lq rfl) S33 rfl rfl rfl rfl ht35) ?_ ?_
     ·
      refine xn [10] ?_
      refine xc rfl (a_assign_d (lq rfl) rfl) ?_
      refine xn [11] ?_
      refine xc rfl (a_assign_d (lq rfl) rfl) ?_
      refine xn [12] ?_
      refine xc rfl (a_assign_row (lq rfl) rfl) ?_
      exact any_end rfl (out_mk (wc))
     refine xc rfl (a_assign_d (lq rfl) rfl) ?_
     refine xn [7] ?_
     refine xc rfl (m_slice3 (en := eI) (lq rfl) S33 rfl rfl rfl rfl ht35) ?_
     refine xn [11] ?_
     refine xc rfl (a_assign_d (lq rfl) rfl) ?_
     refine xn [12] ?_
     refine xc rfl (a_assign_row (lq rfl) rfl) ?_
     exact any_end rfl (out_mk (wc))
    refine xd rfl (g_call [(5, 2537)] (slices_Clone_api_Element_api_Element_g ht37) (lq rfl) (by decide) ⟨rfl, trivial⟩ rfl rfl trivial rfl rfl rfl (fun _ => rfl) rfl) ?_
    refine xn [6,10] ?_
    refine xa rfl (m_len (en := eI) (l := t24.2.2.2) (lq rfl) S33 rfl) ?_ ?_
    ·
     refine xn [7,10] ?_
     refine xa rfl (m_slice3 (en := eI) (lq rfl) S33 rfl rfl rfl rfl ht35) ?_ ?_
     ·
      refine xn [10] ?_
      refine xc rfl (a_assign_d (lq rfl) rfl) ?_
      refine xn [11] ?_
      refine xc rfl (a_assign_d (lq rfl) rfl) ?_
      refine xn [12] ?_
      refine xc rfl (a_assign_row (lq rfl) rfl) ?_
      exact any_end rfl (out_mk (wc))
     refine xc rfl (a_assign_d (lq rfl) rfl) ?_
     refine xn [7] ?_
     refine xc rfl (m_slice3 (en := eI) (lq rfl) S33 rfl rfl rfl rfl ht35) ?_
     refine xn [11] ?_
     refine xc rfl (a_assign_d (lq rfl) rfl) ?_
     refine xn [12] ?_
     refine xc rfl (a_assign_row (lq rfl) rfl) ?_
     exact any_end rfl (out_mk (wc))
    refine xc rfl (a_assign_d (lq rfl) rfl) ?_
    refine xn [6] ?_
    refine xc rfl (m_len (en := eI) (l := t24.2.2.2) (lq rfl) S33 rfl) ?_
    refine xn [7] ?_
    refine xc rfl (m_slice3 (en := eI) (lq rfl) S33 rfl rfl rfl rfl ht35) ?_
    refine xn [11] ?_
    refine xc rfl (a_assign_d (lq rfl) rfl) ?_
    refine xn [12] ?_
    refine xc rfl (a_assign_row (lq rfl) rfl) ?_
    exact any_end rfl (out_mk (wc))
   refine xa rfl (m_len (en := eI) (l := t24.2.2.2) (lq rfl) S33 rfl) ?_ ?_
   ·
    refine xn [4,9] ?_
    refine xa rfl (m_len (en := eI) (l := t24.2.2.2) (lq rfl) S33 rfl) ?_ ?_
    ·
     refine xn [7,9] ?_
     refine xa rfl (m_slice3 (en := eI) (lq rfl) S33 rfl rfl rfl rfl ht35) ?_ ?_
     ·
      refine xn [9] ?_
      refine xd rfl (g_call [(5, 2537)] (slices_Clone_api_Element_api_Element_g ht37) (lq rfl) (by decide) ⟨rfl, trivial⟩ rfl rfl trivial rfl rfl rfl (fun _ => rfl) rfl) ?_
      refine xn [10] ?_
      refine xc rfl (a_assign_d (lq rfl) rfl) ?_
      refine xn [11] ?_
      refine xc rfl (a_assign_d (lq rfl) rfl) ?_
      refine xn [12] ?_
      refine xc rfl (a_assign_row (lq rfl) rfl) ?_
      exact any_end rfl (out_mk (wc))
     refine xd rfl (g_call [(5, 2537)] (slices_Clone_api_Element_api_Element_g ht37) (lq rfl) (by decide) ⟨rfl, trivial⟩ rfl rfl trivial rfl rfl rfl (fun _ => rfl) rfl) ?_
     refine xn [7,10] ?_
     refine xa rfl (m_slice3 (en := eI) (lq rfl) S33 rfl rfl rfl rfl ht35) ?_ ?_
     ·
      refine xn [10] ?_
      refine xc rfl (a_assign_d (lq rfl) rfl) ?_
      refine xn [11] ?_
      refine xc rfl (a_assign_d (lq rfl) rfl) ?_
      refine xn [12] ?_
      refine xc rfl (a_assign_row (lq rfl) rfl) ?_
      exact any_end rfl (out_mk (wc))
     refine xc rfl (a_assign_d (lq rfl) rfl) ?_
     refine xn [7] ?_
     refine xc rfl (m_slice3 (en := eI) (lq rfl) S33 rfl rfl rfl rfl ht35) ?_
     refine xn [11] ?_
     refine xc rfl (a_assign_d (lq rfl) rfl) ?_
     refine xn [12] ?_
     refine xc rfl (a_assign_row (lq rfl) rfl) ?_
     exact any_end rfl (out_mk (wc))
    refine xd rfl (g_call [(5, 2537)] (slices_Clone_api_Element_api_Element_g ht37) (lq rfl) (by decide) ⟨rfl, trivial⟩ rfl rfl trivial rfl rfl rfl (fun _ => rfl) rfl) ?_
    refine xn [4,10] ?_
    refine xa rfl (m_len (en := eI) (l := t24.2.2.2) (lq rfl) S33 rfl) ?_ ?_
    ·
     refine xn [7,10] ?_
     refine xa rfl (m_slice3 (en := eI) (lq rfl) S33 rfl rfl rfl rfl ht35) ?_ ?_
     ·
      refine xn [10] ?_
      refine xc rfl (a_assign_d (lq rfl) rfl) ?_
      refine xn [11] ?_
      refine xc rfl (a_assign_d (lq rfl) rfl) ?_
      refine xn [12] ?_
      refine xc rfl (a_assign_row (lq rfl) rfl) ?_
      exact any_end rfl (out_mk (wc))
     refine xc rfl (a_assign_d (lq rfl) rfl) ?_
     refine xn [7] ?_
     refine xc rfl (m_slice3 (en := eI) (lq rfl) S33 rfl rfl rfl rfl ht35) ?_
     refine xn [11] ?_
     refine xc rfl (a_assign_d (lq rfl) rfl) ?_
     refine xn [12] ?_
     refine xc rfl (a_assign_row (lq rfl) rfl) ?_
     exact any_end rfl (out_mk (wc))
    refine xc rfl (a_assign_d (lq rfl) rfl) ?_
    refine xn [4] ?_
    refine xc rfl (m_len (en := eI) (l := t24.2.2.2) (lq rfl) S33 rfl) ?_
    refine xn [7] ?_
    refine xc rfl (m_slice3 (en := eI) (lq rfl) S33 rfl rfl rfl rfl ht35) ?_
    refine xn [11] ?_
    refine xc rfl (a_assign_d (lq rfl) rfl) ?_
    refine xn [12] ?_
    refine xc rfl (a_assign_row (lq rfl) rfl) ?_
    exact any_end rfl (out_mk (wc))
   refine xd rfl (g_call [(5, 2537)] (slices_Clone_api_Element_api_Element_g ht37) (lq rfl) (by decide) ⟨rfl, trivial⟩ rfl rfl trivial rfl rfl rfl (fun _ => rfl) rfl) ?_
   refine xn [4,6,10] ?_
   refine xa rfl (m_len (en := eI) (l := t24.2.2.2) (lq rfl) S33 rfl) ?_ ?_
   ·
    refine xn [6,10] ?_
    refine xa rfl (m_len (en := eI) (l := t24.2.2.2) (lq rfl) S33 rfl) ?_ ?_
    ·
     refine xn [7,10] ?_
     refine xa rfl (m_slice3 (en := eI) (lq rfl) S33 rfl rfl rfl rfl ht35) ?_ ?_
     ·
      refine xn [10] ?_
      refine xc rfl (a_assign_d (lq rfl) rfl) ?_
      refine xn [11] ?_
      refine xc rfl (a_assign_d (lq rfl) rfl) ?_
      refine xn [12] ?_
      refine xc rfl (a_assign_row (lq rfl) rfl) ?_
      exact any_end rfl (out_mk (wc))
     refine xc rfl (a_assign_d (lq rfl) rfl) ?_
     refine xn [7] ?_
     refine xc rfl (m_slice3 (en := eI) (lq rfl) S33 rfl rfl rfl rfl ht35) ?_
     refine xn [11] ?_
     refine xc rfl (a_assign_d (lq rfl) rfl) ?_
     refine xn [12] ?_
     refine xc rfl (a_assign_row (lq rfl) rfl) ?_
     exact any_end rfl (out_mk (wc))
    refine xc rfl (a_assign_d (lq rfl) rfl) ?_
    refine xn [6] ?_
    refine xc rfl (m_len (en := eI) (l := t24.2.2.2) (lq rfl) S33 rfl) ?_
    refine xn [7] ?_
    refine xc rfl (m_slice3 (en := eI) (lq rfl) S33 rfl rfl rfl rfl ht35) ?_
    refine xn [11] ?_
    refine xc rfl (a_assign_d (lq rfl) rfl) ?_
    refine xn [12] ?_
    refine xc rfl (a_assign_row (lq rfl) rfl) ?_
    exact any_end rfl (out_mk (wc))
   refine xa rfl (m_len (en := eI) (l := t24.2.2.2) (lq rfl) S33 rfl) ?_ ?_
   ·
    refine xn [4,10] ?_
    refine xa rfl (m_len (en := eI) (l := t24.2.2.2) (lq rfl) S33 rfl) ?_ ?_
    ·
     refine xn [7,10] ?_
     refine xa rfl (m_slice3 (en := eI) (lq rfl) S33 rfl rfl rfl rfl ht35) ?_ ?_
     ·
      refine xn [10] ?_
      refine xc rfl (a_assign_d (lq rfl) rfl) ?_
      refine xn [11] ?_
      refine xc rfl (a_assign_d (lq rfl) rfl) ?_
      refine xn [12] ?_
      refine xc rfl (a_assign_row (lq rfl) rfl) ?_
      exact any_end rfl (out_mk (wc))
     refine xc rfl (a_assign_d (lq rfl) rfl) ?_
     refine xn [7] ?_
     refine xc rfl (m_slice3 (en := eI) (lq rfl) S33 rfl rfl rfl rfl ht35) ?_
     refine xn [11] ?_
     refine xc rfl (a_assign_d (lq rfl) rfl) ?_
     refine xn [12] ?_
     refine xc rfl (a_assign_row (lq rfl) rfl) ?_
     exact any_end rfl (out_mk (wc))
    refine xc rfl (a_assign_d (lq rfl) rfl) ?_
    refine xn [4] ?_
    refine xc rfl (m_len (en := eI) (l := t24.2.2.2) (lq rfl) S33 rfl) ?_
    refine xn [7] ?_
    refine xc rfl (m_slice3 (en := eI) (lq rfl) S33 rfl rfl rfl rfl ht35) ?_
    refine xn [11] ?_
    refine xc rfl (a_assign_d (lq rfl) rfl) ?_
    refine xn [12] ?_
    refine xc rfl (a_assign_row (lq rfl) rfl) ?_
    exact any_end rfl (out_mk (wc))
   refine xc rfl (a_assign_d (lq rfl) rfl) ?_
   refine xn [4,6] ?_
   refine xa rfl (m_len (en := eI) (l := t24.2.2.2) (lq rfl) S33 rfl) ?_ ?_
   ·
    refine xn [6] ?_
    refine xc rfl (m_len (en := eI) (l := t24.2.2.2) (lq rfl) S33 rfl) ?_
    refine xn [7] ?_
    refine xc rfl (m_slice3 (en := eI) (lq rfl) S33 rfl rfl rfl rfl ht35) ?_
    refine xn [11] ?_
    refine xc rfl (a_assign_d (lq rfl) rfl) ?_
    refine xn [12] ?_
    refine xc rfl (a_assign_row (lq rfl) rfl) ?_
    exact any_end rfl (out_mk (wc))
   refine xc rfl (m_len (en := eI) (l := t24.2.2.2) (lq rfl) S33 rfl) ?_
   refine xn [4] ?_
   refine xc rfl (m_len (en := eI) (l := t24.2.2.2) (lq rfl) S33 rfl) ?_
   refine xn [7] ?_
   refine xc rfl (m_slice3 (en := eI) (lq rfl) S33 rfl rfl rfl rfl ht35) ?_
   refine xn [11] ?_
   refine xc rfl (a_assign_d (lq rfl) rfl) ?_
   refine xn [12] ?_
   refine xc rfl (a_assign_row (lq rfl) rfl) ?_
   exact any_end rfl (out_mk (wc))
  cases h
  refine avc_ret ?_
  exact ret_three rfl rfl rfl
theorem ref01_Compare_c  {a0 : (List Int)} {a1 : (List Int)}  {r : Int} (h : ref01_Compare a0 a1 = some r) : Contract Tryz.prog 35 [(dsl eI a0), (dsl eI a1)] [(di r)] := by
 refine contract_of Tryz.func35 (by kernel_rfl) rfl (lq rfl) (lq rfl) fun w0 I0 hI0 hG0 => ?_
 unfold ref01_Compare at h
 refine avc_sq2 <| avc_sq <| q1 ?_
 refine sq_nil <| avc_sq2 <| avc_sq2 <| avc_sq <| q1 ?_
 refine sq_nil <| avc_block ?_
 obtain ⟨y1, hy1, h'⟩ := bE h; clear h
 refine avc_tail2 y1 (.exit 0) (fun y1 => ⟨[(0, .d (dsl eI a0)), (1, .d (dsl eI a1))], []⟩) .ret (fun y1 => ⟨[(4, .d (di y1))], []⟩) ?_ ?_ ?_
 ·
  refine avc_loopM (fun x => ⟨[(0, .d (dsl eI a0)), (1, .d (dsl eI a1)), (5, .d (di x))], []⟩) hy1 (wc) ?_
  rintro v5 sy1 hsy1
  replace hsy1 : ref01_Compare_L0 a0 a1 v5 = some sy1 := hsy1
  unfold ref01_Compare_L0 at hsy1
  refine avc_sq2 <| avc_sq2 <| avc_sq <| q0 ?_
  refine q0 ?_
  refine sqa (m_len (en := eI) (l := a0) (lq rfl) S33 rfl) ?_
  refine q3 ?_
  obtain ⟨b10, hb10, hsy1'⟩ := bE hsy1; clear hsy1
  refine sqa ((a_move_d (lq rfl) rfl).bool (Option.some.inj hb10)) ?_
  refine sqt (.d (di v5)) rfl (fun hb => by subst hb; exact a_move_d (lq rfl) rfl) ?_
  refine sqt (.d (dsl eI a1)) rfl (fun hb => by subst hb; exact a_move_d (lq rfl) rfl) ?_
  refine sqt (.d (di (a1.length : Int))) rfl (fun hb => by subst hb; exact m_len (en := eI) (l := a1) (lq rfl) S33 rfl) ?_
  refine sqt (.d (db (decide (v5 < (a1.length : Int))))) rfl (fun hb => by subst hb; exact a_lss (lq rfl) rfl rfl) ?_
  refine q8 ?_
  refine sq_nil ?_
  refine avc_if rfl ⟨fun c1 => ?_, fun c1 => ?_⟩
  ·
   replace hsy1' := cT c1 hsy1'
   refine avc_skip <| avc_sq2 <| avc_block <| avc_sq2 <| avc_sq2 ?_
   refine avc_drawA MX rfl ?_
   refine q4 ?_
   refine q4 ?_
   obtain ⟨t20, ht20, hsy1⟩ := bE hsy1'; clear hsy1'
   refine daa (m_index (en := eI) (lq rfl) S33 rfl rfl ht20) ?_
   refine daa (m_loadE (en := eI) (l := a0) (i := v5) (v := t20) (off := 0) (lq rfl) O3 rfl ht20 rfl) ?_
   refine q4 ?_
   refine q4 ?_
   obtain ⟨t24, ht24, hsy1'⟩ := bE hsy1; clear hsy1
   refine daa (m_index (en := eI) (lq rfl) S33 rfl rfl ht24) ?_
   refine daa (m_loadE (en := eI) (l := a1) (i := v5) (v := t24) (off := 0) (lq rfl) O3 rfl ht24 rfl) ?_
   refine q46 ?_
   refine da_nil ?_
   refine avc_if rfl ⟨fun c2 => ?_, fun c2 => ?_⟩
   ·
    replace hsy1' := cT c2 hsy1'
    refine avc_sq2 <| avc_sq <| q1 ?_
    refine sq_nil <| avc_ret ?_
    cases hsy1'
    intro q; cases q
    exact ⟨rfl, wc⟩
   ·
    replace hsy1' := cF c2 hsy1'
    refine avc_skip <| avc_sq2 ?_
    refine avc_drawA MX rfl ?_
    refine q4 ?_
    refine q4 ?_
    obtain ⟨t29, ht29, hsy1⟩ := bE hsy1'; clear hsy1'
    refine daa (m_index (en := eI) (lq rfl) S33 rfl rfl ht29) ?_
    refine daa (m_loadE (en := eI) (l := a0) (i := v5) (v := t29) (off := 0) (lq rfl) O3 rfl ht29 rfl) ?_
    refine q4 ?_
    refine q4 ?_
    obtain ⟨t33, ht33, hsy1'⟩ := bE hsy1; clear hsy1
    refine daa (m_index (en := eI) (lq rfl) S33 rfl rfl ht33) ?_
    refine daa (m_loadE (en := eI) (l := a1) (i := v5) (v := t33) (off := 0) (lq rfl) O3 rfl ht33 rfl) ?_
    refine q42 ?_
    refine da_nil ?_
    refine avc_if rfl ⟨fun c3 => ?_, fun c3 => ?_⟩
    ·
     replace hsy1' := cT c3 hsy1'
     refine avc_sq2 <| avc_sq <| q1 ?_
     refine sq_nil <| avc_ret ?_
     cases hsy1'
     intro q; cases q
     exact ⟨rfl, wc⟩
    ·
     replace hsy1' := cF c3 hsy1'
     refine avc_skip <| avc_sq <| q0 ?_
     refine q2 ?_
     refine q1 ?_
     refine sq_nil ?_
     cases hsy1'
     exact wc
  ·
   replace hsy1' := cF c1 hsy1'
   refine avc_exit ?_
   cases hsy1'
   intro q; cases q
   exact ⟨rfl, wc⟩
 ·
  rintro y1 rfl
  replace h' := eL h'
  refine avc_sq2 <| avc_sq2 <| avc_sq <| q0 ?_
  refine sqa (m_len (en := eI) (l := a0) (lq rfl) S33 rfl) ?_
  refine q0 ?_
  refine sqa (m_len (en := eI) (l := a1) (lq rfl) S33 rfl) ?_
  refine q3 ?_
  refine sq_nil ?_
  refine avc_if rfl ⟨fun c4 => ?_, fun c4 => ?_⟩
  ·
   replace h' := cT c4 h'
   refine avc_sq2 <| avc_sq <| q1 ?_
   refine sq_nil ?_
   cases h'
   refine avc_ret ?_
   exact ret_1 rfl
  ·
   replace h' := cF c4 h'
   refine avc_skip <| avc_sq2 <| avc_sq2 <| avc_sq <| q0 ?_
   refine sqa (m_len (en := eI) (l := a0) (lq rfl) S33 rfl) ?_
   refine q0 ?_
   refine sqa (m_len (en := eI) (l := a1) (lq rfl) S33 rfl) ?_
   refine q25 ?_
   refine sq_nil ?_
   refine avc_if rfl ⟨fun c5 => ?_, fun c5 => ?_⟩
   ·
    replace h' := cT c5 h'
    refine avc_sq2 <| avc_sq <| q1 ?_
    refine sq_nil ?_
    cases h'
    refine avc_ret ?_
    exact ret_1 rfl
   ·
    replace h' := cF c5 h'
    refine avc_skip <| avc_sq2 <| avc_sq <| q1 ?_
    refine sq_nil ?_
    cases h'
    refine avc_ret ?_
    exact ret_1 rfl
 ·
  rintro y1 rfl
  replace h' := eR h'
  cases h'
  exact ret_1 rfl
theorem ref01_Equal_c  {a0 : (List Int)} {a1 : (List Int)}  {r : Bool} (h : ref01_Equal a0 a1 = some r) : Contract Tryz.prog 11 [(dsl eI a0), (dsl eI a1)] [(db r)] := by
 refine contract_of Tryz.func11 (by kernel_rfl) rfl (lq rfl) (lq rfl) fun w0 I0 hI0 hG0 => ?_
 unfold ref01_Equal at h
 refine avc_sq2 <| avc_sq <| q1 ?_
 refine sq_nil <| avc_sq2 <| avc_sq <| q0 ?_
 refine q0 ?_
 obtain ⟨t7, ht7, h'⟩ := bE h; clear h
 refine sqa (a_call (lq rfl) rfl (ref01_Compare_c ht7)) ?_
 refine q26 ?_
 refine q1 ?_
 refine sq_nil ?_
 cases h'
 refine avc_ret ?_
 exact ret_1 rfl
theorem ref43_Same_c  {a0 : (List Element)} {a1 : (List Element)}  {r : Bool} (h : ref43_Same a0 a1 = some r) : Contract Tryz.prog 12 [(dsl eElement a0), (dsl eElement a1)] [(db r)] := by
 refine contract_of Tryz.func12 (by kernel_rfl) rfl (lq rfl) (lq rfl) fun w0 I0 hI0 hG0 => ?_
 unfold ref43_Same at h
 refine avc_sq2 <| avc_sq <| q1 ?_
 refine sq_nil <| avc_sq2 <| avc_sq2 <| avc_sq <| q0 ?_
 refine sqa (m_len (en := eElement) (l := a0) (lq rfl) S38 rfl) ?_
 refine q0 ?_
 refine sqa (m_len (en := eElement) (l := a1) (lq rfl) S38 rfl) ?_
 refine q19 ?_
 refine sq_nil ?_
 refine avc_if rfl ⟨fun c1 => ?_, fun c1 => ?_⟩
 ·
  replace h := cT c1 h
  refine avc_sq2 <| avc_sq <| q1 ?_
  refine sq_nil ?_
  cases h
  refine avc_ret ?_
  exact ret_1 rfl
 ·
  replace h := cF c1 h
  refine avc_skip <| avc_sq2 <| avc_sq2 <| avc_sq <| q1 ?_
  refine sq_nil <| avc_block ?_
  obtain ⟨y1, hy1, h'⟩ := bE h; clear h
  refine avc_tail2 y1 (.exit 0) (fun y1 => ⟨[], []⟩) .ret (fun y1 => ⟨[(4, .d (db y1))], []⟩) ?_ ?_ ?_
  ·
   refine avc_loopM (fun x => ⟨[(0, .d (dsl eElement a0)), (1, .d (dsl eElement a1)), (5, .d (di x))], []⟩) hy1 (wc) ?_
   rintro v5 sy1 hsy1
   replace hsy1 : ref43_Same_L0 a0 a1 v5 = some sy1 := hsy1
   unfold ref43_Same_L0 at hsy1
   refine avc_sq2 <| avc_sq2 <| avc_sq <| q0 ?_
   refine q0 ?_
   refine sqa (m_len (en := eElement) (l := a0) (lq rfl) S38 rfl) ?_
   refine q3 ?_
   refine sq_nil ?_
   refine avc_if rfl ⟨fun c2 => ?_, fun c2 => ?_⟩
   ·
    replace hsy1 := cT c2 hsy1
    refine avc_skip <| avc_sq2 <| avc_block <| avc_sq2 ?_
    refine avc_drawA MX rfl ?_
    refine q4 ?_
    refine q4 ?_
    obtain ⟨t19, ht19, hsy1'⟩ := bE hsy1; clear hsy1
    refine daa (m_index (en := eElement) (lq rfl) S38 rfl rfl ht19) ?_
    refine daa (m_loadEA (en := eElement) (l := a0) (i := v5) (v := t19) (off := 0) (lq rfl) G63 rfl ht19 rfl rfl (by decide)) ?_
    refine q4 ?_
    refine q4 ?_
    obtain ⟨t23, ht23, hsy1⟩ := bE hsy1'; clear hsy1'
    refine daa (m_index (en := eElement) (lq rfl) S38 rfl rfl ht23) ?_
    refine daa (m_loadEA (en := eElement) (l := a1) (i := v5) (v := t23) (off := 0) (lq rfl) G63 rfl ht23 rfl rfl (by decide)) ?_
    refine daa (m_stneq (en := eElement) (a := t19) (b := t23) (lq rfl) E63 rfl rfl) ?_
    refine da_nil ?_
    refine avc_if rfl ⟨fun c3 => ?_, fun c3 => ?_⟩
    ·
     replace hsy1 := cT c3 hsy1
     refine avc_sq2 <| avc_sq <| q1 ?_
     refine sq_nil <| avc_ret ?_
     cases hsy1
     intro q; cases q
     exact ⟨rfl, wc⟩
    ·
     replace hsy1 := cF c3 hsy1
     refine avc_skip <| avc_sq <| q0 ?_
     refine q2 ?_
     refine q1 ?_
     refine sq_nil ?_
     cases hsy1
     exact wc
   ·
    replace hsy1 := cF c2 hsy1
    refine avc_exit ?_
    cases hsy1
    intro q; cases q
    exact ⟨rfl, wc⟩
  ·
   rintro y1 rfl
   replace h' := eL h'
   refine avc_sq2 <| avc_sq <| q1 ?_
   refine sq_nil ?_
   cases h'
   refine avc_ret ?_
   exact ret_1 rfl
  ·
   rintro y1 rfl
   replace h' := eR h'
   cases h'
   exact ret_1 rfl
set_option maxRecDepth 40000 in
theorem law43_alive_c    {r : Bool} (h : law43_alive  = some r) : Contract Tryz.prog 8 [] [(db r)] := by
 refine contract_of Tryz.func8 (by kernel_rfl) rfl (lq rfl) (lq rfl) fun w0 I0 hI0 hG0 => ?_
 unfold law43_alive at h
 refine avc_sq2 <| avc_sq <| q1 ?_
 refine sq_nil <| avc_sq2 <| avc_sq <| q28 B61 ?_
 refine q28 B61 ?_
 refine q21 S22 ?_
 refine sqa ((m_build (lq rfl) B28 rfl rfl).nils (bs := eNorm.cells ({ Classes := [({ Lo := 769, Hi := 769, Value := 230 } : Span), ({ Lo := 803, Hi := 803, Value := 220 } : Span)], Decomp := [], Excluded := (({ Ranges := [] }) : Set) } : Norm)) (nlE (nlN (nlN nl0)))) ?_
 refine sq_b rfl (step_alloc (zs := [(.slice none 0 0), (.slice none 0 0), (.slice none 0 0)]) (lq rfl) (by kernel_rfl) rfl rfl) ?_
 refine q10 G28 ?_
 refine sq_nil ?_
 refine avc_weak (weak_freeze (t := 1) (lq rfl) rfl rfl rfl) ?_
 refine avc_sq2 <| avc_sq <| q28 B63 ?_
 refine q21 S38 ?_
 refine q1 ?_
 refine sq_nil <| avc_sq2 <| avc_sq <| q28 B63 ?_
 refine q21 S38 ?_
 refine q1 ?_
 refine sq_nil <| avc_sq2 <| avc_sq <| q21 S33 ?_
 refine q0 ?_
 refine q28 B45 ?_
 refine q21 S33 ?_
 refine q0 ?_
 refine q28 B45 ?_
 refine q21 S29 ?_
 refine sqa ((m_build (lq rfl) B32 rfl rfl).nils (bs := eCollation.cells ({ Entries := [({ Codes := [97], Elements := [({ Primary := 7, Secondary := 1, Tertiary := 1, Variable := false } : Element)] } : Entry), ({ Codes := [97, 769], Elements := [({ Primary := 8, Secondary := 1, Tertiary := 1, Variable := false } : Element)] } : Entry)], Groups := [], Base := 100, Second := 1, Third := 1 } : Collation)) (nlE (nlN (nlE (nlE (nlE nl0)))))) ?_
 refine sq_b rfl (step_alloc (zs := [(.slice none 0 0), (.slice none 0 0), (.int IntKind.i64 (0)), (.int IntKind.i64 (0)), (.int IntKind.i64 (0))]) (lq rfl) (by kernel_rfl) rfl rfl) ?_
 refine q10 G32 ?_
 refine sq_nil ?_
 refine avc_weak (weak_freeze (t := 4) (lq rfl) rfl rfl rfl) ?_
 refine avc_sq2 <| avc_sq <| q12 G28 ?_
 refine q12 G32 ?_
 refine q21 S33 ?_
 obtain ⟨t28, ht28, h'⟩ := bE h; clear h
 refine sqa (a_call (lq rfl) rfl (colltable_Step_c ht28)) ?_
 refine q27 ?_
 refine q13 ?_
 refine q13 ?_
 refine q13 ?_
 refine q1 ?_
 refine q1 ?_
 refine q1 ?_
 refine sq_nil <| avc_sq2 <| avc_sq <| q12 G32 ?_
 obtain ⟨t33, ht33, h⟩ := bE h'; clear h'
 refine sqa (a_call (lq rfl) rfl (colltable_Check_c ht33)) ?_
 refine q26 ?_
 obtain ⟨b35, hb35, h'⟩ := bE h; clear h
 refine sqa ((a_move_d (lq rfl) rfl).bool (Option.some.inj hb35)) ?_
 refine sqt (.d (di t28.1)) rfl (fun hb => by subst hb; exact a_move_d (lq rfl) rfl) ?_
 refine sqt (.d (db (decide (t28.1 = 2)))) rfl (fun hb => by subst hb; exact a_eql (lq rfl) rfl rfl) ?_
 refine q8 ?_
 obtain ⟨b39, hb39, h⟩ := bE h'; clear h'
 refine sqa ((a_move_d (lq rfl) rfl).bool (Option.some.inj hb39)) ?_
 refine sqt (.d (dsl eI t28.2.1)) rfl (fun hb => by subst hb; exact a_move_d (lq rfl) rfl) ?_
 refine sqt (.d (dsl eI [803])) rfl (fun hb => by subst hb; exact a_lit (lq rfl) S33 rfl rfl rfl rfl (by decide) rfl) ?_
 obtain ⟨t42, ht42, h'⟩ := bE h; clear h
 refine sqt (.d (db t42)) rfl (fun hb => by subst hb; exact a_call (lq rfl) rfl (ref01_Equal_c ht42)) ?_
 refine q8 ?_
 obtain ⟨b44, hb44, h⟩ := bE h'; clear h'
 refine sqa ((a_move_d (lq rfl) rfl).bool (Option.some.inj hb44)) ?_
 refine sqt (.d (dsl eElement t28.2.2)) rfl (fun hb => by subst hb; exact a_move_d (lq rfl) rfl) ?_
 refine sqt (.d (dsl eElement [({ Primary := 8, Secondary := 1, Tertiary := 1, Variable := false } : Element)])) rfl (fun hb => by subst hb; exact a_move_d (lq rfl) rfl) ?_
 obtain ⟨t47, ht47, h'⟩ := bE h; clear h
 refine sqt (.d (db t47)) rfl (fun hb => by subst hb; exact a_call (lq rfl) rfl (ref43_Same_c ht47)) ?_
 refine q8 ?_
 refine q1 ?_
 refine sq_nil ?_
 cases h'
 refine avc_ret ?_
 exact ret_1 rfl
theorem ref43_weight_c  {a0 : Int}  {r : Bool} (h : ref43_weight a0 = some r) : Contract Tryz.prog 41 [(di a0)] [(db r)] := by
 refine contract_of Tryz.func41 (by kernel_rfl) rfl (lq rfl) (lq rfl) fun w0 I0 hI0 hG0 => ?_
 unfold ref43_weight at h
 refine avc_sq2 <| avc_sq <| q1 ?_
 refine sq_nil <| avc_sq2 <| avc_sq <| q0 ?_
 refine q20 ?_
 obtain ⟨b5, hb5, h'⟩ := bE h; clear h
 refine sqa ((a_move_d (lq rfl) rfl).bool (Option.some.inj hb5)) ?_
 refine sqt (.d (di a0)) rfl (fun hb => by subst hb; exact a_move_d (lq rfl) rfl) ?_
 refine sqt (.d (db (decide (a0 ≤ 65535)))) rfl (fun hb => by subst hb; exact a_leq (lq rfl) rfl rfl) ?_
 refine q8 ?_
 refine q1 ?_
 refine sq_nil ?_
 cases h'
 refine avc_ret ?_
 exact ret_1 rfl
theorem ref11_Name_c  {a0 : Str}  {r : Bool} (h : ref11_Name a0 = some r) : Contract Tryz.prog 69 [(ds a0)] [(db r)] := by
 refine contract_of Tryz.func69 (by kernel_rfl) rfl (lq rfl) (lq rfl) fun w0 I0 hI0 hG0 => ?_
 unfold ref11_Name at h
 refine avc_sq2 <| avc_sq <| q1 ?_
 refine sq_nil <| avc_sq2 <| avc_sq2 <| avc_sq <| q1 ?_
 refine sq_nil <| avc_block ?_
 obtain ⟨y1, hy1, h'⟩ := bE h; clear h
 refine avc_tail2 y1 (.exit 0) (fun y1 => ⟨[(0, .d (ds a0))], []⟩) .ret (fun y1 => ⟨[(2, .d (db y1))], []⟩) ?_ ?_ ?_
 ·
  refine avc_loopM (fun x => ⟨[(0, .d (ds a0)), (3, .d (di x))], []⟩) hy1 (wc) ?_
  rintro v3 sy1 hsy1
  replace hsy1 : ref11_Name_L0 a0 v3 = some sy1 := hsy1
  unfold ref11_Name_L0 at hsy1
  refine avc_sq2 <| avc_sq2 <| avc_sq <| q0 ?_
  refine q0 ?_
  refine sqa (m_slen (s := a0) (lq rfl) Tryz.underlying9 rfl) ?_
  refine q3 ?_
  refine sq_nil ?_
  refine avc_if rfl ⟨fun c1 => ?_, fun c1 => ?_⟩
  ·
   replace hsy1 := cT c1 hsy1
   refine avc_skip <| avc_sq2 <| avc_block <| avc_sq2 <| avc_sq <| q0 ?_
   refine q0 ?_
   obtain ⟨t13, ht13, hsy1'⟩ := bE hsy1; clear hsy1
   refine sqa (m_sindex (s := a0) (lq rfl) Tryz.underlying9 rfl rfl ht13) ?_
   refine q1 ?_
   refine sq_nil <| avc_sq2 <| avc_sq <| q0 ?_
   refine q20 ?_
   obtain ⟨b16, hb16, hsy1⟩ := bE hsy1'; clear hsy1'
   refine sqa ((a_move_d (lq rfl) rfl).bool (Option.some.inj hb16)) ?_
   refine sqt (.d (dby t13)) rfl (fun hb => by subst hb; exact a_move_d (lq rfl) rfl) ?_
   refine sqt (.d (db (decide (t13 ≤ 90)))) rfl (fun hb => by subst hb; exact a_leq (lq rfl) rfl rfl) ?_
   refine q8 ?_
   obtain ⟨b20, hb20, hsy1'⟩ := bE hsy1; clear hsy1
   refine sqa ((a_move_d (lq rfl) rfl).bool (Option.some.inj hb20)) ?_
   refine sqf (.d (dby t13)) rfl (fun hb => by subst hb; exact a_move_d (lq rfl) rfl) ?_
   refine sqf (.d (db (decide (97 ≤ t13)))) rfl (fun hb => by subst hb; exact a_geq (lq rfl) rfl rfl) ?_
   obtain ⟨b23, hb23, hsy1⟩ := bE hsy1'; clear hsy1'
   refine sqf (.d (db b23)) rfl (fun hb => by subst hb; exact (a_move_d (lq rfl) rfl).bool (Option.some.inj hb23)) ?_
   refine sq_g2 (x := .d (dby t13)) rfl rfl rfl (lq rfl) (lq rfl) rfl (fun hb => by obtain ⟨hb, hb1⟩ := and_split hb; obtain rfl := gF hb; obtain rfl : b23 = true := hb1; exact a_move_d (lq rfl) rfl) ?_
   refine sq_g2 (x := .d (db (decide (t13 ≤ 122)))) rfl rfl rfl (lq rfl) (lq rfl) rfl (fun hb => by obtain ⟨hb, hb1⟩ := and_split hb; obtain rfl := gF hb; obtain rfl : b23 = true := hb1; exact a_leq (lq rfl) rfl rfl) ?_
   refine sqf (.d (db (b23 && (decide (t13 ≤ 122))))) rfl (fun hb => by subst hb; exact a_pick_and (lq rfl) rfl rfl) ?_
   refine q11 ?_
   obtain ⟨b28, hb28, hsy1'⟩ := bE hsy1; clear hsy1
   refine sqa ((a_move_d (lq rfl) rfl).bool (Option.some.inj hb28)) ?_
   refine sqf (.d (dby t13)) rfl (fun hb => by subst hb; exact a_move_d (lq rfl) rfl) ?_
   refine sqf (.d (db (decide (48 ≤ t13)))) rfl (fun hb => by subst hb; exact a_geq (lq rfl) rfl rfl) ?_
   obtain ⟨b31, hb31, hsy1⟩ := bE hsy1'; clear hsy1'
   refine sqf (.d (db b31)) rfl (fun hb => by subst hb; exact (a_move_d (lq rfl) rfl).bool (Option.some.inj hb31)) ?_
   refine sq_g2 (x := .d (dby t13)) rfl rfl rfl (lq rfl) (lq rfl) rfl (fun hb => by obtain ⟨hb, hb1⟩ := and_split hb; obtain rfl := gF hb; obtain rfl : b31 = true := hb1; exact a_move_d (lq rfl) rfl) ?_
   refine sq_g2 (x := .d (db (decide (t13 ≤ 57)))) rfl rfl rfl (lq rfl) (lq rfl) rfl (fun hb => by obtain ⟨hb, hb1⟩ := and_split hb; obtain rfl := gF hb; obtain rfl : b31 = true := hb1; exact a_leq (lq rfl) rfl rfl) ?_
   refine sqf (.d (db (b31 && (decide (t13 ≤ 57))))) rfl (fun hb => by subst hb; exact a_pick_and (lq rfl) rfl rfl) ?_
   refine q11 ?_
   obtain ⟨b36, hb36, hsy1'⟩ := bE hsy1; clear hsy1
   refine sqa ((a_move_d (lq rfl) rfl).bool (Option.some.inj hb36)) ?_
   refine sqf (.d (dby t13)) rfl (fun hb => by subst hb; exact a_move_d (lq rfl) rfl) ?_
   refine sqf (.d (db (decide (t13 = 95)))) rfl (fun hb => by subst hb; exact a_eql (lq rfl) rfl rfl) ?_
   refine q11 ?_
   refine q16 ?_
   refine sq_nil ?_
   refine avc_if rfl ⟨fun c2 => ?_, fun c2 => ?_⟩
   ·
    replace hsy1' := cT c2 hsy1'
    refine avc_sq2 <| avc_sq <| q1 ?_
    refine sq_nil <| avc_ret ?_
    cases hsy1'
    intro q; cases q
    exact ⟨rfl, wc⟩
   ·
    replace hsy1' := cF c2 hsy1'
    refine avc_skip <| avc_sq <| q0 ?_
    refine q2 ?_
    refine q1 ?_
    refine sq_nil ?_
    cases hsy1'
    exact wc
  ·
   replace hsy1 := cF c1 hsy1
   refine avc_exit ?_
   cases hsy1
   intro q; cases q
   exact ⟨rfl, wc⟩
 ·
  rintro y1 rfl
  replace h' := eL h'
  refine avc_sq2 <| avc_sq <| q0 ?_
  refine sqa (m_slen (s := a0) (lq rfl) Tryz.underlying9 rfl) ?_
  refine q20 ?_
  obtain ⟨b44, hb44, h⟩ := bE h'; clear h'
  refine sqa ((a_move_d (lq rfl) rfl).bool (Option.some.inj hb44)) ?_
  refine sqt (.d (ds a0)) rfl (fun hb => by subst hb; exact a_move_d (lq rfl) rfl) ?_
  refine sqt (.d (di (a0.length : Int))) rfl (fun hb => by subst hb; exact m_slen (s := a0) (lq rfl) Tryz.underlying9 rfl) ?_
  refine sqt (.d (db (decide ((a0.length : Int) ≤ 32)))) rfl (fun hb => by subst hb; exact a_leq (lq rfl) rfl rfl) ?_
  refine q8 ?_
  refine q1 ?_
  refine sq_nil ?_
  cases h
  refine avc_ret ?_
  exact ret_1 rfl
 ·
  rintro y1 rfl
  replace h' := eR h'
  cases h'
  exact ret_1 rfl
theorem ref43_groups_c  {a0 : Collation}  {r : Int} (h : ref43_groups a0 = some r) : Contract Tryz.prog 42 [(eCollation.dv a0)] [(di r)] := by
 refine contract_of Tryz.func42 (by kernel_rfl) rfl (lq rfl) (lq rfl) fun w0 I0 hI0 hG0 => ?_
 unfold ref43_groups at h
 refine avc_sq2 <| avc_sq ?_
 refine sqa (m_box (size := 5) (lq rfl) rfl rfl) ?_
 refine q1 ?_
 refine sq_nil <| avc_sq2 <| avc_sq <| q5 L32_1 ?_
 refine q6 O30 ?_
 refine q1 ?_
 refine sq_nil <| avc_sq2 <| avc_sq2 <| avc_sq <| q1 ?_
 refine sq_nil <| avc_block ?_
 obtain ⟨y1, hy1, h'⟩ := bE h; clear h
 refine avc_tail2 y1 (.exit 0) (fun y1 => ⟨[(1, .d (.pt (eCollation.cells a0))), (3, .d (dsl eGroup a0.Groups))], []⟩) .ret (fun y1 => ⟨[(2, .d (di y1))], []⟩) ?_ ?_ ?_
 ·
  refine avc_loopM (fun x => ⟨[(1, .d (.pt (eCollation.cells a0))), (3, .d (dsl eGroup a0.Groups)), (4, .d (di x))], []⟩) hy1 (wc) ?_
  rintro v4 sy1 hsy1
  replace hsy1 : ref43_groups_L0 a0 v4 = some sy1 := hsy1
  unfold ref43_groups_L0 at hsy1
  refine avc_sq2 <| avc_sq2 <| avc_sq <| q0 ?_
  refine q0 ?_
  refine sqa (m_len (en := eGroup) (l := a0.Groups) (lq rfl) S30 rfl) ?_
  refine q3 ?_
  refine sq_nil ?_
  refine avc_if rfl ⟨fun c1 => ?_, fun c1 => ?_⟩
  ·
   replace hsy1 := cT c1 hsy1
   refine avc_skip <| avc_sq2 <| avc_block <| avc_sq2 <| avc_sq <| q0 ?_
   refine q0 ?_
   obtain ⟨t19, ht19, hsy1'⟩ := bE hsy1; clear hsy1
   refine sqa (m_index (en := eGroup) (lq rfl) S30 rfl rfl ht19) ?_
   refine q23 L110_0 ?_
   refine sqa (m_loadE (en := eGroup) (l := a0.Groups) (i := v4) (v := t19) (off := 0) (lq rfl) O9 rfl ht19 rfl) ?_
   obtain ⟨t22, ht22, hsy1⟩ := bE hsy1'; clear hsy1'
   refine sqa (a_call (lq rfl) rfl (ref11_Name_c ht22)) ?_
   refine q16 ?_
   refine sq_nil ?_
   refine avc_if rfl ⟨fun c2 => ?_, fun c2 => ?_⟩
   ·
    replace hsy1 := cT c2 hsy1
    refine avc_sq2 <| avc_sq <| q1 ?_
    refine sq_nil <| avc_ret ?_
    cases hsy1
    intro q; cases q
    exact ⟨rfl, wc⟩
   ·
    replace hsy1 := cF c2 hsy1
    refine avc_skip <| avc_sq <| q0 ?_
    refine q2 ?_
    refine q1 ?_
    refine sq_nil ?_
    cases hsy1
    exact wc
  ·
   replace hsy1 := cF c1 hsy1
   refine avc_exit ?_
   cases hsy1
   intro q; cases q
   exact ⟨rfl, wc⟩
 ·
  rintro y1 rfl
  replace h' := eL h'
  refine avc_sq2 <| avc_sq2 <| avc_sq <| q1 ?_
  refine sq_nil <| avc_block ?_
  obtain ⟨y2, hy2, h⟩ := bE h'; clear h'
  refine avc_tail2 y2 (.exit 2) (fun y2 => ⟨[(1, .d (.pt (eCollation.cells a0))), (3, .d (dsl eGroup a0.Groups))], []⟩) .ret (fun y2 => ⟨[(2, .d (di y2))], []⟩) ?_ ?_ ?_
  ·
   refine avc_loopM (fun x => ⟨[(1, .d (.pt (eCollation.cells a0))), (3, .d (dsl eGroup a0.Groups)), (5, .d (di x))], []⟩) hy2 (wc) ?_
   rintro v5 sy2 hsy2
   replace hsy2 : ref43_groups_L1 a0 v5 = some sy2 := hsy2
   unfold ref43_groups_L1 at hsy2
   refine avc_sq2 <| avc_sq2 <| avc_sq <| q0 ?_
   refine q0 ?_
   refine sqa (m_len (en := eGroup) (l := a0.Groups) (lq rfl) S30 rfl) ?_
   refine q3 ?_
   refine sq_nil ?_
   refine avc_if rfl ⟨fun c3 => ?_, fun c3 => ?_⟩
   ·
    replace hsy2 := cT c3 hsy2
    refine avc_skip <| avc_sq2 <| avc_block <| avc_sq2 <| avc_sq <| q1 ?_
    refine sq_nil <| avc_block ?_
    obtain ⟨y3, hy3, hsy2'⟩ := bE hsy2; clear hsy2
    refine avc_tail2 y3 (.exit 4) (fun y3 => ⟨[(1, .d (.pt (eCollation.cells a0))), (3, .d (dsl eGroup a0.Groups)), (5, .d (di v5))], []⟩) .ret (fun y3 => ⟨[(2, .d (di y3))], []⟩) ?_ ?_ ?_
    ·
     refine avc_loopM (fun x => ⟨[(1, .d (.pt (eCollation.cells a0))), (3, .d (dsl eGroup a0.Groups)), (5, .d (di v5)), (6, .d (di x))], []⟩) hy3 (wc) ?_
     rintro v6 sy3 hsy3
     replace hsy3 : ref43_groups_L2 v5 a0 v6 = some sy3 := hsy3
     unfold ref43_groups_L2 at hsy3
     refine avc_sq2 <| avc_sq2 <| avc_sq <| q0 ?_
     refine q0 ?_
     refine q3 ?_
     refine sq_nil ?_
     refine avc_if rfl ⟨fun c4 => ?_, fun c4 => ?_⟩
     ·
      replace hsy3 := cT c4 hsy3
      refine avc_skip <| avc_sq2 <| avc_block <| avc_sq2 ?_
      refine avc_drawA MX rfl ?_
      refine q4 ?_
      refine q4 ?_
      obtain ⟨t37, ht37, hsy3'⟩ := bE hsy3; clear hsy3
      refine daa (m_index (en := eGroup) (lq rfl) S30 rfl rfl ht37) ?_
      refine q24 L110_0 ?_
      refine daa (m_loadE (en := eGroup) (l := a0.Groups) (i := v6) (v := t37) (off := 0) (lq rfl) O9 rfl ht37 rfl) ?_
      refine q4 ?_
      refine q4 ?_
      obtain ⟨t42, ht42, hsy3⟩ := bE hsy3'; clear hsy3'
      refine daa (m_index (en := eGroup) (lq rfl) S30 rfl rfl ht42) ?_
      refine q24 L110_0 ?_
      refine daa (m_loadE (en := eGroup) (l := a0.Groups) (i := v5) (v := t42) (off := 0) (lq rfl) O9 rfl ht42 rfl) ?_
      refine daa (m_seql (a := t37.Name) (b := t42.Name) (lq rfl) rfl rfl) ?_
      refine da_nil ?_
      refine avc_if rfl ⟨fun c5 => ?_, fun c5 => ?_⟩
      ·
       replace hsy3 := cT c5 hsy3
       refine avc_sq2 <| avc_sq <| q1 ?_
       refine sq_nil <| avc_ret ?_
       cases hsy3
       intro q; cases q
       exact ⟨rfl, wc⟩
      ·
       replace hsy3 := cF c5 hsy3
       refine avc_skip <| avc_sq <| q0 ?_
       refine q2 ?_
       refine q1 ?_
       refine sq_nil ?_
       cases hsy3
       exact wc
     ·
      replace hsy3 := cF c4 hsy3
      refine avc_exit ?_
      cases hsy3
      intro q; cases q
      exact ⟨rfl, wc⟩
    ·
     rintro y3 rfl
     replace hsy2' := eL hsy2'
     refine avc_sq <| q0 ?_
     refine q2 ?_
     refine q1 ?_
     refine sq_nil ?_
     cases hsy2'
     exact wc
    ·
     rintro y3 rfl
     replace hsy2' := eR hsy2'
     cases hsy2'
     intro q; cases q
     exact ⟨rfl, wc⟩
   ·
    replace hsy2 := cF c3 hsy2
    refine avc_exit ?_
    cases hsy2
    intro q; cases q
    exact ⟨rfl, wc⟩
  ·
   rintro y2 rfl
   replace h := eL h
   refine avc_sq2 <| avc_sq2 <| avc_sq <| q1 ?_
   refine sq_nil <| avc_block ?_
   obtain ⟨y4, hy4, h'⟩ := bE h; clear h
   refine avc_tail2 y4 (.exit 6) (fun y4 => ⟨[(3, .d (dsl eGroup a0.Groups))], []⟩) .ret (fun y4 => ⟨[(2, .d (di y4))], []⟩) ?_ ?_ ?_
   ·
    refine avc_loopM (fun x => ⟨[(1, .d (.pt (eCollation.cells a0))), (3, .d (dsl eGroup a0.Groups)), (7, .d (di x))], []⟩) hy4 (wc) ?_
    rintro v7 sy4 hsy4
    replace hsy4 : ref43_groups_L3 a0 v7 = some sy4 := hsy4
    unfold ref43_groups_L3 at hsy4
    refine avc_sq2 <| avc_sq2 <| avc_sq <| q0 ?_
    refine q0 ?_
    refine sqa (m_len (en := eGroup) (l := a0.Groups) (lq rfl) S30 rfl) ?_
    refine q3 ?_
    refine sq_nil ?_
    refine avc_if rfl ⟨fun c6 => ?_, fun c6 => ?_⟩
    ·
     replace hsy4 := cT c6 hsy4
     refine avc_skip <| avc_sq2 <| avc_block <| avc_sq2 ?_
     refine avc_drawA MX rfl ?_
     refine q4 ?_
     refine q4 ?_
     obtain ⟨t54, ht54, hsy4'⟩ := bE hsy4; clear hsy4
     refine daa (m_index (en := eGroup) (lq rfl) S30 rfl rfl ht54) ?_
     refine q24 L110_1 ?_
     refine daa (m_loadE (en := eGroup) (l := a0.Groups) (i := v7) (v := t54) (off := 1) (lq rfl) O3 rfl ht54 rfl) ?_
     refine q46 ?_
     obtain ⟨b58, hb58, hsy4⟩ := bE hsy4'; clear hsy4'
     refine daa ((a_move_d (lq rfl) rfl).bool (Option.some.inj hb58)) ?_
     refine daf (.d (dsl eGroup a0.Groups)) rfl (fun hb => by subst hb; exact a_move_d (lq rfl) rfl) ?_
     refine daf (.d (di v7)) rfl (fun hb => by subst hb; exact a_move_d (lq rfl) rfl) ?_
     obtain ⟨t61, ht61, hsy4'⟩ := bE hsy4; clear hsy4
     refine daf (.ip (eGroup.all a0.Groups) (v7.toNat * eGroup.size)) rfl (fun hb => by subst hb; exact m_index (en := eGroup) (lq rfl) S30 rfl rfl ht61) ?_
     refine daf (.ip (eGroup.all a0.Groups) (v7.toNat * eGroup.size + 2)) rfl (fun hb => by subst hb; exact a_fieldAddr_ip (lq rfl) L110_2 rfl) ?_
     refine daf (.d (di t61.Hi)) rfl (fun hb => by subst hb; exact m_loadE (en := eGroup) (l := a0.Groups) (i := v7) (v := t61) (off := 2) (lq rfl) O3 rfl ht61 rfl) ?_
     refine daf (.d (dsl eGroup a0.Groups)) rfl (fun hb => by subst hb; exact a_move_d (lq rfl) rfl) ?_
     refine daf (.d (di v7)) rfl (fun hb => by subst hb; exact a_move_d (lq rfl) rfl) ?_
     obtain ⟨t66, ht66, hsy4⟩ := bE hsy4'; clear hsy4'
     refine daf (.ip (eGroup.all a0.Groups) (v7.toNat * eGroup.size)) rfl (fun hb => by subst hb; exact m_index (en := eGroup) (lq rfl) S30 rfl rfl ht66) ?_
     refine daf (.ip (eGroup.all a0.Groups) (v7.toNat * eGroup.size + 1)) rfl (fun hb => by subst hb; exact a_fieldAddr_ip (lq rfl) L110_1 rfl) ?_
     refine daf (.d (di t66.Lo)) rfl (fun hb => by subst hb; exact m_loadE (en := eGroup) (l := a0.Groups) (i := v7) (v := t66) (off := 1) (lq rfl) O3 rfl ht66 rfl) ?_
     refine daf (.d (db (decide (t61.Hi < t66.Lo)))) rfl (fun hb => by subst hb; exact a_lss (lq rfl) rfl rfl) ?_
     refine q41 ?_
     obtain ⟨b71, hb71, hsy4'⟩ := bE hsy4; clear hsy4
     refine daa ((a_move_d (lq rfl) rfl).bool (Option.some.inj hb71)) ?_
     refine daf (.d (dsl eGroup a0.Groups)) rfl (fun hb => by subst hb; exact a_move_d (lq rfl) rfl) ?_
     refine daf (.d (di v7)) rfl (fun hb => by subst hb; exact a_move_d (lq rfl) rfl) ?_
     obtain ⟨t74, ht74, hsy4⟩ := bE hsy4'; clear hsy4'
     refine daf (.ip (eGroup.all a0.Groups) (v7.toNat * eGroup.size)) rfl (fun hb => by subst hb; exact m_index (en := eGroup) (lq rfl) S30 rfl rfl ht74) ?_
     refine daf (.ip (eGroup.all a0.Groups) (v7.toNat * eGroup.size + 2)) rfl (fun hb => by subst hb; exact a_fieldAddr_ip (lq rfl) L110_2 rfl) ?_
     refine daf (.d (di t74.Hi)) rfl (fun hb => by subst hb; exact m_loadE (en := eGroup) (l := a0.Groups) (i := v7) (v := t74) (off := 2) (lq rfl) O3 rfl ht74 rfl) ?_
     refine daf (.ip (eCollation.cells a0) (0 + 2)) rfl (fun hb => by subst hb; exact m_fieldPt (lq rfl) L32_2 rfl) ?_
     refine daf (.d (di a0.Base)) rfl (fun hb => by subst hb; exact a_load_ip (lq rfl) O3 rfl rfl) ?_
     refine daf (.d (db (decide (a0.Base ≤ t74.Hi)))) rfl (fun hb => by subst hb; exact a_geq (lq rfl) rfl rfl) ?_
     refine q41 ?_
     refine da_nil ?_
     refine avc_if rfl ⟨fun c7 => ?_, fun c7 => ?_⟩
     ·
      replace hsy4 := cT c7 hsy4
      refine avc_sq2 <| avc_sq <| q1 ?_
      refine sq_nil <| avc_ret ?_
      cases hsy4
      intro q; cases q
      exact ⟨rfl, wc⟩
     ·
      replace hsy4 := cF c7 hsy4
      refine avc_skip <| avc_sq <| q0 ?_
      refine q2 ?_
      refine q1 ?_
      refine sq_nil ?_
      cases hsy4
      exact wc
    ·
     replace hsy4 := cF c6 hsy4
     refine avc_exit ?_
     cases hsy4
     intro q; cases q
     exact ⟨rfl, wc⟩
   ·
    rintro y4 rfl
    replace h' := eL h'
    refine avc_sq2 <| avc_sq2 <| avc_sq <| q1 ?_
    refine sq_nil <| avc_block ?_
    obtain ⟨y5, hy5, h⟩ := bE h'; clear h'
    refine avc_tail2 y5 (.exit 8) (fun y5 => ⟨[], []⟩) .ret (fun y5 => ⟨[(2, .d (di y5))], []⟩) ?_ ?_ ?_
    ·
     refine avc_loopM (fun x => ⟨[(3, .d (dsl eGroup a0.Groups)), (8, .d (di x))], []⟩) hy5 (wc) ?_
     rintro v8 sy5 hsy5
     replace hsy5 : ref43_groups_L4 a0 v8 = some sy5 := hsy5
     unfold ref43_groups_L4 at hsy5
     refine avc_sq2 <| avc_sq2 <| avc_sq <| q0 ?_
     refine q0 ?_
     refine sqa (m_len (en := eGroup) (l := a0.Groups) (lq rfl) S30 rfl) ?_
     refine q3 ?_
     refine sq_nil ?_
     refine avc_if rfl ⟨fun c8 => ?_, fun c8 => ?_⟩
     ·
      replace hsy5 := cT c8 hsy5
      refine avc_skip <| avc_sq2 <| avc_block <| avc_sq2 ?_
      refine avc_drawA MX rfl ?_
      refine q4 ?_
      refine q4 ?_
      obtain ⟨t89, ht89, hsy5'⟩ := bE hsy5; clear hsy5
      refine daa (m_index (en := eGroup) (lq rfl) S30 rfl rfl ht89) ?_
      refine q24 L110_1 ?_
      refine daa (m_loadE (en := eGroup) (l := a0.Groups) (i := v8) (v := t89) (off := 1) (lq rfl) O3 rfl ht89 rfl) ?_
      refine q4 ?_
      refine q4 ?_
      refine q39 ?_
      obtain ⟨t95, ht95, hsy5⟩ := bE hsy5'; clear hsy5'
      refine daa (m_index (en := eGroup) (lq rfl) S30 rfl rfl ht95) ?_
      refine q24 L110_2 ?_
      refine daa (m_loadE (en := eGroup) (l := a0.Groups) (i := (wi (v8 - 1))) (v := t95) (off := 2) (lq rfl) O3 rfl ht95 rfl) ?_
      refine q53 ?_
      refine daa (a_neq (lq rfl) rfl rfl) ?_
      refine da_nil ?_
      refine avc_if rfl ⟨fun c9 => ?_, fun c9 => ?_⟩
      ·
       replace hsy5 := cT c9 hsy5
       refine avc_sq2 <| avc_sq <| q1 ?_
       refine sq_nil <| avc_ret ?_
       cases hsy5
       intro q; cases q
       exact ⟨rfl, wc⟩
      ·
       replace hsy5 := cF c9 hsy5
       refine avc_skip <| avc_sq <| q0 ?_
       refine q2 ?_
       refine q1 ?_
       refine sq_nil ?_
       cases hsy5
       exact wc
     ·
      replace hsy5 := cF c8 hsy5
      refine avc_exit ?_
      cases hsy5
      intro q; cases q
      exact ⟨rfl, wc⟩
    ·
     rintro y5 rfl
     replace h := eL h
     refine avc_sq2 <| avc_sq <| q1 ?_
     refine sq_nil ?_
     cases h
     refine avc_ret ?_
     exact ret_1 rfl
    ·
     rintro y5 rfl
     replace h := eR h
     cases h
     exact ret_1 rfl
   ·
    rintro y4 rfl
    replace h' := eR h'
    cases h'
    exact ret_1 rfl
  ·
   rintro y2 rfl
   replace h := eR h
   cases h
   exact ret_1 rfl
 ·
  rintro y1 rfl
  replace h' := eR h'
  cases h'
  exact ret_1 rfl
theorem ref01_Valid_c  {a0 : Int}  {r : Bool} (h : ref01_Valid a0 = some r) : Contract Tryz.prog 58 [(di a0)] [(db r)] := by
 refine contract_of Tryz.func58 (by kernel_rfl) rfl (lq rfl) (lq rfl) fun w0 I0 hI0 hG0 => ?_
 unfold ref01_Valid at h
 refine avc_sq2 <| avc_sq <| q1 ?_
 refine sq_nil <| avc_sq2 <| avc_sq <| q0 ?_
 refine q20 ?_
 obtain ⟨b5, hb5, h'⟩ := bE h; clear h
 refine sqa ((a_move_d (lq rfl) rfl).bool (Option.some.inj hb5)) ?_
 refine sqt (.d (di a0)) rfl (fun hb => by subst hb; exact a_move_d (lq rfl) rfl) ?_
 refine sqt (.d (db (decide (a0 ≤ 1114111)))) rfl (fun hb => by subst hb; exact a_leq (lq rfl) rfl rfl) ?_
 refine q8 ?_
 refine q1 ?_
 refine sq_nil ?_
 cases h'
 refine avc_ret ?_
 exact ret_1 rfl
theorem ref42_weight_c  {a0 : Int}  {r : Bool} (h : ref42_weight a0 = some r) : Contract Tryz.prog 98 [(di a0)] [(db r)] := by
 refine contract_of Tryz.func98 (by kernel_rfl) rfl (lq rfl) (lq rfl) fun w0 I0 hI0 hG0 => ?_
 unfold ref42_weight at h
 refine avc_sq2 <| avc_sq <| q1 ?_
 refine sq_nil <| avc_sq2 <| avc_sq <| q0 ?_
 refine q20 ?_
 obtain ⟨b5, hb5, h'⟩ := bE h; clear h
 refine sqa ((a_move_d (lq rfl) rfl).bool (Option.some.inj hb5)) ?_
 refine sqt (.d (di a0)) rfl (fun hb => by subst hb; exact a_move_d (lq rfl) rfl) ?_
 refine sqt (.d (db (decide (a0 ≤ 65535)))) rfl (fun hb => by subst hb; exact a_leq (lq rfl) rfl rfl) ?_
 refine q8 ?_
 refine q1 ?_
 refine sq_nil ?_
 cases h'
 refine avc_ret ?_
 exact ret_1 rfl
theorem ref42_Check_c  {a0 : Element}  {r : Int} (h : ref42_Check a0 = some r) : Contract Tryz.prog 70 [(eElement.dv a0)] [(di r)] := by
 refine contract_of Tryz.func70 (by kernel_rfl) rfl (lq rfl) (lq rfl) fun w0 I0 hI0 hG0 => ?_
 unfold ref42_Check at h
 refine avc_sq2 <| avc_sq ?_
 refine sqa (m_box (size := 4) (lq rfl) rfl rfl) ?_
 refine q1 ?_
 refine sq_nil <| avc_sq2 <| avc_sq2 <| avc_sq <| q5 L63_0 ?_
 refine q6 O3 ?_
 obtain ⟨t5, ht5, h'⟩ := bE h; clear h
 refine sqa (a_call (lq rfl) rfl (ref42_weight_c ht5)) ?_
 refine q16 ?_
 obtain ⟨b7, hb7, h⟩ := bE h'; clear h'
 refine sqa ((a_move_d (lq rfl) rfl).bool (Option.some.inj hb7)) ?_
 refine sqf (.ip (eElement.cells a0) (0 + 1)) rfl (fun hb => by subst hb; exact m_fieldPt (lq rfl) L63_1 rfl) ?_
 refine sqf (.d (di a0.Secondary)) rfl (fun hb => by subst hb; exact a_load_ip (lq rfl) O3 rfl rfl) ?_
 obtain ⟨t10, ht10, h'⟩ := bE h; clear h
 refine sqf (.d (db t10)) rfl (fun hb => by subst hb; exact a_call (lq rfl) rfl (ref42_weight_c ht10)) ?_
 refine sqf (.d (db (!t10))) rfl (fun hb => by subst hb; exact a_not (lq rfl) rfl) ?_
 refine q11 ?_
 obtain ⟨b13, hb13, h⟩ := bE h'; clear h'
 refine sqa ((a_move_d (lq rfl) rfl).bool (Option.some.inj hb13)) ?_
 refine sqf (.ip (eElement.cells a0) (0 + 2)) rfl (fun hb => by subst hb; exact m_fieldPt (lq rfl) L63_2 rfl) ?_
 refine sqf (.d (di a0.Tertiary)) rfl (fun hb => by subst hb; exact a_load_ip (lq rfl) O3 rfl rfl) ?_
 obtain ⟨t16, ht16, h'⟩ := bE h; clear h
 refine sqf (.d (db t16)) rfl (fun hb => by subst hb; exact a_call (lq rfl) rfl (ref42_weight_c ht16)) ?_
 refine sqf (.d (db (!t16))) rfl (fun hb => by subst hb; exact a_not (lq rfl) rfl) ?_
 refine q11 ?_
 refine sq_nil ?_
 refine avc_if rfl ⟨fun c1 => ?_, fun c1 => ?_⟩
 ·
  replace h' := cT c1 h'
  refine avc_sq2 <| avc_sq <| q1 ?_
  refine sq_nil ?_
  cases h'
  refine avc_ret ?_
  exact ret_1 rfl
 ·
  replace h' := cF c1 h'
  refine avc_skip <| avc_sq2 <| avc_sq2 <| avc_sq <| q5 L63_0 ?_
  refine q6 O3 ?_
  refine q19 ?_
  obtain ⟨b22, hb22, h⟩ := bE h'; clear h'
  refine sqa ((a_move_d (lq rfl) rfl).bool (Option.some.inj hb22)) ?_
  refine sqt (.ip (eElement.cells a0) (0 + 1)) rfl (fun hb => by subst hb; exact m_fieldPt (lq rfl) L63_1 rfl) ?_
  refine sqt (.d (di a0.Secondary)) rfl (fun hb => by subst hb; exact a_load_ip (lq rfl) O3 rfl rfl) ?_
  refine sqt (.d (db (decide (a0.Secondary = 0)))) rfl (fun hb => by subst hb; exact a_eql (lq rfl) rfl rfl) ?_
  obtain ⟨b26, hb26, h'⟩ := bE h; clear h
  refine sqt (.d (db b26)) rfl (fun hb => by subst hb; exact (a_move_d (lq rfl) rfl).bool (Option.some.inj hb26)) ?_
  refine sq_g2 (x := .ip (eElement.cells a0) (0 + 2)) rfl rfl rfl (lq rfl) (lq rfl) rfl (fun hb => by obtain ⟨hb, hb1⟩ := and_split hb; obtain rfl : b22 = true := hb; obtain rfl := gF hb1; exact m_fieldPt (lq rfl) L63_2 rfl) ?_
  refine sq_g2 (x := .d (di a0.Tertiary)) rfl rfl rfl (lq rfl) (lq rfl) rfl (fun hb => by obtain ⟨hb, hb1⟩ := and_split hb; obtain rfl : b22 = true := hb; obtain rfl := gF hb1; exact a_load_ip (lq rfl) O3 rfl rfl) ?_
  refine sq_g2 (x := .d (db (decide (a0.Tertiary = 0)))) rfl rfl rfl (lq rfl) (lq rfl) rfl (fun hb => by obtain ⟨hb, hb1⟩ := and_split hb; obtain rfl : b22 = true := hb; obtain rfl := gF hb1; exact a_eql (lq rfl) rfl rfl) ?_
  refine sqt (.d (db (b26 || (decide (a0.Tertiary = 0))))) rfl (fun hb => by subst hb; exact a_pick_or (lq rfl) rfl rfl) ?_
  refine q8 ?_
  obtain ⟨b32, hb32, h⟩ := bE h'; clear h'
  refine sqa ((a_move_d (lq rfl) rfl).bool (Option.some.inj hb32)) ?_
  refine sqf (.ip (eElement.cells a0) (0 + 1)) rfl (fun hb => by subst hb; exact m_fieldPt (lq rfl) L63_1 rfl) ?_
  refine sqf (.d (di a0.Secondary)) rfl (fun hb => by subst hb; exact a_load_ip (lq rfl) O3 rfl rfl) ?_
  refine sqf (.d (db (!decide (a0.Secondary = 0)))) rfl (fun hb => by subst hb; exact a_neq (lq rfl) rfl rfl) ?_
  obtain ⟨b36, hb36, h'⟩ := bE h; clear h
  refine sqf (.d (db b36)) rfl (fun hb => by subst hb; exact (a_move_d (lq rfl) rfl).bool (Option.some.inj hb36)) ?_
  refine sq_g2 (x := .ip (eElement.cells a0) (0 + 2)) rfl rfl rfl (lq rfl) (lq rfl) rfl (fun hb => by obtain ⟨hb, hb1⟩ := and_split hb; obtain rfl := gF hb; obtain rfl : b36 = true := hb1; exact m_fieldPt (lq rfl) L63_2 rfl) ?_
  refine sq_g2 (x := .d (di a0.Tertiary)) rfl rfl rfl (lq rfl) (lq rfl) rfl (fun hb => by obtain ⟨hb, hb1⟩ := and_split hb; obtain rfl := gF hb; obtain rfl : b36 = true := hb1; exact a_load_ip (lq rfl) O3 rfl rfl) ?_
  refine sq_g2 (x := .d (db (decide (a0.Tertiary = 0)))) rfl rfl rfl (lq rfl) (lq rfl) rfl (fun hb => by obtain ⟨hb, hb1⟩ := and_split hb; obtain rfl := gF hb; obtain rfl : b36 = true := hb1; exact a_eql (lq rfl) rfl rfl) ?_
  refine sqf (.d (db (b36 && (decide (a0.Tertiary = 0))))) rfl (fun hb => by subst hb; exact a_pick_and (lq rfl) rfl rfl) ?_
  refine q11 ?_
  obtain ⟨b42, hb42, h⟩ := bE h'; clear h'
  refine sqa ((a_move_d (lq rfl) rfl).bool (Option.some.inj hb42)) ?_
  refine sqf (.ip (eElement.cells a0) (0 + 3)) rfl (fun hb => by subst hb; exact m_fieldPt (lq rfl) L63_3 rfl) ?_
  refine sqf (.d (db a0.Variable)) rfl (fun hb => by subst hb; exact a_load_ip (lq rfl) O4 rfl rfl) ?_
  obtain ⟨b45, hb45, h'⟩ := bE h; clear h
  refine sqf (.d (db b45)) rfl (fun hb => by subst hb; exact (a_move_d (lq rfl) rfl).bool (Option.some.inj hb45)) ?_
  refine sq_g2 (x := .ip (eElement.cells a0) (0 + 0)) rfl rfl rfl (lq rfl) (lq rfl) rfl (fun hb => by obtain ⟨hb, hb1⟩ := and_split hb; obtain rfl := gF hb; obtain rfl : b45 = true := hb1; exact m_fieldPt (lq rfl) L63_0 rfl) ?_
  refine sq_g2 (x := .d (di a0.Primary)) rfl rfl rfl (lq rfl) (lq rfl) rfl (fun hb => by obtain ⟨hb, hb1⟩ := and_split hb; obtain rfl := gF hb; obtain rfl : b45 = true := hb1; exact a_load_ip (lq rfl) O3 rfl rfl) ?_
  refine sq_g2 (x := .d (db (decide (a0.Primary = 0)))) rfl rfl rfl (lq rfl) (lq rfl) rfl (fun hb => by obtain ⟨hb, hb1⟩ := and_split hb; obtain rfl := gF hb; obtain rfl : b45 = true := hb1; exact a_eql (lq rfl) rfl rfl) ?_
  refine sqf (.d (db (b45 && (decide (a0.Primary = 0))))) rfl (fun hb => by subst hb; exact a_pick_and (lq rfl) rfl rfl) ?_
  refine q11 ?_
  refine sq_nil ?_
  refine avc_if rfl ⟨fun c2 => ?_, fun c2 => ?_⟩
  ·
   replace h' := cT c2 h'
   refine avc_sq2 <| avc_sq <| q1 ?_
   refine sq_nil ?_
   cases h'
   refine avc_ret ?_
   exact ret_1 rfl
  ·
   replace h' := cF c2 h'
   refine avc_skip <| avc_sq2 <| avc_sq <| q1 ?_
   refine sq_nil ?_
   cases h'
   refine avc_ret ?_
   exact ret_1 rfl
theorem ref43_entry_c  {a0 : Collation} {a1 : Int}  {r : Int} (h : ref43_entry a0 a1 = some r) : Contract Tryz.prog 43 [(eCollation.dv a0), (di a1)] [(di r)] := by
 refine contract_of Tryz.func43 (by kernel_rfl) rfl (lq rfl) (lq rfl) fun w0 I0 hI0 hG0 => ?_
 unfold ref43_entry at h
 refine avc_sq2 <| avc_sq ?_
 refine sqa (m_box (size := 5) (lq rfl) rfl rfl) ?_
 refine q1 ?_
 refine sq_nil <| avc_sq2 <| avc_sq <| q5 L32_0 ?_
 refine q6 O29 ?_
 refine q0 ?_
 obtain ⟨t13, ht13, h'⟩ := bE h; clear h
 refine sqa (m_index (en := eEntry) (lq rfl) S29 rfl rfl ht13) ?_
 refine sqa (m_loadEA (en := eEntry) (l := a0.Entries) (i := a1) (v := t13) (off := 0) (lq rfl) G45 rfl ht13 rfl rfl (by decide)) ?_
 refine sq_b rfl (step_alloc (zs := [(.slice none 0 0), (.slice none 0 0)]) (lq rfl) (by kernel_rfl) rfl rfl) ?_
 refine q10 G45 ?_
 refine sq_nil ?_
 refine avc_weak (weak_freeze (t := 5) (lq rfl) rfl rfl rfl) ?_
 refine avc_sq2 <| avc_sq2 <| avc_sq <| q5 L45_0 ?_
 refine q6 O33 ?_
 refine sqa (m_len (en := eI) (l := t13.Codes) (lq rfl) S33 rfl) ?_
 refine q3 ?_
 obtain ⟨b19, hb19, h⟩ := bE h'; clear h'
 refine sqa ((a_move_d (lq rfl) rfl).bool (Option.some.inj hb19)) ?_
 refine sqf (.ip (eEntry.cells t13) (0 + 0)) rfl (fun hb => by subst hb; exact m_fieldPt (lq rfl) L45_0 rfl) ?_
 refine sqf (.d (dsl eI t13.Codes)) rfl (fun hb => by subst hb; exact a_load_ip (lq rfl) O33 rfl rfl) ?_
 refine sqf (.d (di (t13.Codes.length : Int))) rfl (fun hb => by subst hb; exact m_len (en := eI) (l := t13.Codes) (lq rfl) S33 rfl) ?_
 refine sqf (.d (db (decide (8 < (t13.Codes.length : Int))))) rfl (fun hb => by subst hb; exact a_gtr (lq rfl) rfl rfl) ?_
 refine q11 ?_
 obtain ⟨b25, hb25, h'⟩ := bE h; clear h
 refine sqa ((a_move_d (lq rfl) rfl).bool (Option.some.inj hb25)) ?_
 refine sqf (.ip (eEntry.cells t13) (0 + 1)) rfl (fun hb => by subst hb; exact m_fieldPt (lq rfl) L45_1 rfl) ?_
 refine sqf (.d (dsl eElement t13.Elements)) rfl (fun hb => by subst hb; exact a_load_ip (lq rfl) O38 rfl rfl) ?_
 refine sqf (.d (di (t13.Elements.length : Int))) rfl (fun hb => by subst hb; exact m_len (en := eElement) (l := t13.Elements) (lq rfl) S38 rfl) ?_
 refine sqf (.d (db (decide (16 < (t13.Elements.length : Int))))) rfl (fun hb => by subst hb; exact a_gtr (lq rfl) rfl rfl) ?_
 refine q11 ?_
 refine sq_nil ?_
 refine avc_if rfl ⟨fun c1 => ?_, fun c1 => ?_⟩
 ·
  replace h' := cT c1 h'
  refine avc_sq2 <| avc_sq <| q1 ?_
  refine sq_nil ?_
  cases h'
  refine avc_ret ?_
  exact ret_1 rfl
 ·
  replace h' := cF c1 h'
  refine avc_skip <| avc_sq2 <| avc_sq2 <| avc_sq <| q1 ?_
  refine sq_nil <| avc_block ?_
  obtain ⟨y1, hy1, h⟩ := bE h'; clear h'
  refine avc_tail2 y1 (.exit 0) (fun y1 => ⟨[(1, .d (di a1)), (2, .d (.pt (eCollation.cells a0))), (5, .d (.pt (eEntry.cells t13)))], []⟩) .ret (fun y1 => ⟨[(4, .d (di y1))], []⟩) ?_ ?_ ?_
  ·
   refine avc_loopM (fun x => ⟨[(1, .d (di a1)), (2, .d (.pt (eCollation.cells a0))), (5, .d (.pt (eEntry.cells t13))), (6, .d (di x))], []⟩) hy1 (wc) ?_
   rintro v6 sy1 hsy1
   replace hsy1 : ref43_entry_L0 t13 v6 = some sy1 := hsy1
   unfold ref43_entry_L0 at hsy1
   refine avc_sq2 <| avc_sq2 <| avc_sq <| q0 ?_
   refine q5 L45_0 ?_
   refine q6 O33 ?_
   refine sqa (m_len (en := eI) (l := t13.Codes) (lq rfl) S33 rfl) ?_
   refine q3 ?_
   refine sq_nil ?_
   refine avc_if rfl ⟨fun c2 => ?_, fun c2 => ?_⟩
   ·
    replace hsy1 := cT c2 hsy1
    refine avc_skip <| avc_sq2 <| avc_block <| avc_sq2 <| avc_sq <| q5 L45_0 ?_
    refine q6 O33 ?_
    refine q0 ?_
    obtain ⟨t41, ht41, hsy1'⟩ := bE hsy1; clear hsy1
    refine sqa (m_index (en := eI) (lq rfl) S33 rfl rfl ht41) ?_
    refine sqa (m_loadE (en := eI) (l := t13.Codes) (i := v6) (v := t41) (off := 0) (lq rfl) O3 rfl ht41 rfl) ?_
    obtain ⟨t43, ht43, hsy1⟩ := bE hsy1'; clear hsy1'
    refine sqa (a_call (lq rfl) rfl (ref01_Valid_c ht43)) ?_
    refine q16 ?_
    refine sq_nil ?_
    refine avc_if rfl ⟨fun c3 => ?_, fun c3 => ?_⟩
    ·
     replace hsy1 := cT c3 hsy1
     refine avc_sq2 <| avc_sq <| q1 ?_
     refine sq_nil <| avc_ret ?_
     cases hsy1
     intro q; cases q
     exact ⟨rfl, wc⟩
    ·
     replace hsy1 := cF c3 hsy1
     refine avc_skip <| avc_sq <| q0 ?_
     refine q2 ?_
     refine q1 ?_
     refine sq_nil ?_
     cases hsy1
     exact wc
   ·
    replace hsy1 := cF c2 hsy1
    refine avc_exit ?_
    cases hsy1
    intro q; cases q
    exact ⟨rfl, wc⟩
  ·
   rintro y1 rfl
   replace h := eL h
   refine avc_sq2 <| avc_sq2 <| avc_sq <| q1 ?_
   refine sq_nil <| avc_block ?_
   obtain ⟨y2, hy2, h'⟩ := bE h; clear h
   refine avc_tail2 y2 (.exit 2) (fun y2 => ⟨[(1, .d (di a1)), (2, .d (.pt (eCollation.cells a0))), (5, .d (.pt (eEntry.cells t13)))], []⟩) .ret (fun y2 => ⟨[(4, .d (di y2))], []⟩) ?_ ?_ ?_
   ·
    refine avc_loopM (fun x => ⟨[(1, .d (di a1)), (2, .d (.pt (eCollation.cells a0))), (5, .d (.pt (eEntry.cells t13))), (7, .d (di x))], []⟩) hy2 (wc) ?_
    rintro v7 sy2 hsy2
    replace hsy2 : ref43_entry_L1 t13 v7 = some sy2 := hsy2
    unfold ref43_entry_L1 at hsy2
    refine avc_sq2 <| avc_sq2 <| avc_sq <| q0 ?_
    refine q5 L45_1 ?_
    refine q6 O38 ?_
    refine sqa (m_len (en := eElement) (l := t13.Elements) (lq rfl) S38 rfl) ?_
    refine q3 ?_
    refine sq_nil ?_
    refine avc_if rfl ⟨fun c4 => ?_, fun c4 => ?_⟩
    ·
     replace hsy2 := cT c4 hsy2
     refine avc_skip <| avc_sq2 <| avc_block <| avc_sq2 <| avc_sq <| q5 L45_1 ?_
     refine q6 O38 ?_
     refine q0 ?_
     obtain ⟨t55, ht55, hsy2'⟩ := bE hsy2; clear hsy2
     refine sqa (m_index (en := eElement) (lq rfl) S38 rfl rfl ht55) ?_
     refine sqa (m_loadEA (en := eElement) (l := t13.Elements) (i := v7) (v := t55) (off := 0) (lq rfl) G63 rfl ht55 rfl rfl (by decide)) ?_
     obtain ⟨t57, ht57, hsy2⟩ := bE hsy2'; clear hsy2'
     refine sqa (a_call (lq rfl) rfl (ref42_Check_c ht57)) ?_
     refine q1 ?_
     refine sq_nil <| avc_sq2 <| avc_sq <| q0 ?_
     refine q19 ?_
     refine sq_nil ?_
     refine avc_if rfl ⟨fun c5 => ?_, fun c5 => ?_⟩
     ·
      replace hsy2 := cT c5 hsy2
      refine avc_sq2 <| avc_sq <| q0 ?_
      refine q1 ?_
      refine sq_nil <| avc_ret ?_
      cases hsy2
      intro q; cases q
      exact ⟨rfl, wc⟩
     ·
      replace hsy2 := cF c5 hsy2
      refine avc_skip <| avc_sq <| q0 ?_
      refine q2 ?_
      refine q1 ?_
      refine sq_nil ?_
      cases hsy2
      exact wc
    ·
     replace hsy2 := cF c4 hsy2
     refine avc_exit ?_
     cases hsy2
     intro q; cases q
     exact ⟨rfl, wc⟩
   ·
    rintro y2 rfl
    replace h' := eL h'
    refine avc_sq2 <| avc_sq2 <| avc_sq <| q1 ?_
    refine sq_nil <| avc_block ?_
    obtain ⟨y3, hy3, h⟩ := bE h'; clear h'
    refine avc_tail2 y3 (.exit 4) (fun y3 => ⟨[(1, .d (di a1)), (2, .d (.pt (eCollation.cells a0))), (5, .d (.pt (eEntry.cells t13)))], []⟩) .ret (fun y3 => ⟨[(4, .d (di y3))], []⟩) ?_ ?_ ?_
    ·
     refine avc_loopM (fun x => ⟨[(1, .d (di a1)), (2, .d (.pt (eCollation.cells a0))), (5, .d (.pt (eEntry.cells t13))), (9, .d (di x))], []⟩) hy3 (wc) ?_
     rintro v9 sy3 hsy3
     replace hsy3 : ref43_entry_L2 t13 a0 v9 = some sy3 := hsy3
     unfold ref43_entry_L2 at hsy3
     refine avc_sq2 <| avc_sq2 <| avc_sq <| q0 ?_
     refine q5 L45_1 ?_
     refine q6 O38 ?_
     refine sqa (m_len (en := eElement) (l := t13.Elements) (lq rfl) S38 rfl) ?_
     refine q3 ?_
     refine sq_nil ?_
     refine avc_if rfl ⟨fun c6 => ?_, fun c6 => ?_⟩
     ·
      replace hsy3 := cT c6 hsy3
      refine avc_skip <| avc_sq2 <| avc_block <| avc_sq2 ?_
      refine avc_drawA MX rfl ?_
      refine q14 L45_1 ?_
      refine q15 O38 ?_
      refine q4 ?_
      obtain ⟨t71, ht71, hsy3'⟩ := bE hsy3; clear hsy3
      refine daa (m_index (en := eElement) (lq rfl) S38 rfl rfl ht71) ?_
      refine q24 L63_0 ?_
      refine daa (m_loadE (en := eElement) (l := t13.Elements) (i := v9) (v := t71) (off := 0) (lq rfl) O3 rfl ht71 rfl) ?_
      refine q14 L32_2 ?_
      refine q15 O3 ?_
      refine daa (a_geq (lq rfl) rfl rfl) ?_
      refine da_nil ?_
      refine avc_if rfl ⟨fun c7 => ?_, fun c7 => ?_⟩
      ·
       replace hsy3' := cT c7 hsy3'
       refine avc_sq2 <| avc_sq <| q1 ?_
       refine sq_nil <| avc_ret ?_
       cases hsy3'
       intro q; cases q
       exact ⟨rfl, wc⟩
      ·
       replace hsy3' := cF c7 hsy3'
       refine avc_skip <| avc_sq <| q0 ?_
       refine q2 ?_
       refine q1 ?_
       refine sq_nil ?_
       cases hsy3'
       exact wc
     ·
      replace hsy3 := cF c6 hsy3
      refine avc_exit ?_
      cases hsy3
      intro q; cases q
      exact ⟨rfl, wc⟩
    ·
     rintro y3 rfl
     replace h := eL h
     refine avc_sq2 <| avc_sq2 ?_
     refine avc_drawA MX rfl ?_
     refine q4 ?_
     refine q42 ?_
     obtain ⟨b79, hb79, h'⟩ := bE h; clear h
     refine daa ((a_move_d (lq rfl) rfl).bool (Option.some.inj hb79)) ?_
     refine dat (.ip (eCollation.cells a0) (0 + 0)) rfl (fun hb => by subst hb; exact m_fieldPt (lq rfl) L32_0 rfl) ?_
     refine dat (.d (dsl eEntry a0.Entries)) rfl (fun hb => by subst hb; exact a_load_ip (lq rfl) O29 rfl rfl) ?_
     refine dat (.d (di a1)) rfl (fun hb => by subst hb; exact a_move_d (lq rfl) rfl) ?_
     refine dat (.d (di (wi (a1 - 1)))) rfl (fun hb => by subst hb; exact m_sub (lq rfl) rfl rfl) ?_
     obtain ⟨t84, ht84, h⟩ := bE h'; clear h'
     refine dat (.ip (eEntry.all a0.Entries) ((wi (a1 - 1)).toNat * eEntry.size)) rfl (fun hb => by subst hb; exact m_index (en := eEntry) (lq rfl) S29 rfl rfl ht84) ?_
     refine dat (.ip (eEntry.all a0.Entries) ((wi (a1 - 1)).toNat * eEntry.size + 0)) rfl (fun hb => by subst hb; exact a_fieldAddr_ip (lq rfl) L45_0 rfl) ?_
     refine dat (.d (dsl eI t84.Codes)) rfl (fun hb => by subst hb; exact m_loadE (en := eEntry) (l := a0.Entries) (i := (wi (a1 - 1))) (v := t84) (off := 0) (lq rfl) O33 rfl ht84 rfl) ?_
     refine dat (.ip (eEntry.cells t13) (0 + 0)) rfl (fun hb => by subst hb; exact m_fieldPt (lq rfl) L45_0 rfl) ?_
     refine dat (.d (dsl eI t13.Codes)) rfl (fun hb => by subst hb; exact a_load_ip (lq rfl) O33 rfl rfl) ?_
     obtain ⟨t89, ht89, h'⟩ := bE h; clear h
     refine dat (.d (di t89)) rfl (fun hb => by subst hb; exact a_call (lq rfl) rfl (ref01_Compare_c ht89)) ?_
     refine dat (.d (db (decide (0 ≤ t89)))) rfl (fun hb => by subst hb; exact a_geq (lq rfl) rfl rfl) ?_
     refine q30 ?_
     refine da_nil ?_
     refine avc_if rfl ⟨fun c8 => ?_, fun c8 => ?_⟩
     ·
      replace h' := cT c8 h'
      refine avc_sq2 <| avc_sq <| q1 ?_
      refine sq_nil ?_
      cases h'
      refine avc_ret ?_
      exact ret_1 rfl
     ·
      replace h' := cF c8 h'
      refine avc_skip <| avc_sq2 <| avc_sq <| q1 ?_
      refine sq_nil ?_
      cases h'
      refine avc_ret ?_
      exact ret_1 rfl
    ·
     rintro y3 rfl
     replace h := eR h
     cases h
     exact ret_1 rfl
   ·
    rintro y2 rfl
    replace h' := eR h'
    cases h'
    exact ret_1 rfl
  ·
   rintro y1 rfl
   replace h := eR h
   cases h
   exact ret_1 rfl
theorem ref43_Check_c  {a0 : Collation}  {r : Int} (h : ref43_Check a0 = some r) : Contract Tryz.prog 18 [(eCollation.dv a0)] [(di r)] := by
 refine contract_of Tryz.func18 (by kernel_rfl) rfl (lq rfl) (lq rfl) fun w0 I0 hI0 hG0 => ?_
 unfold ref43_Check at h
 refine avc_sq2 <| avc_sq ?_
 refine sqa (m_box (size := 5) (lq rfl) rfl rfl) ?_
 refine q1 ?_
 refine sq_nil <| avc_sq2 <| avc_sq2 <| avc_sq <| q5 L32_2 ?_
 refine q6 O3 ?_
 refine q3 ?_
 obtain ⟨b9, hb9, h'⟩ := bE h; clear h
 refine sqa ((a_move_d (lq rfl) rfl).bool (Option.some.inj hb9)) ?_
 refine sqf (.ip (eCollation.cells a0) (0 + 2)) rfl (fun hb => by subst hb; exact m_fieldPt (lq rfl) L32_2 rfl) ?_
 refine sqf (.d (di a0.Base)) rfl (fun hb => by subst hb; exact a_load_ip (lq rfl) O3 rfl rfl) ?_
 refine sqf (.d (db (decide (65502 < a0.Base)))) rfl (fun hb => by subst hb; exact a_gtr (lq rfl) rfl rfl) ?_
 refine q11 ?_
 obtain ⟨b14, hb14, h⟩ := bE h'; clear h'
 refine sqa ((a_move_d (lq rfl) rfl).bool (Option.some.inj hb14)) ?_
 refine sqf (.ip (eCollation.cells a0) (0 + 3)) rfl (fun hb => by subst hb; exact m_fieldPt (lq rfl) L32_3 rfl) ?_
 refine sqf (.d (di a0.Second)) rfl (fun hb => by subst hb; exact a_load_ip (lq rfl) O3 rfl rfl) ?_
 obtain ⟨t17, ht17, h'⟩ := bE h; clear h
 refine sqf (.d (db t17)) rfl (fun hb => by subst hb; exact a_call (lq rfl) rfl (ref43_weight_c ht17)) ?_
 refine sqf (.d (db (!t17))) rfl (fun hb => by subst hb; exact a_not (lq rfl) rfl) ?_
 refine q11 ?_
 obtain ⟨b20, hb20, h⟩ := bE h'; clear h'
 refine sqa ((a_move_d (lq rfl) rfl).bool (Option.some.inj hb20)) ?_
 refine sqf (.ip (eCollation.cells a0) (0 + 4)) rfl (fun hb => by subst hb; exact m_fieldPt (lq rfl) L32_4 rfl) ?_
 refine sqf (.d (di a0.Third)) rfl (fun hb => by subst hb; exact a_load_ip (lq rfl) O3 rfl rfl) ?_
 obtain ⟨t23, ht23, h'⟩ := bE h; clear h
 refine sqf (.d (db t23)) rfl (fun hb => by subst hb; exact a_call (lq rfl) rfl (ref43_weight_c ht23)) ?_
 refine sqf (.d (db (!t23))) rfl (fun hb => by subst hb; exact a_not (lq rfl) rfl) ?_
 refine q11 ?_
 refine sq_nil ?_
 refine avc_if rfl ⟨fun c1 => ?_, fun c1 => ?_⟩
 ·
  replace h' := cT c1 h'
  refine avc_sq2 <| avc_sq <| q1 ?_
  refine sq_nil ?_
  cases h'
  refine avc_ret ?_
  exact ret_1 rfl
 ·
  replace h' := cF c1 h'
  refine avc_skip <| avc_sq2 <| avc_sq2 <| avc_sq <| q12 G32 ?_
  obtain ⟨t27, ht27, h⟩ := bE h'; clear h'
  refine sqa (a_call (lq rfl) rfl (ref43_groups_c ht27)) ?_
  refine q1 ?_
  refine sq_nil <| avc_sq2 <| avc_sq <| q0 ?_
  refine q19 ?_
  refine sq_nil ?_
  refine avc_if rfl ⟨fun c2 => ?_, fun c2 => ?_⟩
  ·
   replace h := cT c2 h
   refine avc_sq2 <| avc_sq <| q0 ?_
   refine q1 ?_
   refine sq_nil ?_
   cases h
   refine avc_ret ?_
   exact ret_1 rfl
  ·
   replace h := cF c2 h
   refine avc_skip <| avc_sq2 <| avc_sq2 <| avc_sq <| q1 ?_
   refine sq_nil <| avc_block ?_
   obtain ⟨y1, hy1, h'⟩ := bE h; clear h
   refine avc_tail2 y1 (.exit 0) (fun y1 => ⟨[], []⟩) .ret (fun y1 => ⟨[(2, .d (di y1))], []⟩) ?_ ?_ ?_
   ·
    refine avc_loopM (fun x => ⟨[(1, .d (.pt (eCollation.cells a0))), (4, .d (di x))], []⟩) hy1 (wc) ?_
    rintro v4 sy1 hsy1
    replace hsy1 : ref43_Check_L0 a0 v4 = some sy1 := hsy1
    unfold ref43_Check_L0 at hsy1
    refine avc_sq2 <| avc_sq2 <| avc_sq <| q0 ?_
    refine q5 L32_0 ?_
    refine q6 O29 ?_
    refine sqa (m_len (en := eEntry) (l := a0.Entries) (lq rfl) S29 rfl) ?_
    refine q3 ?_
    refine sq_nil ?_
    refine avc_if rfl ⟨fun c3 => ?_, fun c3 => ?_⟩
    ·
     replace hsy1 := cT c3 hsy1
     refine avc_skip <| avc_sq2 <| avc_block <| avc_sq2 <| avc_sq <| q12 G32 ?_
     refine q0 ?_
     obtain ⟨t40, ht40, hsy1'⟩ := bE hsy1; clear hsy1
     refine sqa (a_call (lq rfl) rfl (ref43_entry_c ht40)) ?_
     refine q1 ?_
     refine sq_nil <| avc_sq2 <| avc_sq <| q0 ?_
     refine q19 ?_
     refine sq_nil ?_
     refine avc_if rfl ⟨fun c4 => ?_, fun c4 => ?_⟩
     ·
      replace hsy1' := cT c4 hsy1'
      refine avc_sq2 <| avc_sq <| q0 ?_
      refine q1 ?_
      refine sq_nil <| avc_ret ?_
      cases hsy1'
      intro q; cases q
      exact ⟨rfl, wc⟩
     ·
      replace hsy1' := cF c4 hsy1'
      refine avc_skip <| avc_sq <| q0 ?_
      refine q2 ?_
      refine q1 ?_
      refine sq_nil ?_
      cases hsy1'
      exact wc
    ·
     replace hsy1 := cF c3 hsy1
     refine avc_exit ?_
     cases hsy1
     intro q; cases q
     exact ⟨rfl, wc⟩
   ·
    rintro y1 rfl
    replace h' := eL h'
    refine avc_sq2 <| avc_sq <| q1 ?_
    refine sq_nil ?_
    cases h'
    refine avc_ret ?_
    exact ret_1 rfl
   ·
    rintro y1 rfl
    replace h' := eR h'
    cases h'
    exact ret_1 rfl
theorem colltable_Find_c  {a0 : Collation} {a1 : (List Int)}  {r : (List Element) × Bool} (h : colltable_Find a0 a1 = some r) : Contract Tryz.prog 19 [(eCollation.dv a0), (dsl eI a1)] [(dsl eElement r.1), (db r.2)] := by
 refine contract_of Tryz.func19 (by kernel_rfl) rfl (lq rfl) (lq rfl) fun w0 I0 hI0 hG0 => ?_
 unfold colltable_Find at h
 refine avc_sq2 <| avc_sq ?_
 refine sqa (m_box (size := 5) (lq rfl) rfl rfl) ?_
 refine q1 ?_
 refine q1 ?_
 refine sq_nil <| avc_sq2 <| avc_sq <| q12 G32 ?_
 obtain ⟨t10, ht10, h'⟩ := bE h; clear h
 refine sq_b rfl (g_call [(13, 2510), (11, 3010)] (colltable_made_g ht10) (lq rfl) (by decide) ⟨rfl, trivial⟩ rfl rfl trivial rfl rfl rfl (fun _ => rfl) rfl) ?_
 refine q0 ?_
 refine sq_weak (weak_map_box (bid := 2510) (off := 5) rfl rfl rfl) ?_ (by simp)
 refine sq_weak (weak_freeze (t := 10) (lq rfl) rfl rfl rfl) ?_ (by simp)
 obtain ⟨t12, ht12, h⟩ := bE h'; clear h'
 refine sqa (a_call (lq rfl) rfl (colltable_table_find_c ht12)) ?_
 refine q27 ?_
 refine q13 ?_
 refine q13 ?_
 refine q1 ?_
 refine q1 ?_
 refine sq_nil <| avc_sq2 <| avc_sq <| q0 ?_
 obtain ⟨t16, ht16, h'⟩ := bE h; clear h
 refine sq_b rfl (g_call [(5, 2516)] (slices_Clone_api_Element_api_Element_g ht16) (lq rfl) (by decide) ⟨rfl, trivial⟩ rfl rfl trivial rfl rfl rfl (fun _ => rfl) rfl) ?_
 refine q0 ?_
 refine q9 ?_
 refine q1 ?_
 refine sq_nil ?_
 cases h'
 refine avc_ret ?_
 exact ret_two rfl rfl
theorem colltable_Implicit_c  {a0 : Collation} {a1 : Int}  {r : (List Element)} (h : colltable_Implicit a0 a1 = some r) : Contract Tryz.prog 20 [(eCollation.dv a0), (di a1)] [(dsl eElement r)] := by
 refine contract_of Tryz.func20 (by kernel_rfl) rfl (lq rfl) (lq rfl) fun w0 I0 hI0 hG0 => ?_
 unfold colltable_Implicit at h
 refine avc_sq2 <| avc_sq ?_
 refine sqa (m_box (size := 5) (lq rfl) rfl rfl) ?_
 refine q1 ?_
 refine sq_nil <| avc_sq2 <| avc_sq <| q12 G32 ?_
 obtain ⟨t6, ht6, h'⟩ := bE h; clear h
 refine sq_b rfl (g_call [(13, 2506), (11, 3006)] (colltable_made_g ht6) (lq rfl) (by decide) ⟨rfl, trivial⟩ rfl rfl trivial rfl rfl rfl (fun _ => rfl) rfl) ?_
 refine q0 ?_
 refine sq_weak (weak_map_box (bid := 2506) (off := 5) rfl rfl rfl) ?_ (by simp)
 refine sq_weak (weak_freeze (t := 6) (lq rfl) rfl rfl rfl) ?_ (by simp)
 obtain ⟨t8, ht8, h⟩ := bE h'; clear h'
 refine sqa (a_call (lq rfl) rfl (colltable_table_implicit_c ht8)) ?_
 refine q1 ?_
 refine sq_nil ?_
 cases h
 refine avc_ret ?_
 exact ret_1 rfl
theorem decompose_usable_c  {a0 : Norm}  {r : Norm} (h : decompose_usable a0 = some r) : Contract Tryz.prog 37 [(eNorm.dv a0)] [(eNorm.dv r)] := by
 refine contract_of Tryz.func37 (by kernel_rfl) rfl (lq rfl) (lq rfl) fun w0 I0 hI0 hG0 => ?_
 unfold decompose_usable at h
 refine avc_sq2 <| avc_sq ?_
 refine sqa (m_box (size := 3) (lq rfl) rfl rfl) ?_
 refine sq_b rfl (step_alloc (zs := [(.slice none 0 0), (.slice none 0 0), (.slice none 0 0)]) (lq rfl) (by kernel_rfl) rfl rfl) ?_
 refine sq_nil <| avc_sq2 <| avc_sq2 <| avc_sq <| q12 G28 ?_
 obtain ⟨t4, ht4, h'⟩ := bE h; clear h
 refine sqa (a_call (lq rfl) rfl (decompose_Check_c ht4)) ?_
 refine q19 ?_
 refine sq_nil ?_
 refine avc_if rfl ⟨fun c1 => ?_, fun c1 => ?_⟩
 ·
  replace h' := cT c1 h'
  refine avc_sq2 <| avc_sq ?_
  refine sqa ((m_build (lq rfl) B28 rfl rfl).nils (bs := eNorm.cells ({ Classes := [], Decomp := [], Excluded := (({ Ranges := [] }) : Set) } : Norm)) (nlN (nlN (nlN nl0)))) ?_
  refine q10 G28 ?_
  refine sq_nil ?_
  cases h'
  refine avc_ret ?_
  exact ret_cellA rfl rfl G28 rfl
 ·
  replace h' := cF c1 h'
  refine avc_skip <| avc_sq2 <| avc_sq <| q12 G28 ?_
  refine q10 G28 ?_
  refine sq_nil ?_
  cases h'
  refine avc_ret ?_
  exact ret_cellA rfl rfl G28 rfl
theorem decompose_expander_1_g : ∀ (n : Nat) {a0 : Int} {a1 : (List (Int × (List Int)))} {a2 : Norm} {a3 : Bool} {r : (List Int) × (List (Int × (List Int)))}, decompose_expander_1 n a0 a1 a2 a3 = some r → GC Tryz.prog 59 [.d (di a0), .ptr 3001 0, .d (.pt (eNorm.cells a2)), .d (.pt [(db a3)]), .ptr 3004 0] [(3001, .box 96 [.row 3120]), (3004, .box 74 [.clo 59 [.ptr 3001 0, .d (.pt (eNorm.cells a2)), .d (.pt [(db a3)]), .ptr 3004 0]]), (3120, .map (mapE kI (eL eI) a1))] [3001, 3004, 3120] [.d (dsl eI r.1)] [(3001, .box 96 [.row 3120]), (3004, .box 74 [.clo 59 [.ptr 3001 0, .d (.pt (eNorm.cells a2)), .d (.pt [(db a3)]), .ptr 3004 0]]), (3120, .map (mapE kI (eL eI) r.2))] := by
 intro n
 induction n with
 | zero => intro a0 a1 a2 a3 r h; cases h
 | succ n ih =>
 intro a0 a1 a2 a3 r h
 replace h : decompose_expander_1_B (decompose_expander_1 n) a0 a1 a2 a3 = some r := h
 generalize decompose_expander_1 n = rec at h ih
 refine gc_of Tryz.func59 (by kernel_rfl) rfl (lq rfl) (lq rfl) fun w0 I0 hG0 p0 => ?_
 unfold decompose_expander_1_B at h
 refine avc_sq2 <| avc_sq <| q1 ?_
 refine sq_nil <| avc_sq2 <| avc_sq2 <| avc_sq <| q22 O96 ?_
 refine q0 ?_
 refine sqa (m_lookup2 (kv := kI) (ev := (eL eI)) (mp := a1) (k := a0) (zero := []) (lq rfl) M96 K3 rfl rfl rfl (fun _ _ => .nil _ _ _)) ?_
 refine q27 ?_
 refine q13 ?_
 refine q13 ?_
 refine q1 ?_
 refine q1 ?_
 refine sq_nil <| avc_sq2 <| avc_sq <| q0 ?_
 refine sq_nil ?_
 refine avc_if rfl ⟨fun c1 => ?_, fun c1 => ?_⟩
 ·
  replace h := cT c1 h
  refine avc_sq2 <| avc_sq <| q0 ?_
  refine q1 ?_
  refine sq_nil ?_
  cases h
  refine avc_ret ?_
  exact ⟨⟨_, _, rfl, rfl, rfl⟩, ⟨rfl, rfl, rfl, trivial⟩⟩
 ·
  replace h := cF c1 h
  refine avc_skip <| avc_sq2 <| avc_sq <| q12 G28 ?_
  refine q0 ?_
  refine q44 O4 ?_
  obtain ⟨t26, ht26, h'⟩ := bE h; clear h
  refine sqa (a_call (lq rfl) rfl (decompose_once_c ht26)) ?_
  refine q27 ?_
  refine q13 ?_
  refine q13 ?_
  refine q1 ?_
  refine q1 ?_
  refine sq_nil <| avc_sq2 <| avc_sq2 <| avc_sq <| q0 ?_
  refine q16 ?_
  refine sq_nil ?_
  refine avc_if rfl ⟨fun c2 => ?_, fun c2 => ?_⟩
  ·
   replace h' := cT c2 h'
   refine avc_sq2 <| avc_sq <| q0 ?_
   refine q21 S33 ?_
   refine q1 ?_
   refine sq_nil ?_
   cases h'
   refine avc_ret ?_
   exact ⟨⟨_, _, rfl, rfl, rfl⟩, ⟨rfl, rfl, rfl, trivial⟩⟩
  ·
   replace h' := cF c2 h'
   refine avc_skip <| avc_sq2 <| avc_sq <| q1 ?_
   refine sq_nil ?_
   refine avc_weak (weak_nil (t := 11) 1011 3 eI.size (lq rfl) (lq rfl) rfl rfl) ?_
   refine avc_sq2 <| avc_sq2 <| avc_sq <| q0 ?_
   refine sqa (m_len (en := eI) (l := t26.1) (lq rfl) S33 rfl) ?_
   refine q0 ?_
   refine sq_nil <| avc_block ?_
   obtain ⟨y1, hy1, h⟩ := bE h'; clear h'
   refine avc_tail (e := (.exit 0)) (S2 := ⟨[(0, .d (di a0)), (1, .ptr 3001 0), (4, .ptr 3004 0), (11, .row 1011)], [(1011, .row 3 eI.size false (eI.all y1.1)), (3001, .box 96 [.row 3120]), (3004, .box 74 [.clo 59 [.ptr 3001 0, .d (.pt (eNorm.cells a2)), .d (.pt [(db a3)]), .ptr 3004 0]]), (3120, .map (mapE kI (eL eI) y1.2))]⟩) ?_ ?_
   ·
    refine avc_loopM (fun x => ⟨[(0, .d (di a0)), (1, .ptr 3001 0), (4, .ptr 3004 0), (11, .row 1011), (33, .d (dsl eI t26.1)), (34, .d (di (t26.1.length : Int))), (35, .d (di x.1))], [(1011, .row 3 eI.size false (eI.all x.2.1)), (3001, .box 96 [.row 3120]), (3004, .box 74 [.clo 59 [.ptr 3001 0, .d (.pt (eNorm.cells a2)), .d (.pt [(db a3)]), .ptr 3004 0]]), (3120, .map (mapE kI (eL eI) x.2.2))]⟩) hy1 (wc) ?_
    rintro ⟨v35, r1011, r3120⟩ sy1 hsy1
    replace hsy1 : decompose_expander_1_L0 t26 rec a2 a3 v35 r1011 r3120 = some sy1 := hsy1
    unfold decompose_expander_1_L0 at hsy1
    refine avc_sq2 <| avc_sq <| q3 ?_
    refine sq_nil <| avc_sq2 ?_
    refine avc_if rfl ⟨fun c3 => ?_, fun c3 => ?_⟩
    ·
     replace hsy1 := cT c3 hsy1
     refine avc_skip <| avc_sq2 <| avc_block <| avc_sq2 <| avc_sq ?_
     obtain ⟨t37, ht37, hsy1'⟩ := bE hsy1; clear hsy1
     refine sqa (m_index (en := eI) (lq rfl) S33 rfl rfl ht37) ?_
     refine sqa (m_loadE (en := eI) (l := t26.1) (i := v35) (v := t37) (off := 0) (lq rfl) O3 rfl ht37 rfl) ?_
     refine q1 ?_
     refine sq_nil <| avc_sq <| q7 ?_
     refine q22 O74 ?_
     refine q0 ?_
     obtain ⟨t42, ht42, hsy1⟩ := bE hsy1'; clear hsy1'
     refine sq_b rfl (g_callCN [(3001, 3001), (3004, 3004), (3120, 3120)] (ih ht42) (lq rfl) (by decide) rfl ⟨rfl, rfl, rfl, rfl, rfl, trivial⟩ rfl rfl ⟨rfl, rfl, rfl, trivial⟩ rfl rfl rfl rfl) ?_
     obtain ⟨r1011_2, hr1011_2, hsy1'⟩ := bE hsy1; clear hsy1
     refine sq_b rfl (m_append (en := eI) (l := r1011) (m := t42.1) (lq rfl) S33 rfl rfl rfl hr1011_2 (by decide) (by decide) rfl rfl) ?_
     refine q9 ?_
     refine sq_nil <| avc_sq <| q2 ?_
     refine q0 ?_
     refine sq_nil ?_
     cases hsy1'
     exact wc
    ·
     replace hsy1 := cF c3 hsy1
     refine avc_exit ?_
     cases hsy1
     intro q; cases q
     exact out_mk (wc)
   ·
    refine avc_sq2 <| avc_sq <| q22 O96 ?_
    refine q0 ?_
    refine q7 ?_
    refine sq_weak (weak_row_d (t := 47) (lq rfl) rfl rfl) ?_ (by simp)
    refine sq_b rfl (m_mapUpdate (kv := kI) (ev := (eL eI)) (mp := y1.2) (k := a0) (v := y1.1) M96 K3 rfl rfl rfl rfl rfl rfl) ?_
    refine sq_nil <| avc_sq2 <| avc_sq <| q7 ?_
    refine q9 ?_
    refine sq_nil ?_
    refine avc_weak (weak_row_d (t := 6) (lq rfl) rfl rfl) ?_
    cases h
    refine avc_ret ?_
    exact ⟨⟨_, _, rfl, rfl, rfl⟩, ⟨rfl, rfl, rfl, trivial⟩⟩
theorem decompose_expander_a {a0 : Norm} {a1 : Bool} {r : Unit} (h : decompose_expander a0 a1 = some r) : GCA Tryz.prog 36 [.d (eNorm.dv a0), .d (db a1)] [] [] (.clo 59 [.ptr 5 0, .d (.pt (eNorm.cells a0)), .d (.pt [(db a1)]), .ptr 6 0]) [(5, .box 96 [.row 7]), (6, .box 74 [.clo 59 [.ptr 5 0, .d (.pt (eNorm.cells a0)), .d (.pt [(db a1)]), .ptr 6 0]]), (7, .map (mapE kI (eL eI) []))] := by
 refine gca_of Tryz.func36 (by kernel_rfl) rfl (lq rfl) (lq rfl) rfl fun w0 I0 hG0 p0 => ?_
 unfold decompose_expander at h
 refine avc_sq2 <| avc_sq ?_
 refine sqa (m_box (size := 3) (lq rfl) rfl rfl) ?_
 refine sqa (m_box (size := 1) (lq rfl) rfl rfl) ?_
 refine q1 ?_
 refine sq_nil <| avc_sq2 <| avc_sq <| q47 ?_
 refine sq_b rfl (step_alloc (zs := [(.map none)]) (lq rfl) (by kernel_rfl) rfl rfl) ?_
 refine q52 O96 ?_
 refine sq_nil <| avc_sq2 <| avc_sq ?_
 refine sq_b rfl (step_alloc (zs := [.nilFunc]) (lq rfl) (by kernel_rfl) rfl rfl) ?_
 refine sq_nil <| avc_sq2 <| avc_sq ?_
 refine sqa (a_makeClo (cs := [.ptr 5 0, .d (.pt (eNorm.cells a0)), .d (.pt [(db a1)]), .ptr 6 0]) (lq rfl) ⟨_, _, rfl, rfl, ⟨_, _, rfl, rfl, ⟨_, _, rfl, rfl, ⟨_, _, rfl, rfl, rfl⟩⟩⟩⟩) ?_
 refine sq_b rfl (s_store_box_av O74 rfl rfl (lq rfl) rfl rfl rfl rfl) ?_
 refine sq_nil <| avc_sq2 <| avc_sq <| q22 O74 ?_
 refine sqa (a_assign_to (lq rfl) rfl) ?_
 refine sq_nil ?_
 cases h
 refine avc_ret ?_
 exact ⟨rfl, ⟨rfl, rfl, rfl, trivial⟩⟩
theorem ordering_Sort_1_c  {a0 : Int} {a1 : Int} {a2 : (List Span)}  {r : Int} (h : ordering_Sort_1 a0 a1 a2 = some r) : Contract Tryz.prog 96 [(di a0), (di a1), (.pt [(dsl eSpan a2)])] [(di r)] := by
 refine contract_of Tryz.func96 (by kernel_rfl) rfl (lq rfl) (lq rfl) fun w0 I0 hI0 hG0 => ?_
 unfold ordering_Sort_1 at h
 refine avc_sq2 <| avc_sq <| q1 ?_
 refine sq_nil <| avc_sq2 ?_
 refine avc_drawA MX rfl ?_
 refine q54 O22 ?_
 refine q4 ?_
 obtain ⟨t8, ht8, h'⟩ := bE h; clear h
 refine daa (a_call (lq rfl) rfl (ordering_class_c ht8)) ?_
 refine q54 O22 ?_
 refine q4 ?_
 obtain ⟨t11, ht11, h⟩ := bE h'; clear h'
 refine daa (a_call (lq rfl) rfl (ordering_class_c ht11)) ?_
 obtain ⟨t12, ht12, h'⟩ := bE h; clear h
 refine daa (a_call (lq rfl) rfl (cmp_Compare_int_c ht12)) ?_
 refine q18 ?_
 refine da_nil ?_
 cases h'
 refine avc_ret ?_
 exact ret_1 rfl
set_option maxHeartbeats 8000000 in
theorem slices_insertionSortCmpFunc_int_g {fv3 : DV} {a0 : (List Int)} {a1 : Int} {a2 : Int} {a3 : Int → Int → Option (Int)} (hf3 : ∀ x0 x1 y, a3 x0 x1 = some y → FnC Tryz.prog fv3 [(di x0), (di x1)] [(di y)]) {r : (List Int)} (h : slices_insertionSortCmpFunc_int a0 a1 a2 a3 = some r) : GC Tryz.prog 127 [.row 3000, .d (di a1), .d (di a2), .d fv3] [(3000, .win 3 eI.size 0 (eI.all a0))] [3000] [] [(3000, .win 3 eI.size 0 (eI.all r))] := by
 refine gc_of Tryz.func127 (by kernel_rfl) rfl (lq rfl) (lq rfl) fun w0 I0 hG0 p0 => ?_
 unfold slices_insertionSortCmpFunc_int at h
 refine avc_sq2 <| avc_sq <| q0 ?_
 refine q2 ?_
 refine q1 ?_
 refine sq_nil <| avc_block ?_
 obtain ⟨y1, hy1, h'⟩ := bE h; clear h
 refine avc_tail (e := (.exit 0)) (S2 := ⟨[(0, .row 3000)], [(3000, .win 3 eI.size 0 (eI.all y1))]⟩) ?_ ?_
 ·
  refine avc_loopM (fun x => ⟨[(0, .row 3000), (1, .d (di a1)), (2, .d (di a2)), (3, .d fv3), (8, .d (di x.1))], [(3000, .win 3 eI.size 0 (eI.all x.2))]⟩) hy1 (wc) ?_
  rintro ⟨v8, r3000⟩ sy1 hsy1
  replace hsy1 : slices_insertionSortCmpFunc_int_L0 a2 a1 a3 v8 r3000 = some sy1 := hsy1
  unfold slices_insertionSortCmpFunc_int_L0 at hsy1
  refine avc_sq2 <| avc_sq2 <| avc_sq <| q0 ?_
  refine q0 ?_
  refine q3 ?_
  refine sq_nil ?_
  refine avc_if rfl ⟨fun c1 => ?_, fun c1 => ?_⟩
  ·
   replace hsy1 := cT c1 hsy1
   refine avc_skip <| avc_sq2 <| avc_block <| avc_sq2 <| avc_sq <| q0 ?_
   refine q1 ?_
   refine sq_nil <| avc_block ?_
   obtain ⟨y2, hy2, hsy1'⟩ := bE hsy1; clear hsy1
   refine avc_tail (e := (.exit 2)) (S2 := ⟨[(0, .row 3000), (1, .d (di a1)), (2, .d (di a2)), (3, .d fv3), (8, .d (di v8))], [(3000, .win 3 eI.size 0 (eI.all y2))]⟩) ?_ ?_
   ·
    refine avc_loopM (fun x => ⟨[(0, .row 3000), (1, .d (di a1)), (2, .d (di a2)), (3, .d fv3), (8, .d (di v8)), (9, .d (di x.1))], [(3000, .win 3 eI.size 0 (eI.all x.2))]⟩) hy2 (wc) ?_
    rintro ⟨v9, r3000⟩ sy2 hsy2
    replace hsy2 : slices_insertionSortCmpFunc_int_L1 a1 a3 v9 r3000 = some sy2 := hsy2
    unfold slices_insertionSortCmpFunc_int_L1 at hsy2
    refine avc_sq2 <| avc_sq2 ?_
    refine avc_drawA MX rfl ?_
    refine q4 ?_
    refine q4 ?_
    refine q42 ?_
    obtain ⟨b21, hb21, hsy2'⟩ := bE hsy2; clear hsy2
    refine daa ((a_move_d (lq rfl) rfl).bool (Option.some.inj hb21)) ?_
    refine dat (.d fv3) rfl (fun hb => by subst hb; exact a_move_d (lq rfl) rfl) ?_
    refine dat (.row 3000) rfl (fun hb => by subst hb; exact a_move_row (lq rfl) rfl) ?_
    refine dat (.d (di v9)) rfl (fun hb => by subst hb; exact a_move_d (lq rfl) rfl) ?_
    obtain ⟨t25, ht25, hsy2⟩ := bE hsy2'; clear hsy2'
    refine dat (.wp 3000 (v9.toNat * eI.size)) rfl (fun hb => by subst hb; exact m_indexW (en := eI) (l := r3000) (lq rfl) S33 rfl rfl rfl ht25) ?_
    refine dat (.d (di t25)) rfl (fun hb => by subst hb; exact m_loadW (en := eI) (l := r3000) (i := v9) (v := t25) (lq rfl) O3 rfl rfl ht25 rfl) ?_
    refine dat (.row 3000) rfl (fun hb => by subst hb; exact a_move_row (lq rfl) rfl) ?_
    refine dat (.d (di v9)) rfl (fun hb => by subst hb; exact a_move_d (lq rfl) rfl) ?_
    refine dat (.d (di (wi (v9 - 1)))) rfl (fun hb => by subst hb; exact m_sub (lq rfl) rfl rfl) ?_
    obtain ⟨t30, ht30, hsy2'⟩ := bE hsy2; clear hsy2
    refine dat (.wp 3000 ((wi (v9 - 1)).toNat * eI.size)) rfl (fun hb => by subst hb; exact m_indexW (en := eI) (l := r3000) (lq rfl) S33 rfl rfl rfl ht30) ?_
    refine dat (.d (di t30)) rfl (fun hb => by subst hb; exact m_loadW (en := eI) (l := r3000) (i := (wi (v9 - 1))) (v := t30) (lq rfl) O3 rfl rfl ht30 rfl) ?_
    obtain ⟨t32, ht32, hsy2⟩ := bE hsy2'; clear hsy2'
    refine dat (.d (di t32)) rfl (fun hb => by subst hb; exact a_callF (lq rfl) rfl rfl (hf3 _ _ _ ht32)) ?_
    refine dat (.d (db (decide (t32 < 0)))) rfl (fun hb => by subst hb; exact a_lss (lq rfl) rfl rfl) ?_
    refine q30 ?_
    refine da_nil ?_
    refine avc_if rfl ⟨fun c2 => ?_, fun c2 => ?_⟩
    ·
     replace hsy2 := cT c2 hsy2
     refine avc_skip <| avc_sq2 <| avc_block ?_
     obtain ⟨t45, ht45, hsy2'⟩ := bE hsy2; clear hsy2
     obtain ⟨t49, ht49, hsy2⟩ := bE hsy2'; clear hsy2'
     obtain ⟨t51, ht51, hsy2'⟩ := bE hsy2; clear hsy2
     obtain ⟨r3000_6x15, hr3000_6x15, hsy2⟩ := bE hsy2'; clear hsy2'
     obtain ⟨t52, ht52, hsy2'⟩ := bE hsy2; clear hsy2
     obtain ⟨r3000_6x17, hr3000_6x17, hsy2⟩ := bE hsy2'; clear hsy2'
     refine avc_tail (e := .normal) (S2 := ⟨[(0, .row 3000), (1, .d (di a1)), (2, .d (di a2)), (3, .d fv3), (8, .d (di v8)), (9, .d (di v9))], [(3000, .win 3 eI.size 0 (eI.all r3000_6x17))]⟩) ?_ ?_
     ·
      refine avc_any MX ?_
      refine any_move (i := 0) rfl (lq rfl) rfl rfl rfl rfl ?_
      refine any_move (i := 1) rfl (lq rfl) rfl rfl rfl rfl ?_
      refine any_move (i := 2) rfl (lq rfl) rfl rfl rfl rfl ?_
      refine any_move (i := 3) rfl (lq rfl) rfl rfl rfl rfl ?_
      refine any_sub (i := 4) rfl (lq rfl) rfl rfl rfl rfl rfl rfl ?_
      refine any_move (i := 5) rfl (lq rfl) rfl rfl rfl rfl ?_
      refine any_move (i := 6) rfl (lq rfl) rfl rfl rfl rfl ?_
      refine any_sub (i := 7) rfl (lq rfl) rfl rfl rfl rfl rfl rfl ?_
      refine any_move (i := 10) rfl (lq rfl) rfl rfl rfl rfl ?_
      refine any_move (i := 11) rfl (lq rfl) rfl rfl rfl rfl ?_
      refine xn [8,12] ?_
      refine xa rfl (m_indexW (en := eI) (l := r3000) (lq rfl) S33 rfl rfl rfl ht45) ?_ ?_
      ·
       refine xn [9,12] ?_
       refine xa rfl (m_loadW (en := eI) (l := r3000) (i := (wi (v9 - 1))) (v := t45) (lq rfl) O3 rfl rfl ht45 rfl) ?_ ?_
       ·
        refine xn [12] ?_
        refine xc rfl (m_indexW (en := eI) (l := r3000) (lq rfl) S33 rfl rfl rfl ht49) ?_
        refine xn [13] ?_
        refine xc rfl (m_loadW (en := eI) (l := r3000) (i := v9) (v := t49) (lq rfl) O3 rfl rfl ht49 rfl) ?_
        refine xn [14] ?_
        refine xc rfl (m_indexW (en := eI) (l := r3000) (lq rfl) S33 rfl rfl rfl ht51) ?_
        refine xn [15] ?_
        refine xd rfl (m_storeW (en := eI) (l := r3000) (i := v9) (v := t45) O3 rfl rfl rfl ht51 hr3000_6x15 rfl rfl rfl rfl) ?_
        refine xn [16] ?_
        refine xc rfl (m_indexW (en := eI) (l := r3000_6x15) (lq rfl) S33 rfl rfl rfl ht52) ?_
        refine xn [17] ?_
        refine xd rfl (m_storeW (en := eI) (l := r3000_6x15) (i := (wi (v9 - 1))) (v := t49) O3 rfl rfl rfl ht52 hr3000_6x17 rfl rfl rfl rfl) ?_
        exact any_end rfl (out_mk (wc))
       refine xc rfl (m_indexW (en := eI) (l := r3000) (lq rfl) S33 rfl rfl rfl ht49) ?_
       refine xn [9,13] ?_
       refine xa rfl (m_loadW (en := eI) (l := r3000) (i := (wi (v9 - 1))) (v := t45) (lq rfl) O3 rfl rfl ht45 rfl) ?_ ?_
       ·
        refine xn [13] ?_
        refine xc rfl (m_loadW (en := eI) (l := r3000) (i := v9) (v := t49) (lq rfl) O3 rfl rfl ht49 rfl) ?_
        refine xn [14] ?_
        refine xc rfl (m_indexW (en := eI) (l := r3000) (lq rfl) S33 rfl rfl rfl ht51) ?_
        refine xn [15] ?_
        refine xd rfl (m_storeW (en := eI) (l := r3000) (i := v9) (v := t45) O3 rfl rfl rfl ht51 hr3000_6x15 rfl rfl rfl rfl) ?_
        refine xn [16] ?_
        refine xc rfl (m_indexW (en := eI) (l := r3000_6x15) (lq rfl) S33 rfl rfl rfl ht52) ?_
        refine xn [17] ?_
        refine xd rfl (m_storeW (en := eI) (l := r3000_6x15) (i := (wi (v9 - 1))) (v := t49) O3 rfl rfl rfl ht52 hr3000_6x17 rfl rfl rfl rfl) ?_
        exact any_end rfl (out_mk (wc))
       refine xc rfl (m_loadW (en := eI) (l := r3000) (i := v9) (v := t49) (lq rfl) O3 rfl rfl ht49 rfl) ?_
       refine xn [9] ?_
       refine xc rfl (m_loadW (en := eI) (l := r3000) (i := (wi (v9 - 1))) (v := t45) (lq rfl) O3 rfl rfl ht45 rfl) ?_
       refine xn [14] ?_
       refine xc rfl (m_indexW (en := eI) (l := r3000) (lq rfl) S33 rfl rfl rfl ht51) ?_
       refine xn [15] ?_
       refine xd rfl (m_storeW (en := eI) (l := r3000) (i := v9) (v := t45) O3 rfl rfl rfl ht51 hr3000_6x15 rfl rfl rfl rfl) ?_
       refine xn [16] ?_
       refine xc rfl (m_indexW (en := eI) (l := r3000_6x15) (lq rfl) S33 rfl rfl rfl ht52) ?_
       refine xn [17] ?_
       refine xd rfl (m_storeW (en := eI) (l := r3000_6x15) (i := (wi (v9 - 1))) (v := t49) O3 rfl rfl rfl ht52 hr3000_6x17 rfl rfl rfl rfl) ?_
       exact any_end rfl (out_mk (wc))
      refine xc rfl (m_indexW (en := eI) (l := r3000) (lq rfl) S33 rfl rfl rfl ht49) ?_
      refine xn [8,13] ?_
      refine xa rfl (m_indexW (en := eI) (l := r3000) (lq rfl) S33 rfl rfl rfl ht45) ?_ ?_
      ·
       refine xn [9,13] ?_
       refine xa rfl (m_loadW (en := eI) (l := r3000) (i := (wi (v9 - 1))) (v := t45) (lq rfl) O3 rfl rfl ht45 rfl) ?_ ?_
       ·
        refine xn [13] ?_
        refine xc rfl (m_loadW (en := eI) (l := r3000) (i := v9) (v := t49) (lq rfl) O3 rfl rfl ht49 rfl) ?_
        refine xn [14] ?_
        refine xc rfl (m_indexW (en := eI) (l := r3000) (lq rfl) S33 rfl rfl rfl ht51) ?_
        refine xn [15] ?_
        refine xd rfl (m_storeW (en := eI) (l := r3000) (i := v9) (v := t45) O3 rfl rfl rfl ht51 hr3000_6x15 rfl rfl rfl rfl) ?_
        refine xn [16] ?_
        refine xc rfl (m_indexW (en := eI) (l := r3000_6x15) (lq rfl) S33 rfl rfl rfl ht52) ?_
        refine xn [17] ?_
        refine xd rfl (m_storeW (en := eI) (l := r3000_6x15) (i := (wi (v9 - 1))) (v := t49) O3 rfl rfl rfl ht52 hr3000_6x17 rfl rfl rfl rfl) ?_
        exact any_end rfl (out_mk (wc))
       refine xc rfl (m_loadW (en := eI) (l := r3000) (i := v9) (v := t49) (lq rfl) O3 rfl rfl ht49 rfl) ?_
       refine xn [9] ?_
       refine xc rfl (m_loadW (en := eI) (l := r3000) (i := (wi (v9 - 1))) (v := t45) (lq rfl) O3 rfl rfl ht45 rfl) ?_
       refine xn [14] ?_
       refine xc rfl (m_indexW (en := eI) (l := r3000) (lq rfl) S33 rfl rfl rfl ht51) ?_
       refine xn [15] ?_
       refine xd rfl (m_storeW (en := eI) (l := r3000) (i := v9) (v := t45) O3 rfl rfl rfl ht51 hr3000_6x15 rfl rfl rfl rfl) ?_
       refine xn [16] ?_
       refine xc rfl (m_indexW (en := eI) (l := r3000_6x15) (lq rfl) S33 rfl rfl rfl ht52) ?_
       refine xn [17] ?_
       refine xd rfl (m_storeW (en := eI) (l := r3000_6x15) (i := (wi (v9 - 1))) (v := t49) O3 rfl rfl rfl ht52 hr3000_6x17 rfl rfl rfl rfl) ?_
       exact any_end rfl (out_mk (wc))
      refine xc rfl (m_loadW (en := eI) (l := r3000) (i := v9) (v := t49) (lq rfl) O3 rfl rfl ht49 rfl) ?_
      refine xn [8] ?_
      refine xc rfl (m_indexW (en := eI) (l := r3000) (lq rfl) S33 rfl rfl rfl ht45) ?_
      refine xn [9] ?_
      refine xc rfl (m_loadW (en := eI) (l := r3000) (i := (wi (v9 - 1))) (v := t45) (lq rfl) O3 rfl rfl ht45 rfl) ?_
      refine xn [14] ?_
      refine xc rfl (m_indexW (en := eI) (l := r3000) (lq rfl) S33 rfl rfl rfl ht51) ?_
      refine xn [15] ?_
      refine xd rfl (m_storeW (en := eI) (l := r3000) (i := v9) (v := t45) O3 rfl rfl rfl ht51 hr3000_6x15 rfl rfl rfl rfl) ?_
      refine xn [16] ?_
      refine xc rfl (m_indexW (en := eI) (l := r3000_6x15) (lq rfl) S33 rfl rfl rfl ht52) ?_
      refine xn [17] ?_
      refine xd rfl (m_storeW (en := eI) (l := r3000_6x15) (i := (wi (v9 - 1))) (v := t49) O3 rfl rfl rfl ht52 hr3000_6x17 rfl rfl rfl rfl) ?_
      exact any_end rfl (out_mk (wc))
     refine avc_sq <| q0 ?_
     refine q17 ?_
     refine q1 ?_
     refine sq_nil ?_
     cases hsy2
     exact wc
    ·
     replace hsy2 := cF c2 hsy2
     refine avc_exit ?_
     cases hsy2
     intro q; cases q
     exact out_mk (wc)
   ·
    refine avc_sq <| q0 ?_
    refine q2 ?_
    refine q1 ?_
    refine sq_nil ?_
    cases hsy1'
    exact wc
  ·
   replace hsy1 := cF c1 hsy1
   refine avc_exit ?_
   cases hsy1
   intro q; cases q
   exact out_mk (wc)
 ·
  cases h'
  exact ⟨rfl, ⟨rfl, trivial⟩⟩
end Go.Proofs.YtgeaoceiacdadaaGreatDoor.Walk


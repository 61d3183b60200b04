/- Each function of the program answers as its plain counterpart does, where that answers. Conditions: none. -/
import Derived.Test.YtgeaoceiacdadaaDoorMir
import Derived.Test.YtgeaoceiacdadaaDoorProg
import Derived.Test.YtgeaoceiacdadaaDoorWk1
set_option linter.unusedSimpArgs false
set_option linter.unusedVariables false
set_option linter.unnecessarySimpa false
namespace Go.Proofs.YtgeaoceiacdadaaDoor.Walk
open Go.AV Go.M Go.RowKit Go.Proofs
theorem colltable_table_class_c  {a0 : Colltable_table} {a1 : Int}  {r : Int} (h : colltable_table_class a0 a1 = some r) : Contract Tryd.prog 56 [(.pt (eColltable_table.cells a0)), (di a1)] [(di r)] := by
 refine contract_of Tryd.func56 (by kernel_rfl) rfl (lq rfl) (lq rfl) fun w0 I0 hI0 hG0 => ?_
 unfold colltable_table_class at h
 refine avc_sq2 <| avc_sq ?_
 refine sqa (m_box (size := 1) (lq rfl) rfl rfl) ?_
 refine sqa (m_box (size := 1) (lq rfl) rfl rfl) ?_
 refine q1 ?_
 refine sq_nil <| avc_sq2 <| avc_sq <| q37 O64 ?_
 refine sqa (a_nil_pt (lq rfl) rfl) ?_
 refine q3 L87_3 ?_
 refine q4 O37 ?_
 refine sqa (m_len (en := eSpan) (l := a0.classes) (lq rfl) S37 rfl) ?_
 refine sqa (a_makeFunc (lq rfl) rfl) ?_
 obtain ⟨t12, ht12, h'⟩ := bE h; clear h
 refine sqa (a_call (lq rfl) rfl (sort_Search_c (fun _ _ q => .inl ⟨_, _, rfl, colltable_table_class_1_c q⟩) ht12)) ?_
 refine q1 ?_
 refine sq_nil <| avc_sq2 <| avc_sq2 ?_
 refine avc_drawA MX rfl ?_
 refine q6 ?_
 refine q47 O64 ?_
 refine q40 ?_
 refine q10 L87_3 ?_
 refine q14 O37 ?_
 refine daa (m_len (en := eSpan) (l := a0.classes) (lq rfl) S37 rfl) ?_
 refine q48 ?_
 obtain ⟨b20, hb20, h⟩ := bE h'; clear h'
 refine daa ((a_move_d (lq rfl) rfl).bool (Option.some.inj hb20)) ?_
 refine dat (.d (.pt (eColltable_table.cells a0))) rfl (fun hb => by subst hb; exact m_loadPt1 (lq rfl) O64 rfl) ?_
 refine dat (.d (.pt (eColltable_table.cells a0))) rfl (fun hb => by subst hb; exact a_nil_pt (lq rfl) rfl) ?_
 refine dat (.ip (eColltable_table.cells a0) (0 + 7)) rfl (fun hb => by subst hb; exact m_fieldPt (lq rfl) L87_3 rfl) ?_
 refine dat (.d (dsl eSpan a0.classes)) rfl (fun hb => by subst hb; exact a_load_ip (lq rfl) O37 rfl rfl) ?_
 refine dat (.d (di t12)) rfl (fun hb => by subst hb; exact a_move_d (lq rfl) rfl) ?_
 obtain ⟨t26, ht26, h'⟩ := bE h; clear h
 refine dat (.ip (eSpan.all a0.classes) (t12.toNat * eSpan.size)) rfl (fun hb => by subst hb; exact m_index (en := eSpan) (lq rfl) S37 rfl rfl ht26) ?_
 refine dat (.ip (eSpan.all a0.classes) (t12.toNat * eSpan.size + 0)) rfl (fun hb => by subst hb; exact a_fieldAddr_ip (lq rfl) L61_0 rfl) ?_
 refine dat (.d (di t26.Lo)) rfl (fun hb => by subst hb; exact m_loadE (en := eSpan) (l := a0.classes) (i := t12) (v := t26) (off := 0) (lq rfl) O3 rfl ht26 rfl) ?_
 refine dat (.d (di a1)) rfl (fun hb => by subst hb; exact m_loadPt1 (lq rfl) O3 rfl) ?_
 refine dat (.d (db (decide (t26.Lo ≤ a1)))) rfl (fun hb => by subst hb; exact a_leq (lq rfl) rfl rfl) ?_
 refine q33 ?_
 refine da_nil ?_
 refine avc_if rfl ⟨fun c1 => ?_, fun c1 => ?_⟩
 ·
  replace h' := cT c1 h'
  refine avc_sq2 <| avc_sq <| q37 O64 ?_
  refine sqa (a_nil_pt (lq rfl) rfl) ?_
  refine q3 L87_3 ?_
  refine q4 O37 ?_
  refine q0 ?_
  obtain ⟨t37, ht37, h⟩ := bE h'; clear h'
  refine sqa (m_index (en := eSpan) (lq rfl) S37 rfl rfl ht37) ?_
  refine q41 L61_2 ?_
  refine sqa (m_loadE (en := eSpan) (l := a0.classes) (i := t12) (v := t37) (off := 2) (lq rfl) O3 rfl ht37 rfl) ?_
  refine q1 ?_
  refine sq_nil ?_
  cases h
  refine avc_ret ?_
  exact ret_1 rfl
 ·
  replace h' := cF c1 h'
  refine avc_skip <| avc_sq2 <| avc_sq <| q1 ?_
  refine sq_nil ?_
  cases h'
  refine avc_ret ?_
  exact ret_1 rfl
theorem colltable_table_match_g  {a0 : Colltable_table} {a1 : (List Int)}  {r : Int × (List Element) × Bool × (List Int)} (h : colltable_table_match a0 a1 = some r) : GC Tryd.prog 40 [.d (.pt (eColltable_table.cells a0)), .row 3001] [(3001, .win 3 eI.size 0 (eI.all a1))] [3001] [.d (di r.1), .d (dsl eElement r.2.1), .d (db r.2.2.1)] [(3001, .win 3 eI.size r.1.toNat (eI.all r.2.2.2))] := by
 refine gc_of Tryd.func40 (by kernel_rfl) rfl (lq rfl) (lq rfl) fun w0 I0 hG0 p0 => ?_
 unfold colltable_table_match at h
 refine avc_sq2 <| avc_sq <| q1 ?_
 refine q1 ?_
 refine q1 ?_
 refine sq_nil <| avc_sq2 <| avc_sq <| q0 ?_
 refine sqa (a_nil_pt (lq rfl) rfl) ?_
 refine q3 L87_2 ?_
 refine q4 O3 ?_
 refine q7 ?_
 refine sqa (m_lenW (en := eI) (l := a1) (lq rfl) S30 rfl rfl) ?_
 refine sqa (a_min (lq rfl) rfl rfl) ?_
 refine q1 ?_
 refine sq_nil <| avc_sq2 <| avc_block ?_
 obtain ⟨y1, hy1, h'⟩ := bE h; clear h
 refine avc_tail (e := (.exit 0)) (S2 := ⟨[(0, .d (.pt (eColltable_table.cells a0))), (1, .row 3001), (7, .d (di y1))], [(3001, .win 3 eI.size 0 (eI.all a1))]⟩) ?_ ?_
 ·
  refine avc_loopM (fun x => ⟨[(0, .d (.pt (eColltable_table.cells a0))), (1, .row 3001), (7, .d (di x))], [(3001, .win 3 eI.size 0 (eI.all a1))]⟩) hy1 (wc) ?_
  rintro v7 sy1 hsy1
  replace hsy1 : colltable_table_match_L0 a1 a0 v7 = some sy1 := hsy1
  unfold colltable_table_match_L0 at hsy1
  refine avc_sq2 <| avc_sq2 <| avc_sq <| q0 ?_
  refine q21 ?_
  refine sq_nil ?_
  refine avc_if rfl ⟨fun c1 => ?_, fun c1 => ?_⟩
  ·
   replace hsy1 := cT c1 hsy1
   refine avc_skip <| avc_block <| avc_sq2 <| avc_sq2 <| avc_sq <| q0 ?_
   refine q7 ?_
   refine q0 ?_
   obtain ⟨t31, ht31, hsy1'⟩ := bE hsy1; clear hsy1
   refine sqa (m_sliceHW (en := eI) (l := a1) (lq rfl) S30 rfl rfl rfl ht31) ?_
   obtain ⟨t32, ht32, hsy1⟩ := bE hsy1'; clear hsy1'
   refine sq_b rfl (s_callT (lq rfl) ⟨_, _, rfl, .d _, ⟨_, _, rfl, .front rfl ht31, rfl⟩⟩ (colltable_table_find_c ht32)) ?_
   refine sqa (a_move_tupc (lq rfl) rfl) ?_
   refine q31 ?_
   refine q31 ?_
   refine sqa (a_assign_top (lq rfl)) ?_
   refine q1 ?_
   refine sq_nil <| avc_sq2 <| avc_sq <| q0 ?_
   refine sq_nil ?_
   refine avc_if rfl ⟨fun c2 => ?_, fun c2 => ?_⟩
   ·
    replace hsy1 := cT c2 hsy1
    refine avc_exit ?_
    cases hsy1
    intro q; cases q
    exact out_mk (wc)
   ·
    replace hsy1 := cF c2 hsy1
    refine avc_skip <| avc_sq <| q0 ?_
    refine q16 ?_
    refine q1 ?_
    refine sq_nil ?_
    cases hsy1
    exact wc
  ·
   replace hsy1 := cF c1 hsy1
   refine avc_exit ?_
   cases hsy1
   intro q; cases q
   exact out_mk (wc)
 ·
  refine avc_sq2 <| avc_sq2 <| avc_sq <| q0 ?_
  refine q23 ?_
  refine sq_nil ?_
  refine avc_if rfl ⟨fun c3 => ?_, fun c3 => ?_⟩
  ·
   replace h' := cT c3 h'
   refine avc_sq2 <| avc_sq <| q0 ?_
   refine q7 ?_
   obtain ⟨t42, ht42, h⟩ := bE h'; clear h'
   refine sqa (m_indexW (en := eI) (l := a1) (lq rfl) S30 rfl rfl rfl ht42) ?_
   refine sqa (m_loadW (en := eI) (l := a1) (i := (0 : Int)) (v := t42) (lq rfl) O3 rfl rfl ht42 rfl) ?_
   obtain ⟨t44, ht44, h'⟩ := bE h; clear h
   refine sqa (a_call (lq rfl) rfl (colltable_table_implicit_c ht44)) ?_
   refine q1 ?_
   refine q1 ?_
   refine q1 ?_
   refine sq_nil ?_
   refine avc_weak (weak_win_k (id := 3001) ((1 : Int).toNat) rfl (Nat.zero_le _)) ?_
   cases h'
   refine avc_ret ?_
   exact ⟨⟨_, _, rfl, rfl, ⟨_, _, rfl, rfl, ⟨_, _, rfl, rfl, rfl⟩⟩⟩, ⟨rfl, trivial⟩⟩
  ·
   replace h' := cF c3 h'
   refine avc_skip <| avc_sq2 <| avc_sq <| q1 ?_
   refine sq_nil <| avc_sq2 <| avc_sq2 <| avc_sq <| q0 ?_
   refine q1 ?_
   refine sq_nil <| avc_block ?_
   obtain ⟨y2, hy2, h⟩ := bE h'; clear h'
   refine avc_tail (e := (.exit 2)) (S2 := ⟨[(0, .d (.pt (eColltable_table.cells a0))), (1, .row 3001), (7, .d (di y2.1))], [(3001, .win 3 eI.size 0 (eI.all y2.2))]⟩) ?_ ?_
   ·
    refine avc_loopM (fun x => ⟨[(0, .d (.pt (eColltable_table.cells a0))), (1, .row 3001), (7, .d (di x.1)), (10, .d (di x.2.1)), (11, .d (di x.2.2.1))], [(3001, .win 3 eI.size 0 (eI.all x.2.2.2))]⟩) hy2 (wc) ?_
    rintro ⟨v7, v10, v11, r3001⟩ sy2 hsy2
    replace hsy2 : colltable_table_match_L1 a0 v7 v10 v11 r3001 = some sy2 := hsy2
    unfold colltable_table_match_L1 at hsy2
    refine avc_sq2 <| avc_sq2 <| avc_sq <| q0 ?_
    refine q7 ?_
    refine sqa (m_lenW (en := eI) (l := r3001) (lq rfl) S30 rfl rfl) ?_
    refine q5 ?_
    obtain ⟨b50, hb50, hsy2'⟩ := bE hsy2; clear hsy2
    refine sqa ((a_move_d (lq rfl) rfl).bool (Option.some.inj hb50)) ?_
    refine sqt (.d (di v10)) rfl (fun hb => by subst hb; exact a_move_d (lq rfl) rfl) ?_
    refine sqt (.d (.pt (eColltable_table.cells a0))) rfl (fun hb => by subst hb; exact a_move_d (lq rfl) rfl) ?_
    refine sqt (.d (.pt (eColltable_table.cells a0))) rfl (fun hb => by subst hb; exact a_nil_pt (lq rfl) rfl) ?_
    refine sqt (.ip (eColltable_table.cells a0) (0 + 8)) rfl (fun hb => by subst hb; exact m_fieldPt (lq rfl) L87_4 rfl) ?_
    refine sqt (.d (di a0.top)) rfl (fun hb => by subst hb; exact a_load_ip (lq rfl) O3 rfl rfl) ?_
    refine sqt (.d (db (decide (v10 < a0.top)))) rfl (fun hb => by subst hb; exact a_lss (lq rfl) rfl rfl) ?_
    refine q9 ?_
    refine sq_nil ?_
    refine avc_if rfl ⟨fun c4 => ?_, fun c4 => ?_⟩
    ·
     replace hsy2' := cT c4 hsy2'
     refine avc_skip <| avc_sq2 ?_
     obtain ⟨y3, hy3, hsy2⟩ := bE hsy2'; clear hsy2'
     refine avc_tail2 y3 (.exit 2) (fun y3 => ⟨[(0, .d (.pt (eColltable_table.cells a0))), (1, .row 3001), (7, .d (di v7))], [(3001, .win 3 eI.size 0 (eI.all r3001))]⟩) .normal (fun y3 => ⟨[(0, .d (.pt (eColltable_table.cells a0))), (1, .row 3001), (7, .d (di y3.1)), (10, .d (di y3.2.1)), (11, .d (di v11))], [(3001, .win 3 eI.size 0 (eI.all y3.2.2))]⟩) ?_ ?_ ?_
     ·
      refine avc_block <| avc_sq2 <| avc_sq <| q7 ?_
      refine q0 ?_
      obtain ⟨t62, ht62, hy3'⟩ := bE hy3; clear hy3
      refine sqa (m_indexW (en := eI) (l := r3001) (lq rfl) S30 rfl rfl rfl ht62) ?_
      refine sqa (m_loadW (en := eI) (l := r3001) (i := v11) (v := t62) (lq rfl) O3 rfl rfl ht62 rfl) ?_
      refine q1 ?_
      refine sq_nil <| avc_sq2 <| avc_sq <| q0 ?_
      refine q0 ?_
      obtain ⟨t66, ht66, hy3⟩ := bE hy3'; clear hy3'
      refine sqa (a_call (lq rfl) rfl (colltable_table_class_c ht66)) ?_
      refine q1 ?_
      refine sq_nil <| avc_sq2 <| avc_sq2 <| avc_sq <| q0 ?_
      refine q23 ?_
      refine sq_nil ?_
      refine avc_if rfl ⟨fun c5 => ?_, fun c5 => ?_⟩
      ·
       replace hy3 := cT c5 hy3
       refine avc_exit ?_
       cases hy3
       exact ⟨rfl, wc⟩
      ·
       replace hy3 := cF c5 hy3
       refine avc_skip <| avc_sq2 <| avc_sq2 <| avc_sq <| q0 ?_
       refine q0 ?_
       refine q28 ?_
       refine sq_nil ?_
       refine avc_if rfl ⟨fun c6 => ?_, fun c6 => ?_⟩
       ·
        replace hy3 := cT c6 hy3
        refine avc_exit ?_
        cases hy3
        exact ⟨rfl, wc⟩
       ·
        replace hy3 := cF c6 hy3
        refine avc_skip <| avc_sq2 <| avc_sq2 <| avc_sq <| q0 ?_
        refine q7 ?_
        refine q0 ?_
        refine q0 ?_
        obtain ⟨t77, ht77, hy3'⟩ := bE hy3; clear hy3
        refine sqa (m_slice3W (en := eI) (l := r3001) (lq rfl) S30 rfl rfl rfl rfl ht77) ?_
        refine q0 ?_
        refine q22 S30 ?_
        obtain ⟨r80_4, hr80_4, hy3⟩ := bE hy3'; clear hy3'
        refine sq_b rfl (m_appendW (en := eI) (l := r3001) (b := v7) (lq rfl) S30 rfl rfl ht77 rfl (by simp) hr80_4 (by decide) rfl) ?_
        obtain ⟨t81, ht81, hy3'⟩ := bE hy3; clear hy3
        refine sq_b rfl (s_call (lq rfl) rfl rfl (colltable_table_find_c ht81)) ?_
        refine q26 ?_
        refine q12 ?_
        refine q12 ?_
        refine q1 ?_
        refine q1 ?_
        refine sq_nil <| avc_sq2 <| avc_sq <| q0 ?_
        refine q18 ?_
        refine sq_nil ?_
        refine avc_if rfl ⟨fun c7 => ?_, fun c7 => ?_⟩
        ·
         replace hy3' := cT c7 hy3'
         refine avc_sq2 <| avc_sq <| q0 ?_
         refine q1 ?_
         refine sq_nil <| avc_exit ?_
         cases hy3'
         exact ⟨rfl, wc⟩
        ·
         replace hy3' := cF c7 hy3'
         refine avc_skip <| avc_sq2 ?_
         refine avc_draw 10 MX rfl ?_
         refine q29 ?_
         refine q6 ?_
         refine daa (m_add (lq rfl) rfl rfl) ?_
         refine q6 ?_
         refine daa (m_add (lq rfl) rfl rfl) ?_
         obtain ⟨t92, ht92, hy3⟩ := bE hy3'; clear hy3'
         refine daa (m_sliceW (en := eI) (l := r3001) (lq rfl) S30 rfl rfl rfl rfl ht92) ?_
         refine q29 ?_
         refine q6 ?_
         refine q6 ?_
         obtain ⟨t96, ht96, hy3'⟩ := bE hy3; clear hy3
         refine daa (m_sliceW (en := eI) (l := r3001) (lq rfl) S30 rfl rfl rfl rfl ht96) ?_
         refine da_nil ?_
         refine sq_b rfl (m_copyW (en := eI) (l := r3001) (a1 := (wi (v7 + 1))) (b1 := (wi (v11 + 1))) (a2 := v7) (b2 := v11) (lq rfl) S30 rfl rfl rfl ht92 ht96 rfl) ?_
         refine sq_nil <| avc_sq2 <| avc_sq <| q7 ?_
         refine q0 ?_
         refine q0 ?_
         obtain ⟨t101, ht101, hy3⟩ := bE hy3'; clear hy3'
         refine sqa (m_indexW (en := eI) (l := (cpM r3001 (wi (v7 + 1)) (wi (v11 + 1)) v7 v11)) (lq rfl) S30 rfl rfl rfl ht101) ?_
         obtain ⟨r3001_5, hr3001_5, hy3'⟩ := bE hy3; clear hy3
         refine sq_b rfl (m_storeW (en := eI) (l := (cpM r3001 (wi (v7 + 1)) (wi (v11 + 1)) v7 v11)) (i := v7) (v := t62) O3 rfl rfl rfl ht101 hr3001_5 rfl rfl rfl rfl) ?_
         refine sq_nil <| avc_sq <| q0 ?_
         refine q2 ?_
         refine q1 ?_
         refine sq_nil ?_
         cases hy3'
         exact ⟨rfl, wc⟩
     ·
      rintro y3 rfl
      replace hsy2 := eL hsy2
      cases hsy2
      intro q; cases q
      exact out_mk (wc)
     ·
      rintro y3 rfl
      replace hsy2 := eR hsy2
      refine avc_sq <| q0 ?_
      refine q2 ?_
      refine q1 ?_
      refine sq_nil ?_
      cases hsy2
      exact wc
    ·
     replace hsy2' := cF c4 hsy2'
     refine avc_exit ?_
     cases hsy2'
     intro q; cases q
     exact out_mk (wc)
   ·
    refine avc_sq2 <| avc_sq <| q0 ?_
    refine q7 ?_
    refine q0 ?_
    obtain ⟨t108, ht108, h'⟩ := bE h; clear h
    refine sqa (m_sliceHW (en := eI) (l := y2.2) (lq rfl) S30 rfl rfl rfl ht108) ?_
    refine sq_weak (weak_front (tm := 108) (en := eI) (l := y2.2) (b := y2.1) (lq rfl) rfl rfl ht108) ?_ (by simp)
    obtain ⟨t109, ht109, h⟩ := bE h'; clear h'
    refine sq_b rfl ((a_call (lq rfl) rfl (colltable_table_find_c ht109)).step) ?_
    refine q26 ?_
    refine q12 ?_
    refine q12 ?_
    refine q1 ?_
    refine q1 ?_
    refine sq_nil <| avc_sq2 <| avc_sq <| q0 ?_
    refine q0 ?_
    refine q1 ?_
    refine q1 ?_
    refine q1 ?_
    refine sq_nil ?_
    cases h
    refine avc_ret ?_
    exact ⟨⟨_, _, rfl, rfl, ⟨_, _, rfl, rfl, ⟨_, _, rfl, rfl, rfl⟩⟩⟩, ⟨rfl, trivial⟩⟩
theorem slices_Clone_api_Element_api_Element_g {a0 r : (List Element)} (h : slices_Clone_api_Element_api_Element a0 = some r) : GC Tryd.prog 32 [.d (dsl eElement a0)] [] [] [.row 5] [(5, .row 63 eElement.size false (eElement.all r))] := by
 unfold slices_Clone_api_Element_api_Element at h
 cases a0 with
 | nil =>
  refine gc_empty (by decide) fun B c => ?_
  refine gc_of Tryd.func32 (by kernel_rfl) rfl (lq rfl) (lq rfl) fun w0 I0 hG0 p0 => ?_
  refine avc_sq2 <| avc_sq <| q1 ?_
  refine sq_nil <| avc_sq2 <| avc_sq2 <| avc_sq <| q0 ?_
  refine sqa (a_eqnil_v (lq rfl) Tryd.underlying31 rfl) ?_
  refine sq_nil ?_
  refine avc_if rfl ⟨fun c1 => ?_, fun c1 => ?_⟩
  ·
   obtain ⟨rfl, _⟩ := app_some h
   refine avc_sq2 <| avc_sq <| q1 ?_
   refine sq_nil ?_
   refine avc_weak (weak_nil (t := 2) 5 63 eElement.size (lq rfl) (lq rfl) rfl rfl) ?_
   refine avc_ret ?_
   exact ⟨⟨_, _, rfl, rfl, rfl⟩, rfl, trivial⟩
  ·
   refine avc_skip ?_
   refine avc_sq2 <| avc_sq ?_
   refine sq_b rfl (step_buildSlice (lq rfl) S31 rfl rfl rfl rfl (by decide) rfl) ?_
   refine q0 ?_
   refine sq_weak (weak_empty_d (t := 6) eElement.size (lq rfl) rfl) ?_ (by simp)
   refine sq_b rfl (m_append (en := eElement) (l := []) (m := []) (lq rfl) S31 rfl rfl rfl h (by decide) (by decide) rfl rfl) ?_
   refine q13 ?_
   refine sq_nil <| avc_ret ?_
   exact ⟨⟨_, _, rfl, rfl, rfl⟩, rfl, trivial⟩
 | cons x l =>
  refine gc_of Tryd.func32 (by kernel_rfl) rfl (lq rfl) (lq rfl) fun w0 I0 hG0 p0 => ?_
  refine avc_sq2 <| avc_sq <| q1 ?_
  refine sq_nil <| avc_sq2 <| avc_sq2 <| avc_sq <| q0 ?_
  refine sqa (a_eqnil (lq rfl) Tryd.underlying31 rfl (all_ne (by decide))) ?_
  refine sq_nil ?_
  refine avc_if rfl ⟨fun c1 => (by cases c1), fun c1 => ?_⟩
  refine avc_skip <| avc_sq2 <| avc_sq ?_
  refine sq_b rfl (step_buildSlice (lq rfl) S31 rfl rfl rfl rfl (by decide) rfl) ?_
  refine q0 ?_
  refine sq_b rfl (m_append (en := eElement) (l := []) (m := x :: l) (lq rfl) S31 rfl rfl rfl h (by decide) (by decide) rfl rfl) ?_
  refine q13 ?_
  refine sq_nil <| avc_ret ?_
  exact ⟨⟨_, _, rfl, rfl, rfl⟩, rfl, trivial⟩
set_option maxHeartbeats 8000000 in
theorem colltable_Step_c  {a0 : Norm} {a1 : Collation} {a2 : (List Int)}  {r : Int × (List Int) × (List Element)} (h : colltable_Step a0 a1 a2 = some r) : Contract Tryd.prog 18 [(eNorm.dv a0), (eCollation.dv a1), (dsl eI a2)] [(di r.1), (dsl eI r.2.1), (dsl eElement r.2.2)] := by
 refine contract_of Tryd.func18 (by kernel_rfl) rfl (lq rfl) (lq rfl) fun w0 I0 hI0 hG0 => ?_
 unfold colltable_Step at h
 refine avc_sq2 <| avc_sq ?_
 refine sqa (m_box (size := 3) (lq rfl) rfl rfl) ?_
 refine sqa (m_box (size := 5) (lq rfl) rfl rfl) ?_
 refine q1 ?_
 refine q1 ?_
 refine q1 ?_
 refine sq_nil <| avc_sq2 <| avc_sq2 <| avc_sq <| q0 ?_
 refine sqa (m_len (en := eI) (l := a2) (lq rfl) S30 rfl) ?_
 refine q23 ?_
 refine sq_nil ?_
 refine avc_if rfl ⟨fun c1 => ?_, fun c1 => ?_⟩
 ·
  replace h := cT c1 h
  refine avc_sq2 <| avc_sq <| q1 ?_
  refine q1 ?_
  refine q1 ?_
  refine sq_nil ?_
  refine avc_weak (weak_nil_d (t := 7) eI.size (lq rfl) rfl) ?_
  refine avc_weak (weak_nil_d (t := 8) eElement.size (lq rfl) rfl) ?_
  cases h
  refine avc_ret ?_
  exact ret_three rfl rfl rfl
 ·
  replace h := cF c1 h
  refine avc_skip <| avc_sq2 <| avc_sq <| q0 ?_
  obtain ⟨t17, ht17, h'⟩ := bE h; clear h
  refine sq_b rfl (g_call [(5, 2517)] (slices_Clone_int_int_g ht17) (lq rfl) (by decide) ⟨rfl, trivial⟩ rfl rfl trivial rfl rfl rfl (fun _ => rfl) rfl) ?_
  refine q13 ?_
  refine sq_nil <| avc_sq2 ?_
  obtain ⟨t20, ht20, h⟩ := bE h'; clear h'
  obtain ⟨t22, ht22, h'⟩ := bE h; clear h
  obtain ⟨t24, ht24, h⟩ := bE h'; clear h'
  refine avc_tail (e := .normal) (S2 := ⟨[(9, .row 2517), (10, .d (di t24.1)), (11, .d (dsl eElement t24.2.1))], [(2517, .win 3 eI.size t24.1.toNat (eI.all t24.2.2.2))]⟩) ?_ ?_
  ·
   refine avc_any MX ?_
   refine any_move (i := 4) rfl (lq rfl) rfl rfl rfl rfl ?_
   refine xn [0,2] ?_
   refine xa rfl (m_loadPt (lq rfl) G25 rfl rfl) ?_ ?_
   ·
    refine xn [1,2] ?_
    refine xb rfl (g_call [(13, 2520), (11, 3020)] (colltable_made_g ht20) (lq rfl) (by decide) ⟨rfl, trivial⟩ rfl rfl trivial rfl rfl rfl (fun _ => rfl) rfl) ?_ ?_
    ·
     refine xn [2] ?_
     refine xc rfl (m_loadPt (lq rfl) G43 rfl rfl) ?_
     refine xn [3] ?_
     refine xd rfl (g_call [(3000, 2520), (3105, 3020)] (colltable_table_with_g ht22) (lq rfl) (by decide) ⟨rfl, rfl, trivial⟩ rfl rfl ⟨rfl, rfl, trivial⟩ rfl rfl rfl (fun _ => rfl) rfl) ?_
     refine any_w (weak_map_box (bid := 2520) (off := 5) rfl rfl rfl) ?_
     refine any_w (weak_freeze (t := 22) (lq rfl) rfl rfl rfl) ?_
     refine any_w (weak_row_win (id := 2517) rfl) ?_
     refine xn [5] ?_
     refine xd rfl (g_call [(3001, 2517)] (colltable_table_match_g ht24) (lq rfl) (by decide) ⟨rfl, rfl, trivial⟩ rfl rfl ⟨rfl, trivial⟩ rfl rfl rfl (fun _ => rfl) rfl) ?_
     refine any_move (i := 6) rfl (lq rfl) rfl rfl rfl rfl ?_
     refine any_extractC (i := 7) rfl (lq rfl) rfl rfl rfl rfl rfl rfl ?_
     refine any_extractC (i := 8) rfl (lq rfl) rfl rfl rfl rfl rfl rfl ?_
     refine any_extractC (i := 9) rfl (lq rfl) rfl rfl rfl rfl rfl rfl ?_
     refine xn [10] ?_
     refine xc rfl (a_assign_d (lq rfl) rfl) ?_
     refine xn [11] ?_
     refine xc rfl (a_assign_d (lq rfl) rfl) ?_
     refine xn [12] ?_
     refine xc rfl (a_assign_d (lq rfl) rfl) ?_
     exact any_end rfl (out_mk (wc))
    refine xc rfl (m_loadPt (lq rfl) G43 rfl rfl) ?_
    refine xn [1] ?_
    refine xd rfl (g_call [(13, 2520), (11, 3020)] (colltable_made_g ht20) (lq rfl) (by decide) ⟨rfl, trivial⟩ rfl rfl trivial rfl rfl rfl (fun _ => rfl) rfl) ?_
    refine xn [3] ?_
    refine xd rfl (g_call [(3000, 2520), (3105, 3020)] (colltable_table_with_g ht22) (lq rfl) (by decide) ⟨rfl, rfl, trivial⟩ rfl rfl ⟨rfl, rfl, trivial⟩ rfl rfl rfl (fun _ => rfl) rfl) ?_
    refine any_w (weak_map_box (bid := 2520) (off := 5) rfl rfl rfl) ?_
    refine any_w (weak_freeze (t := 22) (lq rfl) rfl rfl rfl) ?_
    refine any_w (weak_row_win (id := 2517) rfl) ?_
    refine xn [5] ?_
    refine xd rfl (g_call [(3001, 2517)] (colltable_table_match_g ht24) (lq rfl) (by decide) ⟨rfl, rfl, trivial⟩ rfl rfl ⟨rfl, trivial⟩ rfl rfl rfl (fun _ => rfl) rfl) ?_
    refine any_move (i := 6) rfl (lq rfl) rfl rfl rfl rfl ?_
    refine any_extractC (i := 7) rfl (lq rfl) rfl rfl rfl rfl rfl rfl ?_
    refine any_extractC (i := 8) rfl (lq rfl) rfl rfl rfl rfl rfl rfl ?_
    refine any_extractC (i := 9) rfl (lq rfl) rfl rfl rfl rfl rfl rfl ?_
    refine xn [10] ?_
    refine xc rfl (a_assign_d (lq rfl) rfl) ?_
    refine xn [11] ?_
    refine xc rfl (a_assign_d (lq rfl) rfl) ?_
    refine xn [12] ?_
    refine xc rfl (a_assign_d (lq rfl) rfl) ?_
    exact any_end rfl (out_mk (wc))
   refine xc rfl (m_loadPt (lq rfl) G43 rfl rfl) ?_
   refine xn [0] ?_
   refine xc rfl (m_loadPt (lq rfl) G25 rfl rfl) ?_
   refine xn [1] ?_
   refine xd rfl (g_call [(13, 2520), (11, 3020)] (colltable_made_g ht20) (lq rfl) (by decide) ⟨rfl, trivial⟩ rfl rfl trivial rfl rfl rfl (fun _ => rfl) rfl) ?_
   refine xn [3] ?_
   refine xd rfl (g_call [(3000, 2520), (3105, 3020)] (colltable_table_with_g ht22) (lq rfl) (by decide) ⟨rfl, rfl, trivial⟩ rfl rfl ⟨rfl, rfl, trivial⟩ rfl rfl rfl (fun _ => rfl) rfl) ?_
   refine any_w (weak_map_box (bid := 2520) (off := 5) rfl rfl rfl) ?_
   refine any_w (weak_freeze (t := 22) (lq rfl) rfl rfl rfl) ?_
   refine any_w (weak_row_win (id := 2517) rfl) ?_
   refine xn [5] ?_
   refine xd rfl (g_call [(3001, 2517)] (colltable_table_match_g ht24) (lq rfl) (by decide) ⟨rfl, rfl, trivial⟩ rfl rfl ⟨rfl, trivial⟩ rfl rfl rfl (fun _ => rfl) rfl) ?_
   refine any_move (i := 6) rfl (lq rfl) rfl rfl rfl rfl ?_
   refine any_extractC (i := 7) rfl (lq rfl) rfl rfl rfl rfl rfl rfl ?_
   refine any_extractC (i := 8) rfl (lq rfl) rfl rfl rfl rfl rfl rfl ?_
   refine any_extractC (i := 9) rfl (lq rfl) rfl rfl rfl rfl rfl rfl ?_
   refine xn [10] ?_
   refine xc rfl (a_assign_d (lq rfl) rfl) ?_
   refine xn [11] ?_
   refine xc rfl (a_assign_d (lq rfl) rfl) ?_
   refine xn [12] ?_
   refine xc rfl (a_assign_d (lq rfl) rfl) ?_
   exact any_end rfl (out_mk (wc))
  refine avc_weak (weak_win_d (t := 9) (lq rfl) rfl rfl) ?_
  refine avc_sq2 ?_
  obtain ⟨t35, ht35, h'⟩ := bE h; clear h
  obtain ⟨t37, ht37, h⟩ := bE h'; clear h'
  refine avc_tail (e := .normal) (S2 := ⟨[(6, .d (di t24.1)), (7, .d (dsl eI t35)), (8, .row 2537)], [(2537, .row 63 eElement.size false (eElement.all t37))]⟩) ?_ ?_
  ·
   refine avc_any MX ?_
   refine any_move (i := 0) rfl (lq rfl) rfl rfl rfl rfl ?_
   refine any_move (i := 1) rfl (lq rfl) rfl rfl rfl rfl ?_
   refine any_move (i := 2) rfl (lq rfl) rfl rfl rfl rfl ?_
   refine any_move (i := 3) rfl (lq rfl) rfl rfl rfl rfl ?_
   refine any_move (i := 5) rfl (lq rfl) rfl rfl rfl rfl ?_
   refine any_move (i := 8) rfl (lq rfl) rfl rfl rfl rfl ?_
   refine xn [4,6,9] ?_
   refine xa rfl (m_len (en := eI) (l := t24.2.2.2) (lq rfl) S30 rfl) ?_ ?_
   ·
    refine xn [6,9] ?_
    refine xa rfl (m_len (en := eI) (l := t24.2.2.2) (lq rfl) S30 rfl) ?_ ?_
    ·
     refine xn [7,9] ?_
     refine xa rfl (m_slice3 (en := eI) (lq rfl) S30 rfl rfl rfl rfl ht35) ?_ ?_
     ·
      refine xn [9] ?_
      refine xd rfl (g_call [(5, 2537)] (slices_Clone_api_Element_api_Element_g ht37) (lq rfl) (by decide) ⟨rfl, trivial⟩ rfl rfl trivial rfl rfl rfl (fun _ => rfl) rfl) ?_
      refine xn [10] ?_
      refine xc rfl (a_assign_d (lq rfl) rfl) ?_
      refine xn [11] ?_
      refine xc rfl (a_assign_d (lq rfl) rfl) ?_
      refine xn [12] ?_
      refine xc rfl (a_assign_row (lq rfl) rfl) ?_
      exact any_end rfl (out_mk (wc))
     refine xd rfl (g_call [(5, 2537)] (slices_Clone_api_Element_api_Element_g ht37) (lq rfl) (by decide) ⟨rfl, trivial⟩ rfl rfl trivial rfl rfl rfl (fun _ => rfl) rfl) ?_
     refine xn [7,10] ?_
     refine xa rfl (m_slice3 (en := eI) (lq rfl) S30 rfl rfl rfl rfl ht35) ?_ ?_
     ·
      refine xn [10] ?_
      refine xc rfl (a_assign_d (lq rfl) rfl) ?_
      refine xn [11] ?_
      refine xc rfl (a_assign_d (lq rfl) rfl) ?_
      refine xn [12] ?_
      refine xc rfl (a_assign_row (lq rfl) rfl) ?_
      exact any_end rfl (out_mk (wc))
     refine xc rfl (a_assign_d (lq rfl) rfl) ?_
     refine xn [7] ?_
     refine xc rfl (m_slice3 (en := eI) (lq rfl) S30 rfl rfl rfl rfl ht35) ?_
     refine xn [11] ?_
     refine xc rfl (a_assign_d (lq rfl) rfl) ?_
     refine xn [12] ?_
     refine xc rfl (a_assign_row (lq rfl) rfl) ?_
     exact any_end rfl (out_mk (wc))
    refine xd rfl (g_call [(5, 2537)] (slices_Clone_api_Element_api_Element_g ht37) (lq rfl) (by decide) ⟨rfl, trivial⟩ rfl rfl trivial rfl rfl rfl (fun _ => rfl) rfl) ?_
    refine xn [6,10] ?_
    refine xa rfl (m_len (en := eI) (l := t24.2.2.2) (lq rfl) S30 rfl) ?_ ?_
    ·
     refine xn [7,10] ?_
     refine xa rfl (m_slice3 (en := eI) (lq rfl) S30 rfl rfl rfl rfl ht35) ?_ ?_
     ·
      refine xn [10] ?_
      refine xc rfl (a_assign_d (lq rfl) rfl) ?_
      refine xn [11] ?_
      refine xc rfl (a_assign_d (lq rfl) rfl) ?_
      refine xn [12] ?_
      refine xc rfl (a_assign_row (lq rfl) rfl) ?_
      exact any_end rfl (out_mk (wc))
     refine xc rfl (a_assign_d (lq rfl) rfl) ?_
     refine xn [7] ?_
     refine xc rfl (m_slice3 (en := eI) (lq rfl) S30 rfl rfl rfl rfl ht35) ?_
     refine xn [11] ?_
     refine xc rfl (a_assign_d (lq rfl) rfl) ?_
     refine xn [12] ?_
     refine xc rfl (a_assign_row (lq rfl) rfl) ?_
     exact any_end rfl (out_mk (wc))
    refine xc rfl (a_assign_d (lq rfl) rfl) ?_
    refine xn [6] ?_
    refine xc rfl (m_len (en := eI) (l := t24.2.2.2) (lq rfl) S30 rfl) ?_
    refine xn [7] ?_
    refine xc rfl (m_slice3 (en := eI) (lq rfl) S30 rfl rfl rfl rfl ht35) ?_
    refine xn [11] ?_
    refine xc rfl (a_assign_d (lq rfl) rfl) ?_
    refine xn [12] ?_
    refine xc rfl (a_assign_row (lq rfl) rfl) ?_
    exact any_end rfl (out_mk (wc))
   refine xa rfl (m_len (en := eI) (l := t24.2.2.2) (lq rfl) S30 rfl) ?_ ?_
   ·
    refine xn [4,9] ?_
    refine xa rfl (m_len (en := eI) (l := t24.2.2.2) (lq rfl) S30 rfl) ?_ ?_
    ·
     refine xn [7,9] ?_
     refine xa rfl (m_slice3 (en := eI) (lq rfl) S30 rfl rfl rfl rfl ht35) ?_ ?_
     ·
      refine xn [9] ?_
      refine xd rfl (g_call [(5, 2537)] (slices_Clone_api_Element_api_Element_g ht37) (lq rfl) (by decide) ⟨rfl, trivial⟩ rfl rfl trivial rfl rfl rfl (fun _ => rfl) rfl) ?_
      refine xn [10] ?_
      refine xc rfl (a_assign_d (lq rfl) rfl) ?_
      refine xn [11] ?_
      refine xc rfl (a_assign_d (lq rfl) rfl) ?_
      refine xn [12] ?_
      refine xc rfl (a_assign_row (lq rfl) rfl) ?_
      exact any_end rfl (out_mk (wc))
     refine xd rfl (g_call [(5, 2537)] (slices_Clone_api_Element_api_Element_g ht37) (lq rfl) (by decide) ⟨rfl, trivial⟩ rfl rfl trivial rfl rfl rfl (fun _ => rfl) rfl) ?_
     refine xn [7,10] ?_
     refine xa rfl (m_slice3 (en := eI) (lq rfl) S30 rfl rfl rfl rfl ht35) ?_ ?_
     ·
      refine xn [10] ?_
      refine xc rfl (a_assign_d (lq rfl) rfl) ?_
      refine xn [11] ?_
      refine xc rfl (a_assign_d (lq rfl) rfl) ?_
      refine xn [12] ?_
      refine xc rfl (a_assign_row (lq rfl) rfl) ?_
      exact any_end rfl (out_mk (wc))
     refine xc rfl (a_assign_d (lq rfl) rfl) ?_
     refine xn [7] ?_
     refine xc rfl (m_slice3 (en := eI) (lq rfl) S30 rfl rfl rfl rfl ht35) ?_
     refine xn [11] ?_
     refine xc rfl (a_assign_d (lq rfl) rfl) ?_
     refine xn [12] ?_
     refine xc rfl (a_assign_row (lq rfl) rfl) ?_
     exact any_end rfl (out_mk (wc))
    refine xd rfl (g_call [(5, 2537)] (slices_Clone_api_Element_api_Element_g ht37) (lq rfl) (by decide) ⟨rfl, trivial⟩ rfl rfl trivial rfl rfl rfl (fun _ => rfl) rfl) ?_
    refine xn [4,10] ?_
    refine xa rfl (m_len (en := eI) (l := t24.2.2.2) (lq rfl) S30 rfl) ?_ ?_
    ·
     refine xn [7,10] ?_
     refine xa rfl (m_slice3 (en := eI) (lq rfl) S30 rfl rfl rfl rfl ht35) ?_ ?_
     ·
      refine xn [10] ?_
      refine xc rfl (a_assign_d (lq rfl) rfl) ?_
      refine xn [11] ?_
      refine xc rfl (a_assign_d (lq rfl) rfl) ?_
      refine xn [12] ?_
      refine xc rfl (a_assign_row (lq rfl) rfl) ?_
      exact any_end rfl (out_mk (wc))
     refine xc rfl (a_assign_d (lq rfl) rfl) ?_
     refine xn [7] ?_
     refine xc rfl (m_slice3 (en := eI) (lq rfl) S30 rfl rfl rfl rfl ht35) ?_
     refine xn [11] ?_
     refine xc rfl (a_assign_d (lq rfl) rfl) ?_
     refine xn [12] ?_
     refine xc rfl (a_assign_row (lq rfl) rfl) ?_
     exact any_end rfl (out_mk (wc))
    refine xc rfl (a_assign_d (lq rfl) rfl) ?_
    refine xn [4] ?_
    refine xc rfl (m_len (en := eI) (l := t24.2.2.2) (lq rfl) S30 rfl) ?_
    refine xn [7] ?_
    refine xc rfl (m_slice3 (en := eI) (lq rfl) S30 rfl rfl rfl rfl ht35) ?_
    refine xn [11] ?_
    refine xc rfl (a_assign_d (lq rfl) rfl) ?_
    refine xn [12] ?_
    refine xc rfl (a_assign_row (lq rfl) rfl) ?_
    exact any_end rfl (out_mk (wc))
   refine xd rfl (g_call [(5, 2537)] (slices_Clone_api_Element_api_Element_g ht37) (lq rfl) (by decide) ⟨rfl, trivial⟩ rfl rfl trivial rfl rfl rfl (fun _ => rfl) rfl) ?_
   refine xn [4,6,10] ?_
   refine xa rfl (m_len (en := eI) (l := t24.2.2.2) (lq rfl) S30 rfl) ?_ ?_
   ·
    refine xn [6,10] ?_
    refine xa rfl (m_len (en := eI) (l := t24.2.2.2) (lq rfl) S30 rfl) ?_ ?_
    ·
     refine xn [7,10] ?_
     refine xa rfl (m_slice3 (en := eI) (lq rfl) S30 rfl rfl rfl rfl ht35) ?_ ?_
     ·
      refine xn [10] ?_
      refine xc rfl (a_assign_d (lq rfl) rfl) ?_
      refine xn [11] ?_
      refine xc rfl (a_assign_d (lq rfl) rfl) ?_
      refine xn [12] ?_
      refine xc rfl (a_assign_row (lq rfl) rfl) ?_
      exact any_end rfl (out_mk (wc))
     refine xc rfl (a_assign_d (lq rfl) rfl) ?_
     refine xn [7] ?_
     refine xc rfl (m_slice3 (en := eI) (lq rfl) S30 rfl rfl rfl rfl ht35) ?_
     refine xn [11] ?_
     refine xc rfl (a_assign_d (lq rfl) rfl) ?_
     refine xn [12] ?_
     refine xc rfl (a_assign_row (lq rfl) rfl) ?_
     exact any_end rfl (out_mk (wc))
    refine xc rfl (a_assign_d (lq rfl) rfl) ?_
    refine xn [6] ?_
    refine xc rfl (m_len (en := eI) (l := t24.2.2.2) (lq rfl) S30 rfl) ?_
    refine xn [7] ?_
    refine xc rfl (m_slice3 (en := eI) (lq rfl) S30 rfl rfl rfl rfl ht35) ?_
    refine xn [11] ?_
    refine xc rfl (a_assign_d (lq rfl) rfl) ?_
    refine xn [12] ?_
    refine xc rfl (a_assign_row (lq rfl) rfl) ?_
    exact any_end rfl (out_mk (wc))
   refine xa rfl (m_len (en := eI) (l := t24.2.2.2) (lq rfl) S30 rfl) ?_ ?_
   ·
    refine xn [4,10] ?_
    refine xa rfl (m_len (en := eI) (l := t24.2.2.2) (lq rfl) S30 rfl) ?_ ?_
    ·
     refine xn [7,10] ?_
     refine xa rfl (m_slice3 (en := eI) (lq rfl) S30 rfl rfl rfl rfl ht35) ?_ ?_
     ·
      refine xn [10] ?_
      refine xc rfl (a_assign_d (lq rfl) rfl) ?_
      refine xn [11] ?_
      refine xc rfl (a_assign_d (lq rfl) rfl) ?_
      refine xn [12] ?_
      refine xc rfl (a_assign_row (lq rfl) rfl) ?_
      exact any_end rfl (out_mk (wc))
     refine xc rfl (a_assign_d (lq rfl) rfl) ?_
     refine xn [7] ?_
     refine xc rfl (m_slice3 (en := eI) (lq rfl) S30 rfl rfl rfl rfl ht35) ?_
     refine xn [11] ?_
     refine xc rfl (a_assign_d (lq rfl) rfl) ?_
     refine xn [12] ?_
     refine xc rfl (a_assign_row (lq rfl) rfl) ?_
     exact any_end rfl (out_mk (wc))
    refine xc rfl (a_assign_d (lq rfl) rfl) ?_
    refine xn [4] ?_
    refine xc rfl (m_len (en := eI) (l := t24.2.2.2) (lq rfl) S30 rfl) ?_
    refine xn [7] ?_
    refine xc rfl (m_slice3 (en := eI) (lq rfl) S30 rfl rfl rfl rfl ht35) ?_
    refine xn [11] ?_
    refine xc rfl (a_assign_d (lq rfl) rfl) ?_
    refine xn [12] ?_
    refine xc rfl (a_assign_row (lq rfl) rfl) ?_
    exact any_end rfl (out_mk (wc))
   refine xc rfl (a_assign_d (lq rfl) rfl) ?_
   refine xn [4,6] ?_
   refine xa rfl (m_len (en := eI) (l := t24.2.2.2) (lq rfl) S30 rfl) ?_ ?_
   ·
    refine xn [6] ?_
    refine xc rfl (m_len (en := eI) (l := t24.2.2.2) (lq rfl) S30 rfl) ?_
    refine xn [7] ?_
    refine xc rfl (m_slice3 (en := eI) (lq rfl) S30 rfl rfl rfl rfl ht35) ?_
    refine xn [11] ?_
    refine xc rfl (a_assign_d (lq rfl) rfl) ?_
    refine xn [12] ?_
    refine xc rfl (a_assign_row (lq rfl) rfl) ?_
    exact any_end rfl (out_mk (wc))
   refine xc rfl (m_len (en := eI) (l := t24.2.2.2) (lq rfl) S30 rfl) ?_
   refine xn [4] ?_
   refine xc rfl (m_len (en := eI) (l := t24.2.2.2) (lq rfl) S30 rfl) ?_
   refine xn [7] ?_
   refine xc rfl (m_slice3 (en := eI) (lq rfl) S30 rfl rfl rfl rfl ht35) ?_
   refine xn [11] ?_
   refine xc rfl (a_assign_d (lq rfl) rfl) ?_
   refine xn [12] ?_
   refine xc rfl (a_assign_row (lq rfl) rfl) ?_
   exact any_end rfl (out_mk (wc))
  cases h
  refine avc_ret ?_
  exact ret_three rfl rfl rfl
theorem ref01_Compare_c  {a0 : (List Int)} {a1 : (List Int)}  {r : Int} (h : ref01_Compare a0 a1 = some r) : Contract Tryd.prog 41 [(dsl eI a0), (dsl eI a1)] [(di r)] := by
 refine contract_of Tryd.func41 (by kernel_rfl) rfl (lq rfl) (lq rfl) fun w0 I0 hI0 hG0 => ?_
 unfold ref01_Compare at h
 refine avc_sq2 <| avc_sq <| q1 ?_
 refine sq_nil <| avc_sq2 <| avc_sq2 <| avc_sq <| q1 ?_
 refine sq_nil <| avc_block ?_
 obtain ⟨y1, hy1, h'⟩ := bE h; clear h
 refine avc_tail2 y1 (.exit 0) (fun y1 => ⟨[(0, .d (dsl eI a0)), (1, .d (dsl eI a1))], []⟩) .ret (fun y1 => ⟨[(4, .d (di y1))], []⟩) ?_ ?_ ?_
 ·
  refine avc_loopM (fun x => ⟨[(0, .d (dsl eI a0)), (1, .d (dsl eI a1)), (5, .d (di x))], []⟩) hy1 (wc) ?_
  rintro v5 sy1 hsy1
  replace hsy1 : ref01_Compare_L0 a0 a1 v5 = some sy1 := hsy1
  unfold ref01_Compare_L0 at hsy1
  refine avc_sq2 <| avc_sq2 <| avc_sq <| q0 ?_
  refine q0 ?_
  refine sqa (m_len (en := eI) (l := a0) (lq rfl) S30 rfl) ?_
  refine q5 ?_
  obtain ⟨b10, hb10, hsy1'⟩ := bE hsy1; clear hsy1
  refine sqa ((a_move_d (lq rfl) rfl).bool (Option.some.inj hb10)) ?_
  refine sqt (.d (di v5)) rfl (fun hb => by subst hb; exact a_move_d (lq rfl) rfl) ?_
  refine sqt (.d (dsl eI a1)) rfl (fun hb => by subst hb; exact a_move_d (lq rfl) rfl) ?_
  refine sqt (.d (di (a1.length : Int))) rfl (fun hb => by subst hb; exact m_len (en := eI) (l := a1) (lq rfl) S30 rfl) ?_
  refine sqt (.d (db (decide (v5 < (a1.length : Int))))) rfl (fun hb => by subst hb; exact a_lss (lq rfl) rfl rfl) ?_
  refine q9 ?_
  refine sq_nil ?_
  refine avc_if rfl ⟨fun c1 => ?_, fun c1 => ?_⟩
  ·
   replace hsy1' := cT c1 hsy1'
   refine avc_skip <| avc_sq2 <| avc_block <| avc_sq2 <| avc_sq2 ?_
   refine avc_drawA MX rfl ?_
   refine q6 ?_
   refine q6 ?_
   obtain ⟨t20, ht20, hsy1⟩ := bE hsy1'; clear hsy1'
   refine daa (m_index (en := eI) (lq rfl) S30 rfl rfl ht20) ?_
   refine daa (m_loadE (en := eI) (l := a0) (i := v5) (v := t20) (off := 0) (lq rfl) O3 rfl ht20 rfl) ?_
   refine q6 ?_
   refine q6 ?_
   obtain ⟨t24, ht24, hsy1'⟩ := bE hsy1; clear hsy1
   refine daa (m_index (en := eI) (lq rfl) S30 rfl rfl ht24) ?_
   refine daa (m_loadE (en := eI) (l := a1) (i := v5) (v := t24) (off := 0) (lq rfl) O3 rfl ht24 rfl) ?_
   refine q48 ?_
   refine da_nil ?_
   refine avc_if rfl ⟨fun c2 => ?_, fun c2 => ?_⟩
   ·
    replace hsy1' := cT c2 hsy1'
    refine avc_sq2 <| avc_sq <| q1 ?_
    refine sq_nil <| avc_ret ?_
    cases hsy1'
    intro q; cases q
    exact ⟨rfl, wc⟩
   ·
    replace hsy1' := cF c2 hsy1'
    refine avc_skip <| avc_sq2 ?_
    refine avc_drawA MX rfl ?_
    refine q6 ?_
    refine q6 ?_
    obtain ⟨t29, ht29, hsy1⟩ := bE hsy1'; clear hsy1'
    refine daa (m_index (en := eI) (lq rfl) S30 rfl rfl ht29) ?_
    refine daa (m_loadE (en := eI) (l := a0) (i := v5) (v := t29) (off := 0) (lq rfl) O3 rfl ht29 rfl) ?_
    refine q6 ?_
    refine q6 ?_
    obtain ⟨t33, ht33, hsy1'⟩ := bE hsy1; clear hsy1
    refine daa (m_index (en := eI) (lq rfl) S30 rfl rfl ht33) ?_
    refine daa (m_loadE (en := eI) (l := a1) (i := v5) (v := t33) (off := 0) (lq rfl) O3 rfl ht33 rfl) ?_
    refine q38 ?_
    refine da_nil ?_
    refine avc_if rfl ⟨fun c3 => ?_, fun c3 => ?_⟩
    ·
     replace hsy1' := cT c3 hsy1'
     refine avc_sq2 <| avc_sq <| q1 ?_
     refine sq_nil <| avc_ret ?_
     cases hsy1'
     intro q; cases q
     exact ⟨rfl, wc⟩
    ·
     replace hsy1' := cF c3 hsy1'
     refine avc_skip <| avc_sq <| q0 ?_
     refine q2 ?_
     refine q1 ?_
     refine sq_nil ?_
     cases hsy1'
     exact wc
  ·
   replace hsy1' := cF c1 hsy1'
   refine avc_exit ?_
   cases hsy1'
   intro q; cases q
   exact ⟨rfl, wc⟩
 ·
  rintro y1 rfl
  replace h' := eL h'
  refine avc_sq2 <| avc_sq2 <| avc_sq <| q0 ?_
  refine sqa (m_len (en := eI) (l := a0) (lq rfl) S30 rfl) ?_
  refine q0 ?_
  refine sqa (m_len (en := eI) (l := a1) (lq rfl) S30 rfl) ?_
  refine q5 ?_
  refine sq_nil ?_
  refine avc_if rfl ⟨fun c4 => ?_, fun c4 => ?_⟩
  ·
   replace h' := cT c4 h'
   refine avc_sq2 <| avc_sq <| q1 ?_
   refine sq_nil ?_
   cases h'
   refine avc_ret ?_
   exact ret_1 rfl
  ·
   replace h' := cF c4 h'
   refine avc_skip <| avc_sq2 <| avc_sq2 <| avc_sq <| q0 ?_
   refine sqa (m_len (en := eI) (l := a0) (lq rfl) S30 rfl) ?_
   refine q0 ?_
   refine sqa (m_len (en := eI) (l := a1) (lq rfl) S30 rfl) ?_
   refine q21 ?_
   refine sq_nil ?_
   refine avc_if rfl ⟨fun c5 => ?_, fun c5 => ?_⟩
   ·
    replace h' := cT c5 h'
    refine avc_sq2 <| avc_sq <| q1 ?_
    refine sq_nil ?_
    cases h'
    refine avc_ret ?_
    exact ret_1 rfl
   ·
    replace h' := cF c5 h'
    refine avc_skip <| avc_sq2 <| avc_sq <| q1 ?_
    refine sq_nil ?_
    cases h'
    refine avc_ret ?_
    exact ret_1 rfl
 ·
  rintro y1 rfl
  replace h' := eR h'
  cases h'
  exact ret_1 rfl
theorem ref01_Equal_c  {a0 : (List Int)} {a1 : (List Int)}  {r : Bool} (h : ref01_Equal a0 a1 = some r) : Contract Tryd.prog 19 [(dsl eI a0), (dsl eI a1)] [(db r)] := by
 refine contract_of Tryd.func19 (by kernel_rfl) rfl (lq rfl) (lq rfl) fun w0 I0 hI0 hG0 => ?_
 unfold ref01_Equal at h
 refine avc_sq2 <| avc_sq <| q1 ?_
 refine sq_nil <| avc_sq2 <| avc_sq <| q0 ?_
 refine q0 ?_
 obtain ⟨t7, ht7, h'⟩ := bE h; clear h
 refine sqa (a_call (lq rfl) rfl (ref01_Compare_c ht7)) ?_
 refine q23 ?_
 refine q1 ?_
 refine sq_nil ?_
 cases h'
 refine avc_ret ?_
 exact ret_1 rfl
theorem ref43_Same_c  {a0 : (List Element)} {a1 : (List Element)}  {r : Bool} (h : ref43_Same a0 a1 = some r) : Contract Tryd.prog 14 [(dsl eElement a0), (dsl eElement a1)] [(db r)] := by
 refine contract_of Tryd.func14 (by kernel_rfl) rfl (lq rfl) (lq rfl) fun w0 I0 hI0 hG0 => ?_
 unfold ref43_Same at h
 refine avc_sq2 <| avc_sq <| q1 ?_
 refine sq_nil <| avc_sq2 <| avc_sq2 <| avc_sq <| q0 ?_
 refine sqa (m_len (en := eElement) (l := a0) (lq rfl) S31 rfl) ?_
 refine q0 ?_
 refine sqa (m_len (en := eElement) (l := a1) (lq rfl) S31 rfl) ?_
 refine q20 ?_
 refine sq_nil ?_
 refine avc_if rfl ⟨fun c1 => ?_, fun c1 => ?_⟩
 ·
  replace h := cT c1 h
  refine avc_sq2 <| avc_sq <| q1 ?_
  refine sq_nil ?_
  cases h
  refine avc_ret ?_
  exact ret_1 rfl
 ·
  replace h := cF c1 h
  refine avc_skip <| avc_sq2 <| avc_sq2 <| avc_sq <| q1 ?_
  refine sq_nil <| avc_block ?_
  obtain ⟨y1, hy1, h'⟩ := bE h; clear h
  refine avc_tail2 y1 (.exit 0) (fun y1 => ⟨[], []⟩) .ret (fun y1 => ⟨[(4, .d (db y1))], []⟩) ?_ ?_ ?_
  ·
   refine avc_loopM (fun x => ⟨[(0, .d (dsl eElement a0)), (1, .d (dsl eElement a1)), (5, .d (di x))], []⟩) hy1 (wc) ?_
   rintro v5 sy1 hsy1
   replace hsy1 : ref43_Same_L0 a0 a1 v5 = some sy1 := hsy1
   unfold ref43_Same_L0 at hsy1
   refine avc_sq2 <| avc_sq2 <| avc_sq <| q0 ?_
   refine q0 ?_
   refine sqa (m_len (en := eElement) (l := a0) (lq rfl) S31 rfl) ?_
   refine q5 ?_
   refine sq_nil ?_
   refine avc_if rfl ⟨fun c2 => ?_, fun c2 => ?_⟩
   ·
    replace hsy1 := cT c2 hsy1
    refine avc_skip <| avc_sq2 <| avc_block <| avc_sq2 ?_
    refine avc_drawA MX rfl ?_
    refine q6 ?_
    refine q6 ?_
    obtain ⟨t19, ht19, hsy1'⟩ := bE hsy1; clear hsy1
    refine daa (m_index (en := eElement) (lq rfl) S31 rfl rfl ht19) ?_
    refine daa (m_loadEA (en := eElement) (l := a0) (i := v5) (v := t19) (off := 0) (lq rfl) G63 rfl ht19 rfl rfl (by decide)) ?_
    refine q6 ?_
    refine q6 ?_
    obtain ⟨t23, ht23, hsy1⟩ := bE hsy1'; clear hsy1'
    refine daa (m_index (en := eElement) (lq rfl) S31 rfl rfl ht23) ?_
    refine daa (m_loadEA (en := eElement) (l := a1) (i := v5) (v := t23) (off := 0) (lq rfl) G63 rfl ht23 rfl rfl (by decide)) ?_
    refine daa (m_stneq (en := eElement) (a := t19) (b := t23) (lq rfl) E63 rfl rfl) ?_
    refine da_nil ?_
    refine avc_if rfl ⟨fun c3 => ?_, fun c3 => ?_⟩
    ·
     replace hsy1 := cT c3 hsy1
     refine avc_sq2 <| avc_sq <| q1 ?_
     refine sq_nil <| avc_ret ?_
     cases hsy1
     intro q; cases q
     exact ⟨rfl, wc⟩
    ·
     replace hsy1 := cF c3 hsy1
     refine avc_skip <| avc_sq <| q0 ?_
     refine q2 ?_
     refine q1 ?_
     refine sq_nil ?_
     cases hsy1
     exact wc
   ·
    replace hsy1 := cF c2 hsy1
    refine avc_exit ?_
    cases hsy1
    intro q; cases q
    exact ⟨rfl, wc⟩
  ·
   rintro y1 rfl
   replace h' := eL h'
   refine avc_sq2 <| avc_sq <| q1 ?_
   refine sq_nil ?_
   cases h'
   refine avc_ret ?_
   exact ret_1 rfl
  ·
   rintro y1 rfl
   replace h' := eR h'
   cases h'
   exact ret_1 rfl
set_option maxRecDepth 40000 in
theorem law43_alive_c    {r : Bool} (h : law43_alive  = some r) : Contract Tryd.prog 11 [] [(db r)] := by
 refine contract_of Tryd.func11 (by kernel_rfl) rfl (lq rfl) (lq rfl) fun w0 I0 hI0 hG0 => ?_
 unfold law43_alive at h
 refine avc_sq2 <| avc_sq <| q1 ?_
 refine sq_nil <| avc_sq2 <| avc_sq <| q27 B61 ?_
 refine q27 B61 ?_
 refine q22 S37 ?_
 refine sqa ((m_build (lq rfl) B43 rfl rfl).nils (bs := eNorm.cells ({ Classes := [({ Lo := 769, Hi := 769, Value := 230 } : Span), ({ Lo := 803, Hi := 803, Value := 220 } : Span)], Decomp := [], Excluded := (({ Ranges := [] }) : Set) } : Norm)) (nlE (nlN (nlN nl0)))) ?_
 refine sq_b rfl (step_alloc (zs := [(.slice none 0 0), (.slice none 0 0), (.slice none 0 0)]) (lq rfl) (by kernel_rfl) rfl rfl) ?_
 refine q8 G43 ?_
 refine sq_nil ?_
 refine avc_weak (weak_freeze (t := 1) (lq rfl) rfl rfl rfl) ?_
 refine avc_sq2 <| avc_sq <| q27 B63 ?_
 refine q22 S31 ?_
 refine q1 ?_
 refine sq_nil <| avc_sq2 <| avc_sq <| q27 B63 ?_
 refine q22 S31 ?_
 refine q1 ?_
 refine sq_nil <| avc_sq2 <| avc_sq <| q22 S30 ?_
 refine q0 ?_
 refine q27 B55 ?_
 refine q22 S30 ?_
 refine q0 ?_
 refine q27 B55 ?_
 refine q22 S22 ?_
 refine sqa ((m_build (lq rfl) B25 rfl rfl).nils (bs := eCollation.cells ({ Entries := [({ Codes := [97], Elements := [({ Primary := 7, Secondary := 1, Tertiary := 1, Variable := false } : Element)] } : Entry), ({ Codes := [97, 769], Elements := [({ Primary := 8, Secondary := 1, Tertiary := 1, Variable := false } : Element)] } : Entry)], Groups := [], Base := 100, Second := 1, Third := 1 } : Collation)) (nlE (nlN (nlE (nlE (nlE nl0)))))) ?_
 refine sq_b rfl (step_alloc (zs := [(.slice none 0 0), (.slice none 0 0), (.int IntKind.i64 (0)), (.int IntKind.i64 (0)), (.int IntKind.i64 (0))]) (lq rfl) (by kernel_rfl) rfl rfl) ?_
 refine q8 G25 ?_
 refine sq_nil ?_
 refine avc_weak (weak_freeze (t := 4) (lq rfl) rfl rfl rfl) ?_
 refine avc_sq2 <| avc_sq <| q17 G43 ?_
 refine q17 G25 ?_
 refine q22 S30 ?_
 obtain ⟨t28, ht28, h'⟩ := bE h; clear h
 refine sqa (a_call (lq rfl) rfl (colltable_Step_c ht28)) ?_
 refine q26 ?_
 refine q12 ?_
 refine q12 ?_
 refine q12 ?_
 refine q1 ?_
 refine q1 ?_
 refine q1 ?_
 refine sq_nil <| avc_sq2 <| avc_sq <| q17 G25 ?_
 obtain ⟨t33, ht33, h⟩ := bE h'; clear h'
 refine sqa (a_call (lq rfl) rfl (colltable_Check_c ht33)) ?_
 refine q23 ?_
 obtain ⟨b35, hb35, h'⟩ := bE h; clear h
 refine sqa ((a_move_d (lq rfl) rfl).bool (Option.some.inj hb35)) ?_
 refine sqt (.d (di t28.1)) rfl (fun hb => by subst hb; exact a_move_d (lq rfl) rfl) ?_
 refine sqt (.d (db (decide (t28.1 = 2)))) rfl (fun hb => by subst hb; exact a_eql (lq rfl) rfl rfl) ?_
 refine q9 ?_
 obtain ⟨b39, hb39, h⟩ := bE h'; clear h'
 refine sqa ((a_move_d (lq rfl) rfl).bool (Option.some.inj hb39)) ?_
 refine sqt (.d (dsl eI t28.2.1)) rfl (fun hb => by subst hb; exact a_move_d (lq rfl) rfl) ?_
 refine sqt (.d (dsl eI [803])) rfl (fun hb => by subst hb; exact a_lit (lq rfl) S30 rfl rfl rfl rfl (by decide) rfl) ?_
 obtain ⟨t42, ht42, h'⟩ := bE h; clear h
 refine sqt (.d (db t42)) rfl (fun hb => by subst hb; exact a_call (lq rfl) rfl (ref01_Equal_c ht42)) ?_
 refine q9 ?_
 obtain ⟨b44, hb44, h⟩ := bE h'; clear h'
 refine sqa ((a_move_d (lq rfl) rfl).bool (Option.some.inj hb44)) ?_
 refine sqt (.d (dsl eElement t28.2.2)) rfl (fun hb => by subst hb; exact a_move_d (lq rfl) rfl) ?_
 refine sqt (.d (dsl eElement [({ Primary := 8, Secondary := 1, Tertiary := 1, Variable := false } : Element)])) rfl (fun hb => by subst hb; exact a_move_d (lq rfl) rfl) ?_
 obtain ⟨t47, ht47, h'⟩ := bE h; clear h
 refine sqt (.d (db t47)) rfl (fun hb => by subst hb; exact a_call (lq rfl) rfl (ref43_Same_c ht47)) ?_
 refine q9 ?_
 refine q1 ?_
 refine sq_nil ?_
 cases h'
 refine avc_ret ?_
 exact ret_1 rfl
theorem decompose_usable_c  {a0 : Norm}  {r : Norm} (h : decompose_usable a0 = some r) : Contract Tryd.prog 42 [(eNorm.dv a0)] [(eNorm.dv r)] := by
 refine contract_of Tryd.func42 (by kernel_rfl) rfl (lq rfl) (lq rfl) fun w0 I0 hI0 hG0 => ?_
 unfold decompose_usable at h
 refine avc_sq2 <| avc_sq ?_
 refine sqa (m_box (size := 3) (lq rfl) rfl rfl) ?_
 refine sq_b rfl (step_alloc (zs := [(.slice none 0 0), (.slice none 0 0), (.slice none 0 0)]) (lq rfl) (by kernel_rfl) rfl rfl) ?_
 refine sq_nil <| avc_sq2 <| avc_sq2 <| avc_sq <| q17 G43 ?_
 obtain ⟨t4, ht4, h'⟩ := bE h; clear h
 refine sqa (a_call (lq rfl) rfl (decompose_Check_c ht4)) ?_
 refine q20 ?_
 refine sq_nil ?_
 refine avc_if rfl ⟨fun c1 => ?_, fun c1 => ?_⟩
 ·
  replace h' := cT c1 h'
  refine avc_sq2 <| avc_sq ?_
  refine sqa ((m_build (lq rfl) B43 rfl rfl).nils (bs := eNorm.cells ({ Classes := [], Decomp := [], Excluded := (({ Ranges := [] }) : Set) } : Norm)) (nlN (nlN (nlN nl0)))) ?_
  refine q8 G43 ?_
  refine sq_nil ?_
  cases h'
  refine avc_ret ?_
  exact ret_cellA rfl rfl G43 rfl
 ·
  replace h' := cF c1 h'
  refine avc_skip <| avc_sq2 <| avc_sq <| q17 G43 ?_
  refine q8 G43 ?_
  refine sq_nil ?_
  cases h'
  refine avc_ret ?_
  exact ret_cellA rfl rfl G43 rfl
theorem decompose_expander_1_g : ∀ (n : Nat) {a0 : Int} {a1 : (List (Int × (List Int)))} {a2 : Norm} {a3 : Bool} {r : (List Int) × (List (Int × (List Int)))}, decompose_expander_1 n a0 a1 a2 a3 = some r → GC Tryd.prog 57 [.d (di a0), .ptr 3001 0, .d (.pt (eNorm.cells a2)), .d (.pt [(db a3)]), .ptr 3004 0] [(3001, .box 96 [.row 3120]), (3004, .box 76 [.clo 57 [.ptr 3001 0, .d (.pt (eNorm.cells a2)), .d (.pt [(db a3)]), .ptr 3004 0]]), (3120, .map (mapE kI (eL eI) a1))] [3001, 3004, 3120] [.d (dsl eI r.1)] [(3001, .box 96 [.row 3120]), (3004, .box 76 [.clo 57 [.ptr 3001 0, .d (.pt (eNorm.cells a2)), .d (.pt [(db a3)]), .ptr 3004 0]]), (3120, .map (mapE kI (eL eI) r.2))] := by
 intro n
 induction n with
 | zero => intro a0 a1 a2 a3 r h; cases h
 | succ n ih =>
 intro a0 a1 a2 a3 r h
 replace h : decompose_expander_1_B (decompose_expander_1 n) a0 a1 a2 a3 = some r := h
 generalize decompose_expander_1 n = rec at h ih
 refine gc_of Tryd.func57 (by kernel_rfl) rfl (lq rfl) (lq rfl) fun w0 I0 hG0 p0 => ?_
 unfold decompose_expander_1_B at h
 refine avc_sq2 <| avc_sq <| q1 ?_
 refine sq_nil <| avc_sq2 <| avc_sq2 <| avc_sq <| q15 O96 ?_
 refine q0 ?_
 refine sqa (m_lookup2 (kv := kI) (ev := (eL eI)) (mp := a1) (k := a0) (zero := []) (lq rfl) M96 K3 rfl rfl rfl (fun _ _ => .nil _ _ _)) ?_
 refine q26 ?_
 refine q12 ?_
 refine q12 ?_
 refine q1 ?_
 refine q1 ?_
 refine sq_nil <| avc_sq2 <| avc_sq <| q0 ?_
 refine sq_nil ?_
 refine avc_if rfl ⟨fun c1 => ?_, fun c1 => ?_⟩
 ·
  replace h := cT c1 h
  refine avc_sq2 <| avc_sq <| q0 ?_
  refine q1 ?_
  refine sq_nil ?_
  cases h
  refine avc_ret ?_
  exact ⟨⟨_, _, rfl, rfl, rfl⟩, ⟨rfl, rfl, rfl, trivial⟩⟩
 ·
  replace h := cF c1 h
  refine avc_skip <| avc_sq2 <| avc_sq <| q17 G43 ?_
  refine q0 ?_
  refine q37 O4 ?_
  obtain ⟨t26, ht26, h'⟩ := bE h; clear h
  refine sqa (a_call (lq rfl) rfl (decompose_once_c ht26)) ?_
  refine q26 ?_
  refine q12 ?_
  refine q12 ?_
  refine q1 ?_
  refine q1 ?_
  refine sq_nil <| avc_sq2 <| avc_sq2 <| avc_sq <| q0 ?_
  refine q18 ?_
  refine sq_nil ?_
  refine avc_if rfl ⟨fun c2 => ?_, fun c2 => ?_⟩
  ·
   replace h' := cT c2 h'
   refine avc_sq2 <| avc_sq <| q0 ?_
   refine q22 S30 ?_
   refine q1 ?_
   refine sq_nil ?_
   cases h'
   refine avc_ret ?_
   exact ⟨⟨_, _, rfl, rfl, rfl⟩, ⟨rfl, rfl, rfl, trivial⟩⟩
  ·
   replace h' := cF c2 h'
   refine avc_skip <| avc_sq2 <| avc_sq <| q1 ?_
   refine sq_nil ?_
   refine avc_weak (weak_nil (t := 11) 1011 3 eI.size (lq rfl) (lq rfl) rfl rfl) ?_
   refine avc_sq2 <| avc_sq2 <| avc_sq <| q0 ?_
   refine sqa (m_len (en := eI) (l := t26.1) (lq rfl) S30 rfl) ?_
   refine q0 ?_
   refine sq_nil <| avc_block ?_
   obtain ⟨y1, hy1, h⟩ := bE h'; clear h'
   refine avc_tail (e := (.exit 0)) (S2 := ⟨[(0, .d (di a0)), (1, .ptr 3001 0), (4, .ptr 3004 0), (11, .row 1011)], [(1011, .row 3 eI.size false (eI.all y1.1)), (3001, .box 96 [.row 3120]), (3004, .box 76 [.clo 57 [.ptr 3001 0, .d (.pt (eNorm.cells a2)), .d (.pt [(db a3)]), .ptr 3004 0]]), (3120, .map (mapE kI (eL eI) y1.2))]⟩) ?_ ?_
   ·
    refine avc_loopM (fun x => ⟨[(0, .d (di a0)), (1, .ptr 3001 0), (4, .ptr 3004 0), (11, .row 1011), (33, .d (dsl eI t26.1)), (34, .d (di (t26.1.length : Int))), (35, .d (di x.1))], [(1011, .row 3 eI.size false (eI.all x.2.1)), (3001, .box 96 [.row 3120]), (3004, .box 76 [.clo 57 [.ptr 3001 0, .d (.pt (eNorm.cells a2)), .d (.pt [(db a3)]), .ptr 3004 0]]), (3120, .map (mapE kI (eL eI) x.2.2))]⟩) hy1 (wc) ?_
    rintro ⟨v35, r1011, r3120⟩ sy1 hsy1
    replace hsy1 : decompose_expander_1_L0 t26 rec a2 a3 v35 r1011 r3120 = some sy1 := hsy1
    unfold decompose_expander_1_L0 at hsy1
    refine avc_sq2 <| avc_sq <| q5 ?_
    refine sq_nil <| avc_sq2 ?_
    refine avc_if rfl ⟨fun c3 => ?_, fun c3 => ?_⟩
    ·
     replace hsy1 := cT c3 hsy1
     refine avc_skip <| avc_sq2 <| avc_block <| avc_sq2 <| avc_sq ?_
     obtain ⟨t37, ht37, hsy1'⟩ := bE hsy1; clear hsy1
     refine sqa (m_index (en := eI) (lq rfl) S30 rfl rfl ht37) ?_
     refine sqa (m_loadE (en := eI) (l := t26.1) (i := v35) (v := t37) (off := 0) (lq rfl) O3 rfl ht37 rfl) ?_
     refine q1 ?_
     refine sq_nil <| avc_sq <| q7 ?_
     refine q15 O76 ?_
     refine q0 ?_
     obtain ⟨t42, ht42, hsy1⟩ := bE hsy1'; clear hsy1'
     refine sq_b rfl (g_callCN [(3001, 3001), (3004, 3004), (3120, 3120)] (ih ht42) (lq rfl) (by decide) rfl ⟨rfl, rfl, rfl, rfl, rfl, trivial⟩ rfl rfl ⟨rfl, rfl, rfl, trivial⟩ rfl rfl rfl rfl) ?_
     obtain ⟨r1011_2, hr1011_2, hsy1'⟩ := bE hsy1; clear hsy1
     refine sq_b rfl (m_append (en := eI) (l := r1011) (m := t42.1) (lq rfl) S30 rfl rfl rfl hr1011_2 (by decide) (by decide) rfl rfl) ?_
     refine q13 ?_
     refine sq_nil <| avc_sq <| q2 ?_
     refine q0 ?_
     refine sq_nil ?_
     cases hsy1'
     exact wc
    ·
     replace hsy1 := cF c3 hsy1
     refine avc_exit ?_
     cases hsy1
     intro q; cases q
     exact out_mk (wc)
   ·
    refine avc_sq2 <| avc_sq <| q15 O96 ?_
    refine q0 ?_
    refine q7 ?_
    refine sq_weak (weak_row_d (t := 47) (lq rfl) rfl rfl) ?_ (by simp)
    refine sq_b rfl (m_mapUpdate (kv := kI) (ev := (eL eI)) (mp := y1.2) (k := a0) (v := y1.1) M96 K3 rfl rfl rfl rfl rfl rfl) ?_
    refine sq_nil <| avc_sq2 <| avc_sq <| q7 ?_
    refine q13 ?_
    refine sq_nil ?_
    refine avc_weak (weak_row_d (t := 6) (lq rfl) rfl rfl) ?_
    cases h
    refine avc_ret ?_
    exact ⟨⟨_, _, rfl, rfl, rfl⟩, ⟨rfl, rfl, rfl, trivial⟩⟩
theorem decompose_expander_a {a0 : Norm} {a1 : Bool} {r : Unit} (h : decompose_expander a0 a1 = some r) : GCA Tryd.prog 43 [.d (eNorm.dv a0), .d (db a1)] [] [] (.clo 57 [.ptr 5 0, .d (.pt (eNorm.cells a0)), .d (.pt [(db a1)]), .ptr 6 0]) [(5, .box 96 [.row 7]), (6, .box 76 [.clo 57 [.ptr 5 0, .d (.pt (eNorm.cells a0)), .d (.pt [(db a1)]), .ptr 6 0]]), (7, .map (mapE kI (eL eI) []))] := by
 refine gca_of Tryd.func43 (by kernel_rfl) rfl (lq rfl) (lq rfl) rfl fun w0 I0 hG0 p0 => ?_
 unfold decompose_expander at h
 refine avc_sq2 <| avc_sq ?_
 refine sqa (m_box (size := 3) (lq rfl) rfl rfl) ?_
 refine sqa (m_box (size := 1) (lq rfl) rfl rfl) ?_
 refine q1 ?_
 refine sq_nil <| avc_sq2 <| avc_sq <| q42 ?_
 refine sq_b rfl (step_alloc (zs := [(.map none)]) (lq rfl) (by kernel_rfl) rfl rfl) ?_
 refine sq_b rfl (s_store_box_row O96 rfl rfl (lq rfl) rfl rfl rfl) ?_
 refine sq_nil <| avc_sq2 <| avc_sq ?_
 refine sq_b rfl (step_alloc (zs := [.nilFunc]) (lq rfl) (by kernel_rfl) rfl rfl) ?_
 refine sq_nil <| avc_sq2 <| avc_sq ?_
 refine sqa (a_makeClo (cs := [.ptr 5 0, .d (.pt (eNorm.cells a0)), .d (.pt [(db a1)]), .ptr 6 0]) (lq rfl) ⟨_, _, rfl, rfl, ⟨_, _, rfl, rfl, ⟨_, _, rfl, rfl, ⟨_, _, rfl, rfl, rfl⟩⟩⟩⟩) ?_
 refine sq_b rfl (s_store_box_av O76 rfl rfl (lq rfl) rfl rfl rfl rfl) ?_
 refine sq_nil <| avc_sq2 <| avc_sq <| q15 O76 ?_
 refine sqa (a_assign_to (lq rfl) rfl) ?_
 refine sq_nil ?_
 cases h
 refine avc_ret ?_
 exact ⟨rfl, ⟨rfl, rfl, rfl, trivial⟩⟩
theorem ordering_Sort_1_c  {a0 : Int} {a1 : Int} {a2 : (List Span)}  {r : Int} (h : ordering_Sort_1 a0 a1 a2 = some r) : Contract Tryd.prog 62 [(di a0), (di a1), (.pt [(dsl eSpan a2)])] [(di r)] := by
 refine contract_of Tryd.func62 (by kernel_rfl) rfl (lq rfl) (lq rfl) fun w0 I0 hI0 hG0 => ?_
 unfold ordering_Sort_1 at h
 refine avc_sq2 <| avc_sq <| q1 ?_
 refine sq_nil <| avc_sq2 ?_
 refine avc_drawA MX rfl ?_
 refine q47 O37 ?_
 refine q6 ?_
 obtain ⟨t8, ht8, h'⟩ := bE h; clear h
 refine daa (a_call (lq rfl) rfl (ordering_class_c ht8)) ?_
 refine q47 O37 ?_
 refine q6 ?_
 obtain ⟨t11, ht11, h⟩ := bE h'; clear h'
 refine daa (a_call (lq rfl) rfl (ordering_class_c ht11)) ?_
 obtain ⟨t12, ht12, h'⟩ := bE h; clear h
 refine daa (a_call (lq rfl) rfl (cmp_Compare_int_c ht12)) ?_
 refine q25 ?_
 refine da_nil ?_
 cases h'
 refine avc_ret ?_
 exact ret_1 rfl
set_option maxHeartbeats 8000000 in
theorem slices_insertionSortCmpFunc_int_g {fv3 : DV} {a0 : (List Int)} {a1 : Int} {a2 : Int} {a3 : Int → Int → Option (Int)} (hf3 : ∀ x0 x1 y, a3 x0 x1 = some y → FnC Tryd.prog fv3 [(di x0), (di x1)] [(di y)]) {r : (List Int)} (h : slices_insertionSortCmpFunc_int a0 a1 a2 a3 = some r) : GC Tryd.prog 88 [.row 3000, .d (di a1), .d (di a2), .d fv3] [(3000, .win 3 eI.size 0 (eI.all a0))] [3000] [] [(3000, .win 3 eI.size 0 (eI.all r))] := by
 refine gc_of Tryd.func88 (by kernel_rfl) rfl (lq rfl) (lq rfl) fun w0 I0 hG0 p0 => ?_
 unfold slices_insertionSortCmpFunc_int at h
 refine avc_sq2 <| avc_sq <| q0 ?_
 refine q2 ?_
 refine q1 ?_
 refine sq_nil <| avc_block ?_
 obtain ⟨y1, hy1, h'⟩ := bE h; clear h
 refine avc_tail (e := (.exit 0)) (S2 := ⟨[(0, .row 3000)], [(3000, .win 3 eI.size 0 (eI.all y1))]⟩) ?_ ?_
 ·
  refine avc_loopM (fun x => ⟨[(0, .row 3000), (1, .d (di a1)), (2, .d (di a2)), (3, .d fv3), (8, .d (di x.1))], [(3000, .win 3 eI.size 0 (eI.all x.2))]⟩) hy1 (wc) ?_
  rintro ⟨v8, r3000⟩ sy1 hsy1
  replace hsy1 : slices_insertionSortCmpFunc_int_L0 a2 a1 a3 v8 r3000 = some sy1 := hsy1
  unfold slices_insertionSortCmpFunc_int_L0 at hsy1
  refine avc_sq2 <| avc_sq2 <| avc_sq <| q0 ?_
  refine q0 ?_
  refine q5 ?_
  refine sq_nil ?_
  refine avc_if rfl ⟨fun c1 => ?_, fun c1 => ?_⟩
  ·
   replace hsy1 := cT c1 hsy1
   refine avc_skip <| avc_sq2 <| avc_block <| avc_sq2 <| avc_sq <| q0 ?_
   refine q1 ?_
   refine sq_nil <| avc_block ?_
   obtain ⟨y2, hy2, hsy1'⟩ := bE hsy1; clear hsy1
   refine avc_tail (e := (.exit 2)) (S2 := ⟨[(0, .row 3000), (1, .d (di a1)), (2, .d (di a2)), (3, .d fv3), (8, .d (di v8))], [(3000, .win 3 eI.size 0 (eI.all y2))]⟩) ?_ ?_
   ·
    refine avc_loopM (fun x => ⟨[(0, .row 3000), (1, .d (di a1)), (2, .d (di a2)), (3, .d fv3), (8, .d (di v8)), (9, .d (di x.1))], [(3000, .win 3 eI.size 0 (eI.all x.2))]⟩) hy2 (wc) ?_
    rintro ⟨v9, r3000⟩ sy2 hsy2
    replace hsy2 : slices_insertionSortCmpFunc_int_L1 a1 a3 v9 r3000 = some sy2 := hsy2
    unfold slices_insertionSortCmpFunc_int_L1 at hsy2
    refine avc_sq2 <| avc_sq2 ?_
    refine avc_drawA MX rfl ?_
    refine q6 ?_
    refine q6 ?_
    refine q38 ?_
    obtain ⟨b21, hb21, hsy2'⟩ := bE hsy2; clear hsy2
    refine daa ((a_move_d (lq rfl) rfl).bool (Option.some.inj hb21)) ?_
    refine dat (.d fv3) rfl (fun hb => by subst hb; exact a_move_d (lq rfl) rfl) ?_
    refine dat (.row 3000) rfl (fun hb => by subst hb; exact a_move_row (lq rfl) rfl) ?_
    refine dat (.d (di v9)) rfl (fun hb => by subst hb; exact a_move_d (lq rfl) rfl) ?_
    obtain ⟨t25, ht25, hsy2⟩ := bE hsy2'; clear hsy2'
    refine dat (.wp 3000 (v9.toNat * eI.size)) rfl (fun hb => by subst hb; exact m_indexW (en := eI) (l := r3000) (lq rfl) S30 rfl rfl rfl ht25) ?_
    refine dat (.d (di t25)) rfl (fun hb => by subst hb; exact m_loadW (en := eI) (l := r3000) (i := v9) (v := t25) (lq rfl) O3 rfl rfl ht25 rfl) ?_
    refine dat (.row 3000) rfl (fun hb => by subst hb; exact a_move_row (lq rfl) rfl) ?_
    refine dat (.d (di v9)) rfl (fun hb => by subst hb; exact a_move_d (lq rfl) rfl) ?_
    refine dat (.d (di (wi (v9 - 1)))) rfl (fun hb => by subst hb; exact m_sub (lq rfl) rfl rfl) ?_
    obtain ⟨t30, ht30, hsy2'⟩ := bE hsy2; clear hsy2
    refine dat (.wp 3000 ((wi (v9 - 1)).toNat * eI.size)) rfl (fun hb => by subst hb; exact m_indexW (en := eI) (l := r3000) (lq rfl) S30 rfl rfl rfl ht30) ?_
    refine dat (.d (di t30)) rfl (fun hb => by subst hb; exact m_loadW (en := eI) (l := r3000) (i := (wi (v9 - 1))) (v := t30) (lq rfl) O3 rfl rfl ht30 rfl) ?_
    obtain ⟨t32, ht32, hsy2⟩ := bE hsy2'; clear hsy2'
    refine dat (.d (di t32)) rfl (fun hb => by subst hb; exact a_callF (lq rfl) rfl rfl (hf3 _ _ _ ht32)) ?_
    refine dat (.d (db (decide (t32 < 0)))) rfl (fun hb => by subst hb; exact a_lss (lq rfl) rfl rfl) ?_
    refine q33 ?_
    refine da_nil ?_
    refine avc_if rfl ⟨fun c2 => ?_, fun c2 => ?_⟩
    ·
     replace hsy2 := cT c2 hsy2
     refine avc_skip <| avc_sq2 <| avc_block ?_
     obtain ⟨t45, ht45, hsy2'⟩ := bE hsy2; clear hsy2
     obtain ⟨t49, ht49, hsy2⟩ := bE hsy2'; clear hsy2'
     obtain ⟨t51, ht51, hsy2'⟩ := bE hsy2; clear hsy2
     obtain ⟨r3000_6x15, hr3000_6x15, hsy2⟩ := bE hsy2'; clear hsy2'
     obtain ⟨t52, ht52, hsy2'⟩ := bE hsy2; clear hsy2
     obtain ⟨r3000_6x17, hr3000_6x17, hsy2⟩ := bE hsy2'; clear hsy2'
     refine avc_tail (e := .normal) (S2 := ⟨[(0, .row 3000), (1, .d (di a1)), (2, .d (di a2)), (3, .d fv3), (8, .d (di v8)), (9, .d (di v9))], [(3000, .win 3 eI.size 0 (eI.all r3000_6x17))]⟩) ?_ ?_
     ·
      refine avc_any MX ?_
      refine any_move (i := 0) rfl (lq rfl) rfl rfl rfl rfl ?_
      refine any_move (i := 1) rfl (lq rfl) rfl rfl rfl rfl ?_
      refine any_move (i := 2) rfl (lq rfl) rfl rfl rfl rfl ?_
      refine any_move (i := 3) rfl (lq rfl) rfl rfl rfl rfl ?_
      refine any_sub (i := 4) rfl (lq rfl) rfl rfl rfl rfl rfl rfl ?_
      refine any_move (i := 5) rfl (lq rfl) rfl rfl rfl rfl ?_
      refine any_move (i := 6) rfl (lq rfl) rfl rfl rfl rfl ?_
      refine any_sub (i := 7) rfl (lq rfl) rfl rfl rfl rfl rfl rfl ?_
      refine any_move (i := 10) rfl (lq rfl) rfl rfl rfl rfl ?_
      refine any_move (i := 11) rfl (lq rfl) rfl rfl rfl rfl ?_
      refine xn [8,12] ?_
      refine xa rfl (m_indexW (en := eI) (l := r3000) (lq rfl) S30 rfl rfl rfl ht45) ?_ ?_
      ·
       refine xn [9,12] ?_
       refine xa rfl (m_loadW (en := eI) (l := r3000) (i := (wi (v9 - 1))) (v := t45) (lq rfl) O3 rfl rfl ht45 rfl) ?_ ?_
       ·
        refine xn [12] ?_
        refine xc rfl (m_indexW (en := eI) (l := r3000) (lq rfl) S30 rfl rfl rfl ht49) ?_
        refine xn [13] ?_
        refine xc rfl (m_loadW (en := eI) (l := r3000) (i := v9) (v := t49) (lq rfl) O3 rfl rfl ht49 rfl) ?_
        refine xn [14] ?_
        refine xc rfl (m_indexW (en := eI) (l := r3000) (lq rfl) S30 rfl rfl rfl ht51) ?_
        refine xn [15] ?_
        refine xd rfl (m_storeW (en := eI) (l := r3000) (i := v9) (v := t45) O3 rfl rfl rfl ht51 hr3000_6x15 rfl rfl rfl rfl) ?_
        refine xn [16] ?_
        refine xc rfl (m_indexW (en := eI) (l := r3000_6x15) (lq rfl) S30 rfl rfl rfl ht52) ?_
        refine xn [17] ?_
        refine xd rfl (m_storeW (en := eI) (l := r3000_6x15) (i := (wi (v9 - 1))) (v := t49) O3 rfl rfl rfl ht52 hr3000_6x17 rfl rfl rfl rfl) ?_
        exact any_end rfl (out_mk (wc))
       refine xc rfl (m_indexW (en := eI) (l := r3000) (lq rfl) S30 rfl rfl rfl ht49) ?_
       refine xn [9,13] ?_
       refine xa rfl (m_loadW (en := eI) (l := r3000) (i := (wi (v9 - 1))) (v := t45) (lq rfl) O3 rfl rfl ht45 rfl) ?_ ?_
       ·
        refine xn [13] ?_
        refine xc rfl (m_loadW (en := eI) (l := r3000) (i := v9) (v := t49) (lq rfl) O3 rfl rfl ht49 rfl) ?_
        refine xn [14] ?_
        refine xc rfl (m_indexW (en := eI) (l := r3000) (lq rfl) S30 rfl rfl rfl ht51) ?_
        refine xn [15] ?_
        refine xd rfl (m_storeW (en := eI) (l := r3000) (i := v9) (v := t45) O3 rfl rfl rfl ht51 hr3000_6x15 rfl rfl rfl rfl) ?_
        refine xn [16] ?_
        refine xc rfl (m_indexW (en := eI) (l := r3000_6x15) (lq rfl) S30 rfl rfl rfl ht52) ?_
        refine xn [17] ?_
        refine xd rfl (m_storeW (en := eI) (l := r3000_6x15) (i := (wi (v9 - 1))) (v := t49) O3 rfl rfl rfl ht52 hr3000_6x17 rfl rfl rfl rfl) ?_
        exact any_end rfl (out_mk (wc))
       refine xc rfl (m_loadW (en := eI) (l := r3000) (i := v9) (v := t49) (lq rfl) O3 rfl rfl ht49 rfl) ?_
       refine xn [9] ?_
       refine xc rfl (m_loadW (en := eI) (l := r3000) (i := (wi (v9 - 1))) (v := t45) (lq rfl) O3 rfl rfl ht45 rfl) ?_
       refine xn [14] ?_
       refine xc rfl (m_indexW (en := eI) (l := r3000) (lq rfl) S30 rfl rfl rfl ht51) ?_
       refine xn [15] ?_
       refine xd rfl (m_storeW (en := eI) (l := r3000) (i := v9) (v := t45) O3 rfl rfl rfl ht51 hr3000_6x15 rfl rfl rfl rfl) ?_
       refine xn [16] ?_
       refine xc rfl (m_indexW (en := eI) (l := r3000_6x15) (lq rfl) S30 rfl rfl rfl ht52) ?_
       refine xn [17] ?_
       refine xd rfl (m_storeW (en := eI) (l := r3000_6x15) (i := (wi (v9 - 1))) (v := t49) O3 rfl rfl rfl ht52 hr3000_6x17 rfl rfl rfl rfl) ?_
       exact any_end rfl (out_mk (wc))
      refine xc rfl (m_indexW (en := eI) (l := r3000) (lq rfl) S30 rfl rfl rfl ht49) ?_
      refine xn [8,13] ?_
      refine xa rfl (m_indexW (en := eI) (l := r3000) (lq rfl) S30 rfl rfl rfl ht45) ?_ ?_
      ·
       refine xn [9,13] ?_
       refine xa rfl (m_loadW (en := eI) (l := r3000) (i := (wi (v9 - 1))) (v := t45) (lq rfl) O3 rfl rfl ht45 rfl) ?_ ?_
       ·
        refine xn [13] ?_
        refine xc rfl (m_loadW (en := eI) (l := r3000) (i := v9) (v := t49) (lq rfl) O3 rfl rfl ht49 rfl) ?_
        refine xn [14] ?_
        refine xc rfl (m_indexW (en := eI) (l := r3000) (lq rfl) S30 rfl rfl rfl ht51) ?_
        refine xn [15] ?_
        refine xd rfl (m_storeW (en := eI) (l := r3000) (i := v9) (v := t45) O3 rfl rfl rfl ht51 hr3000_6x15 rfl rfl rfl rfl) ?_
        refine xn [16] ?_
        refine xc rfl (m_indexW (en := eI) (l := r3000_6x15) (lq rfl) S30 rfl rfl rfl ht52) ?_
        refine xn [17] ?_
        refine xd rfl (m_storeW (en := eI) (l := r3000_6x15) (i := (wi (v9 - 1))) (v := t49) O3 rfl rfl rfl ht52 hr3000_6x17 rfl rfl rfl rfl) ?_
        exact any_end rfl (out_mk (wc))
       refine xc rfl (m_loadW (en := eI) (l := r3000) (i := v9) (v := t49) (lq rfl) O3 rfl rfl ht49 rfl) ?_
       refine xn [9] ?_
       refine xc rfl (m_loadW (en := eI) (l := r3000) (i := (wi (v9 - 1))) (v := t45) (lq rfl) O3 rfl rfl ht45 rfl) ?_
       refine xn [14] ?_
       refine xc rfl (m_indexW (en := eI) (l := r3000) (lq rfl) S30 rfl rfl rfl ht51) ?_
       refine xn [15] ?_
       refine xd rfl (m_storeW (en := eI) (l := r3000) (i := v9) (v := t45) O3 rfl rfl rfl ht51 hr3000_6x15 rfl rfl rfl rfl) ?_
       refine xn [16] ?_
       refine xc rfl (m_indexW (en := eI) (l := r3000_6x15) (lq rfl) S30 rfl rfl rfl ht52) ?_
       refine xn [17] ?_
       refine xd rfl (m_storeW (en := eI) (l := r3000_6x15) (i := (wi (v9 - 1))) (v := t49) O3 rfl rfl rfl ht52 hr3000_6x17 rfl rfl rfl rfl) ?_
       exact any_end rfl (out_mk (wc))
      refine xc rfl (m_loadW (en := eI) (l := r3000) (i := v9) (v := t49) (lq rfl) O3 rfl rfl ht49 rfl) ?_
      refine xn [8] ?_
      refine xc rfl (m_indexW (en := eI) (l := r3000) (lq rfl) S30 rfl rfl rfl ht45) ?_
      refine xn [9] ?_
      refine xc rfl (m_loadW (en := eI) (l := r3000) (i := (wi (v9 - 1))) (v := t45) (lq rfl) O3 rfl rfl ht45 rfl) ?_
      refine xn [14] ?_
      refine xc rfl (m_indexW (en := eI) (l := r3000) (lq rfl) S30 rfl rfl rfl ht51) ?_
      refine xn [15] ?_
      refine xd rfl (m_storeW (en := eI) (l := r3000) (i := v9) (v := t45) O3 rfl rfl rfl ht51 hr3000_6x15 rfl rfl rfl rfl) ?_
      refine xn [16] ?_
      refine xc rfl (m_indexW (en := eI) (l := r3000_6x15) (lq rfl) S30 rfl rfl rfl ht52) ?_
      refine xn [17] ?_
      refine xd rfl (m_storeW (en := eI) (l := r3000_6x15) (i := (wi (v9 - 1))) (v := t49) O3 rfl rfl rfl ht52 hr3000_6x17 rfl rfl rfl rfl) ?_
      exact any_end rfl (out_mk (wc))
     refine avc_sq <| q0 ?_
     refine q16 ?_
     refine q1 ?_
     refine sq_nil ?_
     cases hsy2
     exact wc
    ·
     replace hsy2 := cF c2 hsy2
     refine avc_exit ?_
     cases hsy2
     intro q; cases q
     exact out_mk (wc)
   ·
    refine avc_sq <| q0 ?_
    refine q2 ?_
    refine q1 ?_
    refine sq_nil ?_
    cases hsy1'
    exact wc
  ·
   replace hsy1 := cF c1 hsy1
   refine avc_exit ?_
   cases hsy1
   intro q; cases q
   exact out_mk (wc)
 ·
  cases h'
  exact ⟨rfl, ⟨rfl, trivial⟩⟩
set_option maxHeartbeats 8000000 in
theorem slices_swapRangeCmpFunc_int_g {fv4 : DV} {a0 : (List Int)} {a1 : Int} {a2 : Int} {a3 : Int} {a4 : Int → Int → Option (Int)} (hf4 : ∀ x0 x1 y, a4 x0 x1 = some y → FnC Tryd.prog fv4 [(di x0), (di x1)] [(di y)]) {r : (List Int)} (h : slices_swapRangeCmpFunc_int a0 a1 a2 a3 a4 = some r) : GC Tryd.prog 100 [.row 3000, .d (di a1), .d (di a2), .d (di a3), .d fv4] [(3000, .win 3 eI.size 0 (eI.all a0))] [3000] [] [(3000, .win 3 eI.size 0 (eI.all r))] := by
 refine gc_of Tryd.func100 (by kernel_rfl) rfl (lq rfl) (lq rfl) fun w0 I0 hG0 p0 => ?_
 unfold slices_swapRangeCmpFunc_int at h
 refine avc_sq2 <| avc_sq <| q1 ?_
 refine sq_nil <| avc_block ?_
 obtain ⟨y1, hy1, h'⟩ := bE h; clear h
 refine avc_tail (e := (.exit 0)) (S2 := ⟨[(0, .row 3000)], [(3000, .win 3 eI.size 0 (eI.all y1))]⟩) ?_ ?_
 ·
  refine avc_loopM (fun x => ⟨[(0, .row 3000), (1, .d (di a1)), (2, .d (di a2)), (3, .d (di a3)), (10, .d (di x.1))], [(3000, .win 3 eI.size 0 (eI.all x.2))]⟩) hy1 (wc) ?_
  rintro ⟨v10, r3000⟩ sy1 hsy1
  replace hsy1 : slices_swapRangeCmpFunc_int_L0 a3 a2 a1 v10 r3000 = some sy1 := hsy1
  unfold slices_swapRangeCmpFunc_int_L0 at hsy1
  refine avc_sq2 <| avc_sq2 <| avc_sq <| q0 ?_
  refine q0 ?_
  refine q5 ?_
  refine sq_nil ?_
  refine avc_if rfl ⟨fun c1 => ?_, fun c1 => ?_⟩
  ·
   replace hsy1 := cT c1 hsy1
   refine avc_skip <| avc_sq2 <| avc_block ?_
   obtain ⟨t28, ht28, hsy1'⟩ := bE hsy1; clear hsy1
   obtain ⟨t34, ht34, hsy1⟩ := bE hsy1'; clear hsy1'
   obtain ⟨t36, ht36, hsy1'⟩ := bE hsy1; clear hsy1
   obtain ⟨r3000_3x21, hr3000_3x21, hsy1⟩ := bE hsy1'; clear hsy1'
   obtain ⟨t37, ht37, hsy1'⟩ := bE hsy1; clear hsy1
   obtain ⟨r3000_3x23, hr3000_3x23, hsy1⟩ := bE hsy1'; clear hsy1'
   refine avc_tail (e := .normal) (S2 := ⟨[(0, .row 3000), (1, .d (di a1)), (2, .d (di a2)), (3, .d (di a3)), (10, .d (di v10))], [(3000, .win 3 eI.size 0 (eI.all r3000_3x23))]⟩) ?_ ?_
   ·
    refine avc_any MX ?_
    refine any_move (i := 0) rfl (lq rfl) rfl rfl rfl rfl ?_
    refine any_move (i := 1) rfl (lq rfl) rfl rfl rfl rfl ?_
    refine any_move (i := 2) rfl (lq rfl) rfl rfl rfl rfl ?_
    refine any_add (i := 3) rfl (lq rfl) rfl rfl rfl rfl rfl rfl ?_
    refine any_move (i := 4) rfl (lq rfl) rfl rfl rfl rfl ?_
    refine any_move (i := 5) rfl (lq rfl) rfl rfl rfl rfl ?_
    refine any_move (i := 6) rfl (lq rfl) rfl rfl rfl rfl ?_
    refine any_add (i := 7) rfl (lq rfl) rfl rfl rfl rfl rfl rfl ?_
    refine any_move (i := 8) rfl (lq rfl) rfl rfl rfl rfl ?_
    refine any_move (i := 9) rfl (lq rfl) rfl rfl rfl rfl ?_
    refine any_move (i := 10) rfl (lq rfl) rfl rfl rfl rfl ?_
    refine any_add (i := 11) rfl (lq rfl) rfl rfl rfl rfl rfl rfl ?_
    refine any_move (i := 14) rfl (lq rfl) rfl rfl rfl rfl ?_
    refine any_move (i := 15) rfl (lq rfl) rfl rfl rfl rfl ?_
    refine any_move (i := 16) rfl (lq rfl) rfl rfl rfl rfl ?_
    refine any_add (i := 17) rfl (lq rfl) rfl rfl rfl rfl rfl rfl ?_
    refine xn [12,18] ?_
    refine xa rfl (m_indexW (en := eI) (l := r3000) (lq rfl) S30 rfl rfl rfl ht28) ?_ ?_
    ·
     refine xn [13,18] ?_
     refine xa rfl (m_loadW (en := eI) (l := r3000) (i := (wi (a2 + v10))) (v := t28) (lq rfl) O3 rfl rfl ht28 rfl) ?_ ?_
     ·
      refine xn [18] ?_
      refine xc rfl (m_indexW (en := eI) (l := r3000) (lq rfl) S30 rfl rfl rfl ht34) ?_
      refine xn [19] ?_
      refine xc rfl (m_loadW (en := eI) (l := r3000) (i := (wi (a1 + v10))) (v := t34) (lq rfl) O3 rfl rfl ht34 rfl) ?_
      refine xn [20] ?_
      refine xc rfl (m_indexW (en := eI) (l := r3000) (lq rfl) S30 rfl rfl rfl ht36) ?_
      refine xn [21] ?_
      refine xd rfl (m_storeW (en := eI) (l := r3000) (i := (wi (a1 + v10))) (v := t28) O3 rfl rfl rfl ht36 hr3000_3x21 rfl rfl rfl rfl) ?_
      refine xn [22] ?_
      refine xc rfl (m_indexW (en := eI) (l := r3000_3x21) (lq rfl) S30 rfl rfl rfl ht37) ?_
      refine xn [23] ?_
      refine xd rfl (m_storeW (en := eI) (l := r3000_3x21) (i := (wi (a2 + v10))) (v := t34) O3 rfl rfl rfl ht37 hr3000_3x23 rfl rfl rfl rfl) ?_
      exact any_end rfl (out_mk (wc))
     refine xc rfl (m_indexW (en := eI) (l := r3000) (lq rfl) S30 rfl rfl rfl ht34) ?_
     refine xn [13,19] ?_
     refine xa rfl (m_loadW (en := eI) (l := r3000) (i := (wi (a2 + v10))) (v := t28) (lq rfl) O3 rfl rfl ht28 rfl) ?_ ?_
     ·
      refine xn [19] ?_
      refine xc rfl (m_loadW (en := eI) (l := r3000) (i := (wi (a1 + v10))) (v := t34) (lq rfl) O3 rfl rfl ht34 rfl) ?_
      refine xn [20] ?_
      refine xc rfl (m_indexW (en := eI) (l := r3000) (lq rfl) S30 rfl rfl rfl ht36) ?_
      refine xn [21] ?_
      refine xd rfl (m_storeW (en := eI) (l := r3000) (i := (wi (a1 + v10))) (v := t28) O3 rfl rfl rfl ht36 hr3000_3x21 rfl rfl rfl rfl) ?_
      refine xn [22] ?_
      refine xc rfl (m_indexW (en := eI) (l := r3000_3x21) (lq rfl) S30 rfl rfl rfl ht37) ?_
      refine xn [23] ?_
      refine xd rfl (m_storeW (en := eI) (l := r3000_3x21) (i := (wi (a2 + v10))) (v := t34) O3 rfl rfl rfl ht37 hr3000_3x23 rfl rfl rfl rfl) ?_
      exact any_end rfl (out_mk (wc))
     refine xc rfl (m_loadW (en := eI) (l := r3000) (i := (wi (a1 + v10))) (v := t34) (lq rfl) O3 rfl rfl ht34 rfl) ?_
     refine xn [13] ?_
     refine xc rfl (m_loadW (en := eI) (l := r3000) (i := (wi (a2 + v10))) (v := t28) (lq rfl) O3 rfl rfl ht28 rfl) ?_
     refine xn [20] ?_
     refine xc rfl (m_indexW (en := eI) (l := r3000) (lq rfl) S30 rfl rfl rfl ht36) ?_
     refine xn [21] ?_
     refine xd rfl (m_storeW (en := eI) (l := r3000) (i := (wi (a1 + v10))) (v := t28) O3 rfl rfl rfl ht36 hr3000_3x21 rfl rfl rfl rfl) ?_
     refine xn [22] ?_
     refine xc rfl (m_indexW (en := eI) (l := r3000_3x21) (lq rfl) S30 rfl rfl rfl ht37) ?_
     refine xn [23] ?_
     refine xd rfl (m_storeW (en := eI) (l := r3000_3x21) (i := (wi (a2 + v10))) (v := t34) O3 rfl rfl rfl ht37 hr3000_3x23 rfl rfl rfl rfl) ?_
     exact any_end rfl (out_mk (wc))
    refine xc rfl (m_indexW (en := eI) (l := r3000) (lq rfl) S30 rfl rfl rfl ht34) ?_
    refine xn [12,19] ?_
    refine xa rfl (m_indexW (en := eI) (l := r3000) (lq rfl) S30 rfl rfl rfl ht28) ?_ ?_
    ·
     refine xn [13,19] ?_
     refine xa rfl (m_loadW (en := eI) (l := r3000) (i := (wi (a2 + v10))) (v := t28) (lq rfl) O3 rfl rfl ht28 rfl) ?_ ?_
     ·
      refine xn [19] ?_
      refine xc rfl (m_loadW (en := eI) (l := r3000) (i := (wi (a1 + v10))) (v := t34) (lq rfl) O3 rfl rfl ht34 rfl) ?_
      refine xn [20] ?_
      refine xc rfl (m_indexW (en := eI) (l := r3000) (lq rfl) S30 rfl rfl rfl ht36) ?_
      refine xn [21] ?_
      refine xd rfl (m_storeW (en := eI) (l := r3000) (i := (wi (a1 + v10))) (v := t28) O3 rfl rfl rfl ht36 hr3000_3x21 rfl rfl rfl rfl) ?_
      refine xn [22] ?_
      refine xc rfl (m_indexW (en := eI) (l := r3000_3x21) (lq rfl) S30 rfl rfl rfl ht37) ?_
      refine xn [23] ?_
      refine xd rfl (m_storeW (en := eI) (l := r3000_3x21) (i := (wi (a2 + v10))) (v := t34) O3 rfl rfl rfl ht37 hr3000_3x23 rfl rfl rfl rfl) ?_
      exact any_end rfl (out_mk (wc))
     refine xc rfl (m_loadW (en := eI) (l := r3000) (i := (wi (a1 + v10))) (v := t34) (lq rfl) O3 rfl rfl ht34 rfl) ?_
     refine xn [13] ?_
     refine xc rfl (m_loadW (en := eI) (l := r3000) (i := (wi (a2 + v10))) (v := t28) (lq rfl) O3 rfl rfl ht28 rfl) ?_
     refine xn [20] ?_
     refine xc rfl (m_indexW (en := eI) (l := r3000) (lq rfl) S30 rfl rfl rfl ht36) ?_
     refine xn [21] ?_
     refine xd rfl (m_storeW (en := eI) (l := r3000) (i := (wi (a1 + v10))) (v := t28) O3 rfl rfl rfl ht36 hr3000_3x21 rfl rfl rfl rfl) ?_
     refine xn [22] ?_
     refine xc rfl (m_indexW (en := eI) (l := r3000_3x21) (lq rfl) S30 rfl rfl rfl ht37) ?_
     refine xn [23] ?_
     refine xd rfl (m_storeW (en := eI) (l := r3000_3x21) (i := (wi (a2 + v10))) (v := t34) O3 rfl rfl rfl ht37 hr3000_3x23 rfl rfl rfl rfl) ?_
     exact any_end rfl (out_mk (wc))
    refine xc rfl (m_loadW (en := eI) (l := r3000) (i := (wi (a1 + v10))) (v := t34) (lq rfl) O3 rfl rfl ht34 rfl) ?_
    refine xn [12] ?_
    refine xc rfl (m_indexW (en := eI) (l := r3000) (lq rfl) S30 rfl rfl rfl ht28) ?_
    refine xn [13] ?_
    refine xc rfl (m_loadW (en := eI) (l := r3000) (i := (wi (a2 + v10))) (v := t28) (lq rfl) O3 rfl rfl ht28 rfl) ?_
    refine xn [20] ?_
    refine xc rfl (m_indexW (en := eI) (l := r3000) (lq rfl) S30 rfl rfl rfl ht36) ?_
    refine xn [21] ?_
    refine xd rfl (m_storeW (en := eI) (l := r3000) (i := (wi (a1 + v10))) (v := t28) O3 rfl rfl rfl ht36 hr3000_3x21 rfl rfl rfl rfl) ?_
    refine xn [22] ?_
    refine xc rfl (m_indexW (en := eI) (l := r3000_3x21) (lq rfl) S30 rfl rfl rfl ht37) ?_
    refine xn [23] ?_
    refine xd rfl (m_storeW (en := eI) (l := r3000_3x21) (i := (wi (a2 + v10))) (v := t34) O3 rfl rfl rfl ht37 hr3000_3x23 rfl rfl rfl rfl) ?_
    exact any_end rfl (out_mk (wc))
   refine avc_sq <| q0 ?_
   refine q2 ?_
   refine q1 ?_
   refine sq_nil ?_
   cases hsy1
   exact wc
  ·
   replace hsy1 := cF c1 hsy1
   refine avc_exit ?_
   cases hsy1
   intro q; cases q
   exact out_mk (wc)
 ·
  cases h'
  exact ⟨rfl, ⟨rfl, trivial⟩⟩
theorem slices_rotateCmpFunc_int_g {fv4 : DV} {a0 : (List Int)} {a1 : Int} {a2 : Int} {a3 : Int} {a4 : Int → Int → Option (Int)} (hf4 : ∀ x0 x1 y, a4 x0 x1 = some y → FnC Tryd.prog fv4 [(di x0), (di x1)] [(di y)]) {r : (List Int)} (h : slices_rotateCmpFunc_int a0 a1 a2 a3 a4 = some r) : GC Tryd.prog 96 [.row 3000, .d (di a1), .d (di a2), .d (di a3), .d fv4] [(3000, .win 3 eI.size 0 (eI.all a0))] [3000] [] [(3000, .win 3 eI.size 0 (eI.all r))] := by
 refine gc_of Tryd.func96 (by kernel_rfl) rfl (lq rfl) (lq rfl) fun w0 I0 hG0 p0 => ?_
 unfold slices_rotateCmpFunc_int at h
 refine avc_sq2 <| avc_sq <| q0 ?_
 refine q0 ?_
 refine q16 ?_
 refine q1 ?_
 refine sq_nil <| avc_sq2 <| avc_sq <| q0 ?_
 refine q0 ?_
 refine q16 ?_
 refine q1 ?_
 refine sq_nil <| avc_sq2 <| avc_block ?_
 obtain ⟨y1, hy1, h'⟩ := bE h; clear h
 refine avc_tail (e := (.exit 0)) (S2 := ⟨[(0, .row 3000), (2, .d (di a2)), (4, .d fv4), (10, .d (di y1.1))], [(3000, .win 3 eI.size 0 (eI.all y1.2))]⟩) ?_ ?_
 ·
  refine avc_loopM (fun x => ⟨[(0, .row 3000), (2, .d (di a2)), (4, .d fv4), (10, .d (di x.1)), (11, .d (di x.2.1))], [(3000, .win 3 eI.size 0 (eI.all x.2.2))]⟩) hy1 (wc) ?_
  rintro ⟨v10, v11, r3000⟩ sy1 hsy1
  replace hsy1 : slices_rotateCmpFunc_int_L0 a2 a4 v10 v11 r3000 = some sy1 := hsy1
  unfold slices_rotateCmpFunc_int_L0 at hsy1
  refine avc_sq2 <| avc_sq2 <| avc_sq <| q0 ?_
  refine q0 ?_
  refine q20 ?_
  refine sq_nil ?_
  refine avc_if rfl ⟨fun c1 => ?_, fun c1 => ?_⟩
  ·
   replace hsy1 := cT c1 hsy1
   refine avc_skip ?_
   obtain ⟨y2, hy2, hsy1'⟩ := bE hsy1; clear hsy1
   refine avc_tail (e := .normal) (S2 := ⟨[(0, .row 3000), (2, .d (di a2)), (4, .d fv4), (10, .d (di y2.1)), (11, .d (di y2.2.1))], [(3000, .win 3 eI.size 0 (eI.all y2.2.2))]⟩) ?_ ?_
   ·
    refine avc_block <| avc_sq2 <| avc_sq <| q0 ?_
    refine q0 ?_
    refine q21 ?_
    refine sq_nil ?_
    refine avc_if rfl ⟨fun c2 => ?_, fun c2 => ?_⟩
    ·
     replace hy2 := cT c2 hy2
     refine avc_sq2 <| avc_sq <| q7 ?_
     refine q0 ?_
     refine q0 ?_
     refine q16 ?_
     refine q0 ?_
     refine q0 ?_
     refine q0 ?_
     obtain ⟨t31, ht31, hy2'⟩ := bE hy2; clear hy2
     refine sq_b rfl (g_callN [(3000, 3000)] (slices_swapRangeCmpFunc_int_g hf4 ht31) (lq rfl) (by decide) ⟨rfl, rfl, rfl, rfl, rfl, trivial⟩ rfl rfl ⟨rfl, trivial⟩ rfl rfl rfl rfl) ?_
     refine sq_nil <| avc_sq <| q0 ?_
     refine q0 ?_
     refine q16 ?_
     refine q1 ?_
     refine sq_nil ?_
     cases hy2'
     exact out_mk (wc)
    ·
     replace hy2 := cF c2 hy2
     refine avc_sq2 <| avc_sq <| q7 ?_
     refine q0 ?_
     refine q0 ?_
     refine q16 ?_
     refine q0 ?_
     refine q0 ?_
     refine q2 ?_
     refine q0 ?_
     refine q16 ?_
     refine q0 ?_
     refine q0 ?_
     obtain ⟨t46, ht46, hy2'⟩ := bE hy2; clear hy2
     refine sq_b rfl (g_callN [(3000, 3000)] (slices_swapRangeCmpFunc_int_g hf4 ht46) (lq rfl) (by decide) ⟨rfl, rfl, rfl, rfl, rfl, trivial⟩ rfl rfl ⟨rfl, trivial⟩ rfl rfl rfl rfl) ?_
     refine sq_nil <| avc_sq <| q0 ?_
     refine q0 ?_
     refine q16 ?_
     refine q1 ?_
     refine sq_nil ?_
     cases hy2'
     exact out_mk (wc)
   ·
    cases hsy1'
    exact wc
  ·
   replace hsy1 := cF c1 hsy1
   refine avc_exit ?_
   cases hsy1
   intro q; cases q
   exact out_mk (wc)
 ·
  refine avc_sq <| q7 ?_
  refine q0 ?_
  refine q0 ?_
  refine q16 ?_
  refine q0 ?_
  refine q0 ?_
  refine q0 ?_
  obtain ⟨t57, ht57, h⟩ := bE h'; clear h'
  refine sq_b rfl (g_callN [(3000, 3000)] (slices_swapRangeCmpFunc_int_g hf4 ht57) (lq rfl) (by decide) ⟨rfl, rfl, rfl, rfl, rfl, trivial⟩ rfl rfl ⟨rfl, trivial⟩ rfl rfl rfl rfl) ?_
  refine sq_nil ?_
  cases h
  exact ⟨rfl, ⟨rfl, trivial⟩⟩
set_option maxHeartbeats 8000000 in
theorem slices_symMergeCmpFunc_int_g : ∀ (n : Nat) {fv4 : DV} {a0 : (List Int)} {a1 : Int} {a2 : Int} {a3 : Int} {a4 : Int → Int → Option (Int)} (hf4 : ∀ x0 x1 y, a4 x0 x1 = some y → FnC Tryd.prog fv4 [(di x0), (di x1)] [(di y)]) {r : (List Int)} (h : slices_symMergeCmpFunc_int n a0 a1 a2 a3 a4 = some r), GC Tryd.prog 89 [.row 3000, .d (di a1), .d (di a2), .d (di a3), .d fv4] [(3000, .win 3 eI.size 0 (eI.all a0))] [3000] [] [(3000, .win 3 eI.size 0 (eI.all r))] := by
 intro n
 induction n with
 | zero => intro fv4 a0 a1 a2 a3 a4 hf4 r h; cases h
 | succ n ih =>
 intro fv4 a0 a1 a2 a3 a4 hf4 r h
 replace h : slices_symMergeCmpFunc_int_B (slices_symMergeCmpFunc_int n) a0 a1 a2 a3 a4 = some r := h
 generalize slices_symMergeCmpFunc_int n = rec at h ih
 refine gc_of Tryd.func89 (by kernel_rfl) rfl (lq rfl) (lq rfl) fun w0 I0 hG0 p0 => ?_
 unfold slices_symMergeCmpFunc_int_B at h
 refine avc_sq2 <| avc_sq2 <| avc_sq <| q0 ?_
 refine q0 ?_
 refine q16 ?_
 refine q23 ?_
 refine sq_nil ?_
 refine avc_if rfl ⟨fun c1 => ?_, fun c1 => ?_⟩
 ·
  replace h := cT c1 h
  refine avc_sq2 <| avc_sq <| q0 ?_
  refine q1 ?_
  refine sq_nil <| avc_sq2 <| avc_sq <| q0 ?_
  refine q1 ?_
  refine sq_nil <| avc_sq2 <| avc_block ?_
  obtain ⟨y1, hy1, h'⟩ := bE h; clear h
  refine avc_tail (e := (.exit 0)) (S2 := ⟨[(0, .row 3000), (1, .d (di a1)), (10, .d (di y1))], [(3000, .win 3 eI.size 0 (eI.all a0))]⟩) ?_ ?_
  ·
   refine avc_loopM (fun x => ⟨[(0, .row 3000), (1, .d (di a1)), (4, .d fv4), (10, .d (di x.1)), (11, .d (di x.2))], [(3000, .win 3 eI.size 0 (eI.all a0))]⟩) hy1 (wc) ?_
   rintro ⟨v10, v11⟩ sy1 hsy1
   replace hsy1 : slices_symMergeCmpFunc_int_L0 a0 a1 a4 v10 v11 = some sy1 := hsy1
   unfold slices_symMergeCmpFunc_int_L0 at hsy1
   refine avc_sq2 <| avc_sq2 <| avc_sq <| q0 ?_
   refine q0 ?_
   refine q5 ?_
   refine sq_nil ?_
   refine avc_if rfl ⟨fun c2 => ?_, fun c2 => ?_⟩
   ·
    replace hsy1 := cT c2 hsy1
    refine avc_skip ?_
    obtain ⟨y2, hy2, hsy1'⟩ := bE hsy1; clear hsy1
    refine avc_tail (e := .normal) (S2 := ⟨[(0, .row 3000), (1, .d (di a1)), (4, .d fv4), (10, .d (di y2.1)), (11, .d (di y2.2))], [(3000, .win 3 eI.size 0 (eI.all a0))]⟩) ?_ ?_
    ·
     refine avc_block <| avc_sq2 <| avc_sq <| q0 ?_
     refine q0 ?_
     refine q2 ?_
     refine q19 Tryd.underlying3 Tryd.underlying132 ?_
     refine sqa (a_shr (m := 1) (lq rfl) rfl rfl (by decide)) ?_
     refine q19 Tryd.underlying132 Tryd.underlying3 ?_
     refine q1 ?_
     refine sq_nil <| avc_sq2 ?_
     refine avc_drawA MX rfl ?_
     refine q6 ?_
     refine q29 ?_
     refine q6 ?_
     obtain ⟨t43, ht43, hy2'⟩ := bE hy2; clear hy2
     refine daa (m_indexW (en := eI) (l := a0) (lq rfl) S30 rfl rfl rfl ht43) ?_
     refine daa (m_loadW (en := eI) (l := a0) (i := (wi ((wu (wi (v10 + v11))) / 2 ^ 1))) (v := t43) (lq rfl) O3 rfl rfl ht43 rfl) ?_
     refine q29 ?_
     refine q6 ?_
     obtain ⟨t47, ht47, hy2⟩ := bE hy2'; clear hy2'
     refine daa (m_indexW (en := eI) (l := a0) (lq rfl) S30 rfl rfl rfl ht47) ?_
     refine daa (m_loadW (en := eI) (l := a0) (i := a1) (v := t47) (lq rfl) O3 rfl rfl ht47 rfl) ?_
     obtain ⟨t49, ht49, hy2'⟩ := bE hy2; clear hy2
     refine daa (a_callF (lq rfl) rfl rfl (hf4 _ _ _ ht49)) ?_
     refine q48 ?_
     refine da_nil ?_
     refine avc_if rfl ⟨fun c3 => ?_, fun c3 => ?_⟩
     ·
      replace hy2' := cT c3 hy2'
      refine avc_sq <| q0 ?_
      refine q2 ?_
      refine q1 ?_
      refine sq_nil ?_
      cases hy2'
      exact out_mk (wc)
     ·
      replace hy2' := cF c3 hy2'
      refine avc_sq <| q0 ?_
      refine q1 ?_
      refine sq_nil ?_
      cases hy2'
      exact out_mk (wc)
    ·
     cases hsy1'
     exact wc
   ·
    replace hsy1 := cF c2 hsy1
    refine avc_exit ?_
    cases hsy1
    intro q; cases q
    exact out_mk (wc)
  ·
   refine avc_sq2 <| avc_sq2 <| avc_sq <| q0 ?_
   refine q1 ?_
   refine sq_nil <| avc_block ?_
   obtain ⟨y3, hy3, h⟩ := bE h'; clear h'
   refine avc_tail (e := (.exit 2)) (S2 := ⟨[(0, .row 3000)], [(3000, .win 3 eI.size 0 (eI.all y3))]⟩) ?_ ?_
   ·
    refine avc_loopM (fun x => ⟨[(0, .row 3000), (10, .d (di y1)), (13, .d (di x.1))], [(3000, .win 3 eI.size 0 (eI.all x.2))]⟩) hy3 (wc) ?_
    rintro ⟨v13, r3000⟩ sy3 hsy3
    replace hsy3 : slices_symMergeCmpFunc_int_L1 y1 v13 r3000 = some sy3 := hsy3
    unfold slices_symMergeCmpFunc_int_L1 at hsy3
    refine avc_sq2 <| avc_sq2 <| avc_sq <| q0 ?_
    refine q0 ?_
    refine q16 ?_
    refine q5 ?_
    refine sq_nil ?_
    refine avc_if rfl ⟨fun c4 => ?_, fun c4 => ?_⟩
    ·
     replace hsy3 := cT c4 hsy3
     refine avc_skip <| avc_sq2 <| avc_block ?_
     obtain ⟨t69, ht69, hsy3'⟩ := bE hsy3; clear hsy3
     obtain ⟨t73, ht73, hsy3⟩ := bE hsy3'; clear hsy3'
     obtain ⟨t75, ht75, hsy3'⟩ := bE hsy3; clear hsy3
     obtain ⟨r3000_11x15, hr3000_11x15, hsy3⟩ := bE hsy3'; clear hsy3'
     obtain ⟨t76, ht76, hsy3'⟩ := bE hsy3; clear hsy3
     obtain ⟨r3000_11x17, hr3000_11x17, hsy3⟩ := bE hsy3'; clear hsy3'
     refine avc_tail (e := .normal) (S2 := ⟨[(0, .row 3000), (10, .d (di y1)), (13, .d (di v13))], [(3000, .win 3 eI.size 0 (eI.all r3000_11x17))]⟩) ?_ ?_
     ·
      refine avc_any MX ?_
      refine any_move (i := 0) rfl (lq rfl) rfl rfl rfl rfl ?_
      refine any_move (i := 1) rfl (lq rfl) rfl rfl rfl rfl ?_
      refine any_move (i := 2) rfl (lq rfl) rfl rfl rfl rfl ?_
      refine any_move (i := 3) rfl (lq rfl) rfl rfl rfl rfl ?_
      refine any_add (i := 4) rfl (lq rfl) rfl rfl rfl rfl rfl rfl ?_
      refine any_move (i := 5) rfl (lq rfl) rfl rfl rfl rfl ?_
      refine any_move (i := 6) rfl (lq rfl) rfl rfl rfl rfl ?_
      refine any_add (i := 7) rfl (lq rfl) rfl rfl rfl rfl rfl rfl ?_
      refine any_move (i := 10) rfl (lq rfl) rfl rfl rfl rfl ?_
      refine any_move (i := 11) rfl (lq rfl) rfl rfl rfl rfl ?_
      refine xn [8,12] ?_
      refine xa rfl (m_indexW (en := eI) (l := r3000) (lq rfl) S30 rfl rfl rfl ht69) ?_ ?_
      ·
       refine xn [9,12] ?_
       refine xa rfl (m_loadW (en := eI) (l := r3000) (i := (wi (v13 + 1))) (v := t69) (lq rfl) O3 rfl rfl ht69 rfl) ?_ ?_
       ·
        refine xn [12] ?_
        refine xc rfl (m_indexW (en := eI) (l := r3000) (lq rfl) S30 rfl rfl rfl ht73) ?_
        refine xn [13] ?_
        refine xc rfl (m_loadW (en := eI) (l := r3000) (i := v13) (v := t73) (lq rfl) O3 rfl rfl ht73 rfl) ?_
        refine xn [14] ?_
        refine xc rfl (m_indexW (en := eI) (l := r3000) (lq rfl) S30 rfl rfl rfl ht75) ?_
        refine xn [15] ?_
        refine xd rfl (m_storeW (en := eI) (l := r3000) (i := v13) (v := t69) O3 rfl rfl rfl ht75 hr3000_11x15 rfl rfl rfl rfl) ?_
        refine xn [16] ?_
        refine xc rfl (m_indexW (en := eI) (l := r3000_11x15) (lq rfl) S30 rfl rfl rfl ht76) ?_
        refine xn [17] ?_
        refine xd rfl (m_storeW (en := eI) (l := r3000_11x15) (i := (wi (v13 + 1))) (v := t73) O3 rfl rfl rfl ht76 hr3000_11x17 rfl rfl rfl rfl) ?_
        exact any_end rfl (out_mk (wc))
       refine xc rfl (m_indexW (en := eI) (l := r3000) (lq rfl) S30 rfl rfl rfl ht73) ?_
       refine xn [9,13] ?_
       refine xa rfl (m_loadW (en := eI) (l := r3000) (i := (wi (v13 + 1))) (v := t69) (lq rfl) O3 rfl rfl ht69 rfl) ?_ ?_
       ·
        refine xn [13] ?_
        refine xc rfl (m_loadW (en := eI) (l := r3000) (i := v13) (v := t73) (lq rfl) O3 rfl rfl ht73 rfl) ?_
        refine xn [14] ?_
        refine xc rfl (m_indexW (en := eI) (l := r3000) (lq rfl) S30 rfl rfl rfl ht75) ?_
        refine xn [15] ?_
        refine xd rfl (m_storeW (en := eI) (l := r3000) (i := v13) (v := t69) O3 rfl rfl rfl ht75 hr3000_11x15 rfl rfl rfl rfl) ?_
        refine xn [16] ?_
        refine xc rfl (m_indexW (en := eI) (l := r3000_11x15) (lq rfl) S30 rfl rfl rfl ht76) ?_
        refine xn [17] ?_
        refine xd rfl (m_storeW (en := eI) (l := r3000_11x15) (i := (wi (v13 + 1))) (v := t73) O3 rfl rfl rfl ht76 hr3000_11x17 rfl rfl rfl rfl) ?_
        exact any_end rfl (out_mk (wc))
       refine xc rfl (m_loadW (en := eI) (l := r3000) (i := v13) (v := t73) (lq rfl) O3 rfl rfl ht73 rfl) ?_
       refine xn [9] ?_
       refine xc rfl (m_loadW (en := eI) (l := r3000) (i := (wi (v13 + 1))) (v := t69) (lq rfl) O3 rfl rfl ht69 rfl) ?_
       refine xn [14] ?_
       refine xc rfl (m_indexW (en := eI) (l := r3000) (lq rfl) S30 rfl rfl rfl ht75) ?_
       refine xn [15] ?_
       refine xd rfl (m_storeW (en := eI) (l := r3000) (i := v13) (v := t69) O3 rfl rfl rfl ht75 hr3000_11x15 rfl rfl rfl rfl) ?_
       refine xn [16] ?_
       refine xc rfl (m_indexW (en := eI) (l := r3000_11x15) (lq rfl) S30 rfl rfl rfl ht76) ?_
       refine xn [17] ?_
       refine xd rfl (m_storeW (en := eI) (l := r3000_11x15) (i := (wi (v13 + 1))) (v := t73) O3 rfl rfl rfl ht76 hr3000_11x17 rfl rfl rfl rfl) ?_
       exact any_end rfl (out_mk (wc))
      refine xc rfl (m_indexW (en := eI) (l := r3000) (lq rfl) S30 rfl rfl rfl ht73) ?_
      refine xn [8,13] ?_
      refine xa rfl (m_indexW (en := eI) (l := r3000) (lq rfl) S30 rfl rfl rfl ht69) ?_ ?_
      ·
       refine xn [9,13] ?_
       refine xa rfl (m_loadW (en := eI) (l := r3000) (i := (wi (v13 + 1))) (v := t69) (lq rfl) O3 rfl rfl ht69 rfl) ?_ ?_
       ·
        refine xn [13] ?_
        refine xc rfl (m_loadW (en := eI) (l := r3000) (i := v13) (v := t73) (lq rfl) O3 rfl rfl ht73 rfl) ?_
        refine xn [14] ?_
        refine xc rfl (m_indexW (en := eI) (l := r3000) (lq rfl) S30 rfl rfl rfl ht75) ?_
        refine xn [15] ?_
        refine xd rfl (m_storeW (en := eI) (l := r3000) (i := v13) (v := t69) O3 rfl rfl rfl ht75 hr3000_11x15 rfl rfl rfl rfl) ?_
        refine xn [16] ?_
        refine xc rfl (m_indexW (en := eI) (l := r3000_11x15) (lq rfl) S30 rfl rfl rfl ht76) ?_
        refine xn [17] ?_
        refine xd rfl (m_storeW (en := eI) (l := r3000_11x15) (i := (wi (v13 + 1))) (v := t73) O3 rfl rfl rfl ht76 hr3000_11x17 rfl rfl rfl rfl) ?_
        exact any_end rfl (out_mk (wc))
       refine xc rfl (m_loadW (en := eI) (l := r3000) (i := v13) (v := t73) (lq rfl) O3 rfl rfl ht73 rfl) ?_
       refine xn [9] ?_
       refine xc rfl (m_loadW (en := eI) (l := r3000) (i := (wi (v13 + 1))) (v := t69) (lq rfl) O3 rfl rfl ht69 rfl) ?_
       refine xn [14] ?_
       refine xc rfl (m_indexW (en := eI) (l := r3000) (lq rfl) S30 rfl rfl rfl ht75) ?_
       refine xn [15] ?_
       refine xd rfl (m_storeW (en := eI) (l := r3000) (i := v13) (v := t69) O3 rfl rfl rfl ht75 hr3000_11x15 rfl rfl rfl rfl) ?_
       refine xn [16] ?_
       refine xc rfl (m_indexW (en := eI) (l := r3000_11x15) (lq rfl) S30 rfl rfl rfl ht76) ?_
       refine xn [17] ?_
       refine xd rfl (m_storeW (en := eI) (l := r3000_11x15) (i := (wi (v13 + 1))) (v := t73) O3 rfl rfl rfl ht76 hr3000_11x17 rfl rfl rfl rfl) ?_
       exact any_end rfl (out_mk (wc))
      refine xc rfl (m_loadW (en := eI) (l := r3000) (i := v13) (v := t73) (lq rfl) O3 rfl rfl ht73 rfl) ?_
      refine xn [8] ?_
      refine xc rfl (m_indexW (en := eI) (l := r3000) (lq rfl) S30 rfl rfl rfl ht69) ?_
      refine xn [9] ?_
      refine xc rfl (m_loadW (en := eI) (l := r3000) (i := (wi (v13 + 1))) (v := t69) (lq rfl) O3 rfl rfl ht69 rfl) ?_
      refine xn [14] ?_
      refine xc rfl (m_indexW (en := eI) (l := r3000) (lq rfl) S30 rfl rfl rfl ht75) ?_
      refine xn [15] ?_
      refine xd rfl (m_storeW (en := eI) (l := r3000) (i := v13) (v := t69) O3 rfl rfl rfl ht75 hr3000_11x15 rfl rfl rfl rfl) ?_
      refine xn [16] ?_
      refine xc rfl (m_indexW (en := eI) (l := r3000_11x15) (lq rfl) S30 rfl rfl rfl ht76) ?_
      refine xn [17] ?_
      refine xd rfl (m_storeW (en := eI) (l := r3000_11x15) (i := (wi (v13 + 1))) (v := t73) O3 rfl rfl rfl ht76 hr3000_11x17 rfl rfl rfl rfl) ?_
      exact any_end rfl (out_mk (wc))
     refine avc_sq <| q0 ?_
     refine q2 ?_
     refine q1 ?_
     refine sq_nil ?_
     cases hsy3
     exact wc
    ·
     replace hsy3 := cF c4 hsy3
     refine avc_exit ?_
     cases hsy3
     intro q; cases q
     exact out_mk (wc)
   ·
    cases h
    refine avc_ret ?_
    exact ⟨rfl, ⟨rfl, trivial⟩⟩
 ·
  replace h := cF c1 h
  refine avc_skip <| avc_sq2 <| avc_sq2 <| avc_sq <| q0 ?_
  refine q0 ?_
  refine q16 ?_
  refine q23 ?_
  refine sq_nil ?_
  refine avc_if rfl ⟨fun c5 => ?_, fun c5 => ?_⟩
  ·
   replace h := cT c5 h
   refine avc_sq2 <| avc_sq <| q0 ?_
   refine q1 ?_
   refine sq_nil <| avc_sq2 <| avc_sq <| q0 ?_
   refine q1 ?_
   refine sq_nil <| avc_sq2 <| avc_block ?_
   obtain ⟨y4, hy4, h'⟩ := bE h; clear h
   refine avc_tail (e := (.exit 4)) (S2 := ⟨[(0, .row 3000), (2, .d (di a2)), (14, .d (di y4))], [(3000, .win 3 eI.size 0 (eI.all a0))]⟩) ?_ ?_
   ·
    refine avc_loopM (fun x => ⟨[(0, .row 3000), (2, .d (di a2)), (4, .d fv4), (14, .d (di x.1)), (15, .d (di x.2))], [(3000, .win 3 eI.size 0 (eI.all a0))]⟩) hy4 (wc) ?_
    rintro ⟨v14, v15⟩ sy4 hsy4
    replace hsy4 : slices_symMergeCmpFunc_int_L2 a0 a2 a4 v14 v15 = some sy4 := hsy4
    unfold slices_symMergeCmpFunc_int_L2 at hsy4
    refine avc_sq2 <| avc_sq2 <| avc_sq <| q0 ?_
    refine q0 ?_
    refine q5 ?_
    refine sq_nil ?_
    refine avc_if rfl ⟨fun c6 => ?_, fun c6 => ?_⟩
    ·
     replace hsy4 := cT c6 hsy4
     refine avc_skip ?_
     obtain ⟨y5, hy5, hsy4'⟩ := bE hsy4; clear hsy4
     refine avc_tail (e := .normal) (S2 := ⟨[(0, .row 3000), (2, .d (di a2)), (4, .d fv4), (14, .d (di y5.1)), (15, .d (di y5.2))], [(3000, .win 3 eI.size 0 (eI.all a0))]⟩) ?_ ?_
     ·
      refine avc_block <| avc_sq2 <| avc_sq <| q0 ?_
      refine q0 ?_
      refine q2 ?_
      refine q19 Tryd.underlying3 Tryd.underlying132 ?_
      refine sqa (a_shr (m := 1) (lq rfl) rfl rfl (by decide)) ?_
      refine q19 Tryd.underlying132 Tryd.underlying3 ?_
      refine q1 ?_
      refine sq_nil <| avc_sq2 ?_
      refine avc_drawA MX rfl ?_
      refine q6 ?_
      refine q29 ?_
      refine q6 ?_
      obtain ⟨t95, ht95, hy5'⟩ := bE hy5; clear hy5
      refine daa (m_indexW (en := eI) (l := a0) (lq rfl) S30 rfl rfl rfl ht95) ?_
      refine daa (m_loadW (en := eI) (l := a0) (i := a2) (v := t95) (lq rfl) O3 rfl rfl ht95 rfl) ?_
      refine q29 ?_
      refine q6 ?_
      obtain ⟨t99, ht99, hy5⟩ := bE hy5'; clear hy5'
      refine daa (m_indexW (en := eI) (l := a0) (lq rfl) S30 rfl rfl rfl ht99) ?_
      refine daa (m_loadW (en := eI) (l := a0) (i := (wi ((wu (wi (v14 + v15))) / 2 ^ 1))) (v := t99) (lq rfl) O3 rfl rfl ht99 rfl) ?_
      obtain ⟨t101, ht101, hy5'⟩ := bE hy5; clear hy5
      refine daa (a_callF (lq rfl) rfl rfl (hf4 _ _ _ ht101)) ?_
      refine q48 ?_
      refine daa (a_not (lq rfl) rfl) ?_
      refine da_nil ?_
      refine avc_if rfl ⟨fun c7 => ?_, fun c7 => ?_⟩
      ·
       replace hy5' := cT c7 hy5'
       refine avc_sq <| q0 ?_
       refine q2 ?_
       refine q1 ?_
       refine sq_nil ?_
       cases hy5'
       exact out_mk (wc)
      ·
       replace hy5' := cF c7 hy5'
       refine avc_sq <| q0 ?_
       refine q1 ?_
       refine sq_nil ?_
       cases hy5'
       exact out_mk (wc)
     ·
      cases hsy4'
      exact wc
    ·
     replace hsy4 := cF c6 hsy4
     refine avc_exit ?_
     cases hsy4
     intro q; cases q
     exact out_mk (wc)
   ·
    refine avc_sq2 <| avc_sq2 <| avc_sq <| q0 ?_
    refine q1 ?_
    refine sq_nil <| avc_block ?_
    obtain ⟨y6, hy6, h⟩ := bE h'; clear h'
    refine avc_tail (e := (.exit 6)) (S2 := ⟨[(0, .row 3000)], [(3000, .win 3 eI.size 0 (eI.all y6))]⟩) ?_ ?_
    ·
     refine avc_loopM (fun x => ⟨[(0, .row 3000), (14, .d (di y4)), (17, .d (di x.1))], [(3000, .win 3 eI.size 0 (eI.all x.2))]⟩) hy6 (wc) ?_
     rintro ⟨v17, r3000⟩ sy6 hsy6
     replace hsy6 : slices_symMergeCmpFunc_int_L3 y4 v17 r3000 = some sy6 := hsy6
     unfold slices_symMergeCmpFunc_int_L3 at hsy6
     refine avc_sq2 <| avc_sq2 <| avc_sq <| q0 ?_
     refine q0 ?_
     refine q21 ?_
     refine sq_nil ?_
     refine avc_if rfl ⟨fun c8 => ?_, fun c8 => ?_⟩
     ·
      replace hsy6 := cT c8 hsy6
      refine avc_skip <| avc_sq2 <| avc_block ?_
      obtain ⟨t121, ht121, hsy6'⟩ := bE hsy6; clear hsy6
      obtain ⟨t125, ht125, hsy6⟩ := bE hsy6'; clear hsy6'
      obtain ⟨t127, ht127, hsy6'⟩ := bE hsy6; clear hsy6
      obtain ⟨r3000_23x15, hr3000_23x15, hsy6⟩ := bE hsy6'; clear hsy6'
      obtain ⟨t128, ht128, hsy6'⟩ := bE hsy6; clear hsy6
      obtain ⟨r3000_23x17, hr3000_23x17, hsy6⟩ := bE hsy6'; clear hsy6'
      refine avc_tail (e := .normal) (S2 := ⟨[(0, .row 3000), (14, .d (di y4)), (17, .d (di v17))], [(3000, .win 3 eI.size 0 (eI.all r3000_23x17))]⟩) ?_ ?_
      ·
       refine avc_any MX ?_
       refine any_move (i := 0) rfl (lq rfl) rfl rfl rfl rfl ?_
       refine any_move (i := 1) rfl (lq rfl) rfl rfl rfl rfl ?_
       refine any_move (i := 2) rfl (lq rfl) rfl rfl rfl rfl ?_
       refine any_move (i := 3) rfl (lq rfl) rfl rfl rfl rfl ?_
       refine any_sub (i := 4) rfl (lq rfl) rfl rfl rfl rfl rfl rfl ?_
       refine any_move (i := 5) rfl (lq rfl) rfl rfl rfl rfl ?_
       refine any_move (i := 6) rfl (lq rfl) rfl rfl rfl rfl ?_
       refine any_sub (i := 7) rfl (lq rfl) rfl rfl rfl rfl rfl rfl ?_
       refine any_move (i := 10) rfl (lq rfl) rfl rfl rfl rfl ?_
       refine any_move (i := 11) rfl (lq rfl) rfl rfl rfl rfl ?_
       refine xn [8,12] ?_
       refine xa rfl (m_indexW (en := eI) (l := r3000) (lq rfl) S30 rfl rfl rfl ht121) ?_ ?_
       ·
        refine xn [9,12] ?_
        refine xa rfl (m_loadW (en := eI) (l := r3000) (i := (wi (v17 - 1))) (v := t121) (lq rfl) O3 rfl rfl ht121 rfl) ?_ ?_
        ·
         refine xn [12] ?_
         refine xc rfl (m_indexW (en := eI) (l := r3000) (lq rfl) S30 rfl rfl rfl ht125) ?_
         refine xn [13] ?_
         refine xc rfl (m_loadW (en := eI) (l := r3000) (i := v17) (v := t125) (lq rfl) O3 rfl rfl ht125 rfl) ?_
         refine xn [14] ?_
         refine xc rfl (m_indexW (en := eI) (l := r3000) (lq rfl) S30 rfl rfl rfl ht127) ?_
         refine xn [15] ?_
         refine xd rfl (m_storeW (en := eI) (l := r3000) (i := v17) (v := t121) O3 rfl rfl rfl ht127 hr3000_23x15 rfl rfl rfl rfl) ?_
         refine xn [16] ?_
         refine xc rfl (m_indexW (en := eI) (l := r3000_23x15) (lq rfl) S30 rfl rfl rfl ht128) ?_
         refine xn [17] ?_
         refine xd rfl (m_storeW (en := eI) (l := r3000_23x15) (i := (wi (v17 - 1))) (v := t125) O3 rfl rfl rfl ht128 hr3000_23x17 rfl rfl rfl rfl) ?_
         exact any_end rfl (out_mk (wc))
        refine xc rfl (m_indexW (en := eI) (l := r3000) (lq rfl) S30 rfl rfl rfl ht125) ?_
        refine xn [9,13] ?_
        refine xa rfl (m_loadW (en := eI) (l := r3000) (i := (wi (v17 - 1))) (v := t121) (lq rfl) O3 rfl rfl ht121 rfl) ?_ ?_
        ·
         refine xn [13] ?_
         refine xc rfl (m_loadW (en := eI) (l := r3000) (i := v17) (v := t125) (lq rfl) O3 rfl rfl ht125 rfl) ?_
         refine xn [14] ?_
         refine xc rfl (m_indexW (en := eI) (l := r3000) (lq rfl) S30 rfl rfl rfl ht127) ?_
         refine xn [15] ?_
         refine xd rfl (m_storeW (en := eI) (l := r3000) (i := v17) (v := t121) O3 rfl rfl rfl ht127 hr3000_23x15 rfl rfl rfl rfl) ?_
         refine xn [16] ?_
         refine xc rfl (m_indexW (en := eI) (l := r3000_23x15) (lq rfl) S30 rfl rfl rfl ht128) ?_
         refine xn [17] ?_
         refine xd rfl (m_storeW (en := eI) (l := r3000_23x15) (i := (wi (v17 - 1))) (v := t125) O3 rfl rfl rfl ht128 hr3000_23x17 rfl rfl rfl rfl) ?_
         exact any_end rfl (out_mk (wc))
        refine xc rfl (m_loadW (en := eI) (l := r3000) (i := v17) (v := t125) (lq rfl) O3 rfl rfl ht125 rfl) ?_
        refine xn [9] ?_
        refine xc rfl (m_loadW (en := eI) (l := r3000) (i := (wi (v17 - 1))) (v := t121) (lq rfl) O3 rfl rfl ht121 rfl) ?_
        refine xn [14] ?_
        refine xc rfl (m_indexW (en := eI) (l := r3000) (lq rfl) S30 rfl rfl rfl ht127) ?_
        refine xn [15] ?_
        refine xd rfl (m_storeW (en := eI) (l := r3000) (i := v17) (v := t121) O3 rfl rfl rfl ht127 hr3000_23x15 rfl rfl rfl rfl) ?_
        refine xn [16] ?_
        refine xc rfl (m_indexW (en := eI) (l := r3000_23x15) (lq rfl) S30 rfl rfl rfl ht128) ?_
        refine xn [17] ?_
        refine xd rfl (m_storeW (en := eI) (l := r3000_23x15) (i := (wi (v17 - 1))) (v := t125) O3 rfl rfl rfl ht128 hr3000_23x17 rfl rfl rfl rfl) ?_
        exact any_end rfl (out_mk (wc))
       refine xc rfl (m_indexW (en := eI) (l := r3000) (lq rfl) S30 rfl rfl rfl ht125) ?_
       refine xn [8,13] ?_
       refine xa rfl (m_indexW (en := eI) (l := r3000) (lq rfl) S30 rfl rfl rfl ht121) ?_ ?_
       ·
        refine xn [9,13] ?_
        refine xa rfl (m_loadW (en := eI) (l := r3000) (i := (wi (v17 - 1))) (v := t121) (lq rfl) O3 rfl rfl ht121 rfl) ?_ ?_
        ·
         refine xn [13] ?_
         refine xc rfl (m_loadW (en := eI) (l := r3000) (i := v17) (v := t125) (lq rfl) O3 rfl rfl ht125 rfl) ?_
         refine xn [14] ?_
         refine xc rfl (m_indexW (en := eI) (l := r3000) (lq rfl) S30 rfl rfl rfl ht127) ?_
         refine xn [15] ?_
         refine xd rfl (m_storeW (en := eI) (l := r3000) (i := v17) (v := t121) O3 rfl rfl rfl ht127 hr3000_23x15 rfl rfl rfl rfl) ?_
         refine xn [16] ?_
         refine xc rfl (m_indexW (en := eI) (l := r3000_23x15) (lq rfl) S30 rfl rfl rfl ht128) ?_
         refine xn [17] ?_
         refine xd rfl (m_storeW (en := eI) (l := r3000_23x15) (i := (wi (v17 - 1))) (v := t125) O3 rfl rfl rfl ht128 hr3000_23x17 rfl rfl rfl rfl) ?_
         exact any_end rfl (out_mk (wc))
        refine xc rfl (m_loadW (en := eI) (l := r3000) (i := v17) (v := t125) (lq rfl) O3 rfl rfl ht125 rfl) ?_
        refine xn [9] ?_
        refine xc rfl (m_loadW (en := eI) (l := r3000) (i := (wi (v17 - 1))) (v := t121) (lq rfl) O3 rfl rfl ht121 rfl) ?_
        refine xn [14] ?_
        refine xc rfl (m_indexW (en := eI) (l := r3000) (lq rfl) S30 rfl rfl rfl ht127) ?_
        refine xn [15] ?_
        refine xd rfl (m_storeW (en := eI) (l := r3000) (i := v17) (v := t121) O3 rfl rfl rfl ht127 hr3000_23x15 rfl rfl rfl rfl) ?_
        refine xn [16] ?_
        refine xc rfl (m_indexW (en := eI) (l := r3000_23x15) (lq rfl) S30 rfl rfl rfl ht128) ?_
        refine xn [17] ?_
        refine xd rfl (m_storeW (en := eI) (l := r3000_23x15) (i := (wi (v17 - 1))) (v := t125) O3 rfl rfl rfl ht128 hr3000_23x17 rfl rfl rfl rfl) ?_
        exact any_end rfl (out_mk (wc))
       refine xc rfl (m_loadW (en := eI) (l := r3000) (i := v17) (v := t125) (lq rfl) O3 rfl rfl ht125 rfl) ?_
       refine xn [8] ?_
       refine xc rfl (m_indexW (en := eI) (l := r3000) (lq rfl) S30 rfl rfl rfl ht121) ?_
       refine xn [9] ?_
       refine xc rfl (m_loadW (en := eI) (l := r3000) (i := (wi (v17 - 1))) (v := t121) (lq rfl) O3 rfl rfl ht121 rfl) ?_
       refine xn [14] ?_
       refine xc rfl (m_indexW (en := eI) (l := r3000) (lq rfl) S30 rfl rfl rfl ht127) ?_
       refine xn [15] ?_
       refine xd rfl (m_storeW (en := eI) (l := r3000) (i := v17) (v := t121) O3 rfl rfl rfl ht127 hr3000_23x15 rfl rfl rfl rfl) ?_
       refine xn [16] ?_
       refine xc rfl (m_indexW (en := eI) (l := r3000_23x15) (lq rfl) S30 rfl rfl rfl ht128) ?_
       refine xn [17] ?_
       refine xd rfl (m_storeW (en := eI) (l := r3000_23x15) (i := (wi (v17 - 1))) (v := t125) O3 rfl rfl rfl ht128 hr3000_23x17 rfl rfl rfl rfl) ?_
       exact any_end rfl (out_mk (wc))
      refine avc_sq <| q0 ?_
      refine q16 ?_
      refine q1 ?_
      refine sq_nil ?_
      cases hsy6
      exact wc
     ·
      replace hsy6 := cF c8 hsy6
      refine avc_exit ?_
      cases hsy6
      intro q; cases q
      exact out_mk (wc)
    ·
     cases h
     refine avc_ret ?_
     exact ⟨rfl, ⟨rfl, trivial⟩⟩
  ·
   replace h := cF c5 h
   refine avc_skip <| avc_sq2 <| avc_sq <| q0 ?_
   refine q0 ?_
   refine q2 ?_
   refine q19 Tryd.underlying3 Tryd.underlying132 ?_
   refine sqa (a_shr (m := 1) (lq rfl) rfl rfl (by decide)) ?_
   refine q19 Tryd.underlying132 Tryd.underlying3 ?_
   refine q1 ?_
   refine sq_nil <| avc_sq2 <| avc_sq <| q0 ?_
   refine q0 ?_
   refine q2 ?_
   refine q1 ?_
   refine sq_nil <| avc_sq2 <| avc_sq <| q1 ?_
   refine q1 ?_
   refine sq_nil <| avc_sq2 <| avc_sq2 <| avc_sq <| q0 ?_
   refine q0 ?_
   refine q21 ?_
   refine sq_nil ?_
   obtain ⟨y7, hy7, h'⟩ := bE h; clear h
   refine avc_tail (e := .normal) (S2 := ⟨[(0, .row 3000), (1, .d (di a1)), (2, .d (di a2)), (3, .d (di a3)), (4, .d fv4), (18, .d (di (wi ((wu (wi (a1 + a3))) / 2 ^ 1)))), (19, .d (di (wi ((wi ((wu (wi (a1 + a3))) / 2 ^ 1)) + a2)))), (20, .d (di y7.1)), (21, .d (di y7.2))], [(3000, .win 3 eI.size 0 (eI.all a0))]⟩) ?_ ?_
   ·
    refine avc_if rfl ⟨fun c9 => ?_, fun c9 => ?_⟩
    ·
     replace hy7 := cT c9 hy7
     refine avc_sq2 <| avc_sq <| q0 ?_
     refine q0 ?_
     refine q16 ?_
     refine q1 ?_
     refine sq_nil <| avc_sq <| q0 ?_
     refine q1 ?_
     refine sq_nil ?_
     cases hy7
     exact out_mk (wc)
    ·
     replace hy7 := cF c9 hy7
     refine avc_sq2 <| avc_sq <| q0 ?_
     refine q1 ?_
     refine sq_nil <| avc_sq <| q0 ?_
     refine q1 ?_
     refine sq_nil ?_
     cases hy7
     exact out_mk (wc)
   ·
    refine avc_sq2 <| avc_sq <| q0 ?_
    refine q16 ?_
    refine q1 ?_
    refine sq_nil <| avc_sq2 <| avc_block ?_
    obtain ⟨y8, hy8, h⟩ := bE h'; clear h'
    refine avc_tail (e := (.exit 8)) (S2 := ⟨[(0, .row 3000), (1, .d (di a1)), (2, .d (di a2)), (3, .d (di a3)), (4, .d fv4), (18, .d (di (wi ((wu (wi (a1 + a3))) / 2 ^ 1)))), (19, .d (di (wi ((wi ((wu (wi (a1 + a3))) / 2 ^ 1)) + a2)))), (20, .d (di y8))], [(3000, .win 3 eI.size 0 (eI.all a0))]⟩) ?_ ?_
    ·
     refine avc_loopM (fun x => ⟨[(0, .row 3000), (1, .d (di a1)), (2, .d (di a2)), (3, .d (di a3)), (4, .d fv4), (18, .d (di (wi ((wu (wi (a1 + a3))) / 2 ^ 1)))), (19, .d (di (wi ((wi ((wu (wi (a1 + a3))) / 2 ^ 1)) + a2)))), (20, .d (di x.1)), (21, .d (di x.2)), (22, .d (di (wi ((wi ((wi ((wu (wi (a1 + a3))) / 2 ^ 1)) + a2)) - 1))))], [(3000, .win 3 eI.size 0 (eI.all a0))]⟩) hy8 (wc) ?_
     rintro ⟨v20, v21⟩ sy8 hsy8
     replace hsy8 : slices_symMergeCmpFunc_int_L4 a0 a1 a3 a2 a4 v20 v21 = some sy8 := hsy8
     unfold slices_symMergeCmpFunc_int_L4 at hsy8
     refine avc_sq2 <| avc_sq2 <| avc_sq <| q0 ?_
     refine q0 ?_
     refine q5 ?_
     refine sq_nil ?_
     refine avc_if rfl ⟨fun c10 => ?_, fun c10 => ?_⟩
     ·
      replace hsy8 := cT c10 hsy8
      refine avc_skip ?_
      obtain ⟨y9, hy9, hsy8'⟩ := bE hsy8; clear hsy8
      refine avc_tail (e := .normal) (S2 := ⟨[(0, .row 3000), (1, .d (di a1)), (2, .d (di a2)), (3, .d (di a3)), (4, .d fv4), (18, .d (di (wi ((wu (wi (a1 + a3))) / 2 ^ 1)))), (19, .d (di (wi ((wi ((wu (wi (a1 + a3))) / 2 ^ 1)) + a2)))), (20, .d (di y9.1)), (21, .d (di y9.2)), (22, .d (di (wi ((wi ((wi ((wu (wi (a1 + a3))) / 2 ^ 1)) + a2)) - 1))))], [(3000, .win 3 eI.size 0 (eI.all a0))]⟩) ?_ ?_
      ·
       refine avc_block <| avc_sq2 <| avc_sq <| q0 ?_
       refine q0 ?_
       refine q2 ?_
       refine q19 Tryd.underlying3 Tryd.underlying132 ?_
       refine sqa (a_shr (m := 1) (lq rfl) rfl rfl (by decide)) ?_
       refine q19 Tryd.underlying132 Tryd.underlying3 ?_
       refine q1 ?_
       refine sq_nil <| avc_sq2 ?_
       refine avc_drawA MX rfl ?_
       refine q6 ?_
       refine q29 ?_
       refine q6 ?_
       refine q6 ?_
       refine q46 ?_
       obtain ⟨t163, ht163, hy9'⟩ := bE hy9; clear hy9
       refine daa (m_indexW (en := eI) (l := a0) (lq rfl) S30 rfl rfl rfl ht163) ?_
       refine daa (m_loadW (en := eI) (l := a0) (i := (wi ((wi ((wi ((wi ((wu (wi (a1 + a3))) / 2 ^ 1)) + a2)) - 1)) - (wi ((wu (wi (v20 + v21))) / 2 ^ 1))))) (v := t163) (lq rfl) O3 rfl rfl ht163 rfl) ?_
       refine q29 ?_
       refine q6 ?_
       obtain ⟨t167, ht167, hy9⟩ := bE hy9'; clear hy9'
       refine daa (m_indexW (en := eI) (l := a0) (lq rfl) S30 rfl rfl rfl ht167) ?_
       refine daa (m_loadW (en := eI) (l := a0) (i := (wi ((wu (wi (v20 + v21))) / 2 ^ 1))) (v := t167) (lq rfl) O3 rfl rfl ht167 rfl) ?_
       obtain ⟨t169, ht169, hy9'⟩ := bE hy9; clear hy9
       refine daa (a_callF (lq rfl) rfl rfl (hf4 _ _ _ ht169)) ?_
       refine q48 ?_
       refine daa (a_not (lq rfl) rfl) ?_
       refine da_nil ?_
       refine avc_if rfl ⟨fun c11 => ?_, fun c11 => ?_⟩
       ·
        replace hy9' := cT c11 hy9'
        refine avc_sq <| q0 ?_
        refine q2 ?_
        refine q1 ?_
        refine sq_nil ?_
        cases hy9'
        exact out_mk (wc)
       ·
        replace hy9' := cF c11 hy9'
        refine avc_sq <| q0 ?_
        refine q1 ?_
        refine sq_nil ?_
        cases hy9'
        exact out_mk (wc)
      ·
       cases hsy8'
       exact wc
     ·
      replace hsy8 := cF c10 hsy8
      refine avc_exit ?_
      cases hsy8
      intro q; cases q
      exact out_mk (wc)
    ·
     refine avc_sq2 <| avc_sq <| q0 ?_
     refine q0 ?_
     refine q16 ?_
     refine q1 ?_
     refine sq_nil <| avc_sq2 <| avc_sq2 <| avc_sq <| q0 ?_
     refine q0 ?_
     refine q5 ?_
     obtain ⟨b181, hb181, h'⟩ := bE h; clear h
     refine sqa ((a_move_d (lq rfl) rfl).bool (Option.some.inj hb181)) ?_
     refine sqt (.d (di a2)) rfl (fun hb => by subst hb; exact a_move_d (lq rfl) rfl) ?_
     refine sqt (.d (di (wi ((wi ((wi ((wu (wi (a1 + a3))) / 2 ^ 1)) + a2)) - y8)))) rfl (fun hb => by subst hb; exact a_move_d (lq rfl) rfl) ?_
     refine sqt (.d (db (decide (a2 < (wi ((wi ((wi ((wu (wi (a1 + a3))) / 2 ^ 1)) + a2)) - y8)))))) rfl (fun hb => by subst hb; exact a_lss (lq rfl) rfl rfl) ?_
     refine q9 ?_
     refine sq_nil ?_
     obtain ⟨y10, hy10, h⟩ := bE h'; clear h'
     refine avc_tail (e := .normal) (S2 := ⟨[(0, .row 3000), (1, .d (di a1)), (3, .d (di a3)), (4, .d fv4), (18, .d (di (wi ((wu (wi (a1 + a3))) / 2 ^ 1)))), (20, .d (di y8)), (24, .d (di (wi ((wi ((wi ((wu (wi (a1 + a3))) / 2 ^ 1)) + a2)) - y8))))], [(3000, .win 3 eI.size 0 (eI.all y10))]⟩) ?_ ?_
     ·
      refine avc_if rfl ⟨fun c12 => ?_, fun c12 => ?_⟩
      ·
       replace hy10 := cT c12 hy10
       refine avc_sq <| q7 ?_
       refine q0 ?_
       refine q0 ?_
       refine q0 ?_
       refine q0 ?_
       obtain ⟨t191, ht191, hy10'⟩ := bE hy10; clear hy10
       refine sq_b rfl (g_callN [(3000, 3000)] (slices_rotateCmpFunc_int_g hf4 ht191) (lq rfl) (by decide) ⟨rfl, rfl, rfl, rfl, rfl, trivial⟩ rfl rfl ⟨rfl, trivial⟩ rfl rfl rfl rfl) ?_
       refine sq_nil ?_
       cases hy10'
       exact out_mk (wc)
      ·
       replace hy10 := cF c12 hy10
       refine avc_skip ?_
       cases hy10
       exact out_mk (wc)
     ·
      refine avc_sq2 <| avc_sq2 <| avc_sq <| q0 ?_
      refine q0 ?_
      refine q5 ?_
      obtain ⟨b195, hb195, h'⟩ := bE h; clear h
      refine sqa ((a_move_d (lq rfl) rfl).bool (Option.some.inj hb195)) ?_
      refine sqt (.d (di y8)) rfl (fun hb => by subst hb; exact a_move_d (lq rfl) rfl) ?_
      refine sqt (.d (di (wi ((wu (wi (a1 + a3))) / 2 ^ 1)))) rfl (fun hb => by subst hb; exact a_move_d (lq rfl) rfl) ?_
      refine sqt (.d (db (decide (y8 < (wi ((wu (wi (a1 + a3))) / 2 ^ 1)))))) rfl (fun hb => by subst hb; exact a_lss (lq rfl) rfl rfl) ?_
      refine q9 ?_
      refine sq_nil ?_
      obtain ⟨y11, hy11, h⟩ := bE h'; clear h'
      refine avc_tail (e := .normal) (S2 := ⟨[(0, .row 3000), (3, .d (di a3)), (4, .d fv4), (18, .d (di (wi ((wu (wi (a1 + a3))) / 2 ^ 1)))), (24, .d (di (wi ((wi ((wi ((wu (wi (a1 + a3))) / 2 ^ 1)) + a2)) - y8))))], [(3000, .win 3 eI.size 0 (eI.all y11))]⟩) ?_ ?_
      ·
       refine avc_if rfl ⟨fun c13 => ?_, fun c13 => ?_⟩
       ·
        replace hy11 := cT c13 hy11
        refine avc_sq <| q7 ?_
        refine q0 ?_
        refine q0 ?_
        refine q0 ?_
        refine q0 ?_
        obtain ⟨t205, ht205, hy11'⟩ := bE hy11; clear hy11
        refine sq_b rfl (g_callN [(3000, 3000)] (ih hf4 ht205) (lq rfl) (by decide) ⟨rfl, rfl, rfl, rfl, rfl, trivial⟩ rfl rfl ⟨rfl, trivial⟩ rfl rfl rfl rfl) ?_
        refine sq_nil ?_
        cases hy11'
        exact out_mk (wc)
       ·
        replace hy11 := cF c13 hy11
        refine avc_skip ?_
        cases hy11
        exact out_mk (wc)
      ·
       refine avc_sq2 <| avc_sq <| q0 ?_
       refine q0 ?_
       refine q5 ?_
       obtain ⟨b209, hb209, h'⟩ := bE h; clear h
       refine sqa ((a_move_d (lq rfl) rfl).bool (Option.some.inj hb209)) ?_
       refine sqt (.d (di (wi ((wi ((wi ((wu (wi (a1 + a3))) / 2 ^ 1)) + a2)) - y8)))) rfl (fun hb => by subst hb; exact a_move_d (lq rfl) rfl) ?_
       refine sqt (.d (di a3)) rfl (fun hb => by subst hb; exact a_move_d (lq rfl) rfl) ?_
       refine sqt (.d (db (decide ((wi ((wi ((wi ((wu (wi (a1 + a3))) / 2 ^ 1)) + a2)) - y8)) < a3)))) rfl (fun hb => by subst hb; exact a_lss (lq rfl) rfl rfl) ?_
       refine q9 ?_
       refine sq_nil ?_
       refine avc_if rfl ⟨fun c14 => ?_, fun c14 => ?_⟩
       ·
        replace h' := cT c14 h'
        refine avc_sq <| q7 ?_
        refine q0 ?_
        refine q0 ?_
        refine q0 ?_
        refine q0 ?_
        obtain ⟨t219, ht219, h⟩ := bE h'; clear h'
        refine sq_b rfl (g_callN [(3000, 3000)] (ih hf4 ht219) (lq rfl) (by decide) ⟨rfl, rfl, rfl, rfl, rfl, trivial⟩ rfl rfl ⟨rfl, trivial⟩ rfl rfl rfl rfl) ?_
        refine sq_nil ?_
        cases h
        exact ⟨rfl, ⟨rfl, trivial⟩⟩
       ·
        replace h' := cF c14 h'
        refine avc_skip ?_
        cases h'
        exact ⟨rfl, ⟨rfl, trivial⟩⟩
theorem slices_stableCmpFunc_int_g {fv2 : DV} {a0 : (List Int)} {a1 : Int} {a2 : Int → Int → Option (Int)} (hf2 : ∀ x0 x1 y, a2 x0 x1 = some y → FnC Tryd.prog fv2 [(di x0), (di x1)] [(di y)]) {r : (List Int)} (h : slices_stableCmpFunc_int a0 a1 a2 = some r) : GC Tryd.prog 78 [.row 3000, .d (di a1), .d fv2] [(3000, .win 3 eI.size 0 (eI.all a0))] [3000] [] [(3000, .win 3 eI.size 0 (eI.all r))] := by
 refine gc_of Tryd.func78 (by kernel_rfl) rfl (lq rfl) (lq rfl) fun w0 I0 hG0 p0 => ?_
 unfold slices_stableCmpFunc_int at h
 refine avc_sq2 <| avc_sq <| q1 ?_
 refine sq_nil <| avc_sq2 <| avc_sq <| q0 ?_
 refine q1 ?_
 refine q1 ?_
 refine sq_nil <| avc_sq2 <| avc_block ?_
 obtain ⟨y1, hy1, h'⟩ := bE h; clear h
 refine avc_tail (e := (.exit 0)) (S2 := ⟨[(0, .row 3000), (1, .d (di a1)), (2, .d fv2), (6, .d (di 20)), (7, .d (di y1.1))], [(3000, .win 3 eI.size 0 (eI.all y1.2))]⟩) ?_ ?_
 ·
  refine avc_loopM (fun x => ⟨[(0, .row 3000), (1, .d (di a1)), (2, .d fv2), (6, .d (di 20)), (7, .d (di x.1)), (8, .d (di x.2.1))], [(3000, .win 3 eI.size 0 (eI.all x.2.2))]⟩) hy1 (wc) ?_
  rintro ⟨v7, v8, r3000⟩ sy1 hsy1
  replace hsy1 : slices_stableCmpFunc_int_L0 a1 a2 v7 v8 r3000 = some sy1 := hsy1
  unfold slices_stableCmpFunc_int_L0 at hsy1
  refine avc_sq2 <| avc_sq2 <| avc_sq <| q0 ?_
  refine q0 ?_
  refine q28 ?_
  refine sq_nil ?_
  refine avc_if rfl ⟨fun c1 => ?_, fun c1 => ?_⟩
  ·
   replace hsy1 := cT c1 hsy1
   refine avc_skip <| avc_block <| avc_sq2 <| avc_sq <| q7 ?_
   refine q0 ?_
   refine q0 ?_
   refine q0 ?_
   obtain ⟨t18, ht18, hsy1'⟩ := bE hsy1; clear hsy1
   refine sq_b rfl (g_callN [(3000, 3000)] (slices_insertionSortCmpFunc_int_g hf2 ht18) (lq rfl) (by decide) ⟨rfl, rfl, rfl, rfl, trivial⟩ rfl rfl ⟨rfl, trivial⟩ rfl rfl rfl rfl) ?_
   refine sq_nil <| avc_sq2 <| avc_sq <| q0 ?_
   refine q1 ?_
   refine sq_nil <| avc_sq <| q0 ?_
   refine q0 ?_
   refine q2 ?_
   refine q1 ?_
   refine sq_nil ?_
   cases hsy1'
   exact wc
  ·
   replace hsy1 := cF c1 hsy1
   refine avc_exit ?_
   cases hsy1
   intro q; cases q
   exact out_mk (wc)
 ·
  refine avc_sq2 <| avc_sq <| q7 ?_
  refine q0 ?_
  refine q0 ?_
  refine q0 ?_
  obtain ⟨t27, ht27, h⟩ := bE h'; clear h'
  refine sq_b rfl (g_callN [(3000, 3000)] (slices_insertionSortCmpFunc_int_g hf2 ht27) (lq rfl) (by decide) ⟨rfl, rfl, rfl, rfl, trivial⟩ rfl rfl ⟨rfl, trivial⟩ rfl rfl rfl rfl) ?_
  refine sq_nil <| avc_block ?_
  obtain ⟨y2, hy2, h'⟩ := bE h; clear h
  refine avc_tail (e := (.exit 2)) (S2 := ⟨[(0, .row 3000)], [(3000, .win 3 eI.size 0 (eI.all y2))]⟩) ?_ ?_
  ·
   refine avc_loopM (fun x => ⟨[(0, .row 3000), (1, .d (di a1)), (2, .d fv2), (6, .d (di x.1))], [(3000, .win 3 eI.size 0 (eI.all x.2))]⟩) hy2 (wc) ?_
   rintro ⟨v6, r3000⟩ sy2 hsy2
   replace hsy2 : slices_stableCmpFunc_int_L1 a1 a2 v6 r3000 = some sy2 := hsy2
   unfold slices_stableCmpFunc_int_L1 at hsy2
   refine avc_sq2 <| avc_sq2 <| avc_sq <| q0 ?_
   refine q0 ?_
   refine q5 ?_
   refine sq_nil ?_
   refine avc_if rfl ⟨fun c2 => ?_, fun c2 => ?_⟩
   ·
    replace hsy2 := cT c2 hsy2
    refine avc_skip <| avc_block <| avc_sq2 <| avc_sq <| q0 ?_
    refine sqa (m_mul (lq rfl) rfl rfl) ?_
    refine q1 ?_
    refine q1 ?_
    refine sq_nil <| avc_sq2 <| avc_block ?_
    obtain ⟨y3, hy3, hsy2'⟩ := bE hsy2; clear hsy2
    refine avc_tail (e := (.exit 4)) (S2 := ⟨[(0, .row 3000), (1, .d (di a1)), (2, .d fv2), (6, .d (di v6)), (7, .d (di y3.1))], [(3000, .win 3 eI.size 0 (eI.all y3.2))]⟩) ?_ ?_
    ·
     refine avc_loopM (fun x => ⟨[(0, .row 3000), (1, .d (di a1)), (2, .d fv2), (6, .d (di v6)), (7, .d (di x.1)), (8, .d (di x.2.1))], [(3000, .win 3 eI.size 0 (eI.all x.2.2))]⟩) hy3 (wc) ?_
     rintro ⟨v7, v8, r3000⟩ sy3 hsy3
     replace hsy3 : slices_stableCmpFunc_int_L2 a1 v6 a2 v7 v8 r3000 = some sy3 := hsy3
     unfold slices_stableCmpFunc_int_L2 at hsy3
     refine avc_sq2 <| avc_sq2 <| avc_sq <| q0 ?_
     refine q0 ?_
     refine q28 ?_
     refine sq_nil ?_
     refine avc_if rfl ⟨fun c3 => ?_, fun c3 => ?_⟩
     ·
      replace hsy3 := cT c3 hsy3
      refine avc_skip <| avc_block <| avc_sq2 <| avc_sq <| q7 ?_
      refine q0 ?_
      refine q0 ?_
      refine q0 ?_
      refine q2 ?_
      refine q0 ?_
      refine q0 ?_
      obtain ⟨t43, ht43, hsy3'⟩ := bE hsy3; clear hsy3
      refine sq_b rfl (g_callN [(3000, 3000)] (slices_symMergeCmpFunc_int_g _ hf2 ht43) (lq rfl) (by decide) ⟨rfl, rfl, rfl, rfl, rfl, trivial⟩ rfl rfl ⟨rfl, trivial⟩ rfl rfl rfl rfl) ?_
      refine sq_nil <| avc_sq2 <| avc_sq <| q0 ?_
      refine q1 ?_
      refine sq_nil <| avc_sq <| q0 ?_
      refine q0 ?_
      refine sqa (m_mul (lq rfl) rfl rfl) ?_
      refine q2 ?_
      refine q1 ?_
      refine sq_nil ?_
      cases hsy3'
      exact wc
     ·
      replace hsy3 := cF c3 hsy3
      refine avc_exit ?_
      cases hsy3
      intro q; cases q
      exact out_mk (wc)
    ·
     refine avc_sq2 <| avc_sq2 <| avc_sq <| q0 ?_
     refine q0 ?_
     refine q2 ?_
     refine q1 ?_
     refine sq_nil <| avc_sq2 <| avc_sq <| q0 ?_
     refine q0 ?_
     refine q5 ?_
     refine sq_nil ?_
     obtain ⟨y4, hy4, hsy2⟩ := bE hsy2'; clear hsy2'
     refine avc_tail (e := .normal) (S2 := ⟨[(0, .row 3000), (1, .d (di a1)), (2, .d fv2), (6, .d (di v6))], [(3000, .win 3 eI.size 0 (eI.all y4))]⟩) ?_ ?_
     ·
      refine avc_if rfl ⟨fun c4 => ?_, fun c4 => ?_⟩
      ·
       replace hy4 := cT c4 hy4
       refine avc_sq <| q7 ?_
       refine q0 ?_
       refine q0 ?_
       refine q0 ?_
       refine q0 ?_
       obtain ⟨t60, ht60, hy4'⟩ := bE hy4; clear hy4
       refine sq_b rfl (g_callN [(3000, 3000)] (slices_symMergeCmpFunc_int_g _ hf2 ht60) (lq rfl) (by decide) ⟨rfl, rfl, rfl, rfl, rfl, trivial⟩ rfl rfl ⟨rfl, trivial⟩ rfl rfl rfl rfl) ?_
       refine sq_nil ?_
       cases hy4'
       exact out_mk (wc)
      ·
       replace hy4 := cF c4 hy4
       refine avc_skip ?_
       cases hy4
       exact out_mk (wc)
     ·
      refine avc_sq <| q0 ?_
      refine sqa (m_mul (lq rfl) rfl rfl) ?_
      refine q1 ?_
      refine sq_nil ?_
      cases hsy2
      exact wc
   ·
    replace hsy2 := cF c2 hsy2
    refine avc_exit ?_
    cases hsy2
    intro q; cases q
    exact out_mk (wc)
  ·
   cases h'
   exact ⟨rfl, ⟨rfl, trivial⟩⟩
theorem slices_SortStableFunc_int_int_g {fv1 : DV} {a0 : (List Int)} {a1 : Int → Int → Option (Int)} (hf1 : ∀ x0 x1 y, a1 x0 x1 = some y → FnC Tryd.prog fv1 [(di x0), (di x1)] [(di y)]) {r : (List Int)} (h : slices_SortStableFunc_int_int a0 a1 = some r) : GC Tryd.prog 61 [.row 3000, .d fv1] [(3000, .win 3 eI.size 0 (eI.all a0))] [3000] [] [(3000, .win 3 eI.size 0 (eI.all r))] := by
 refine gc_of Tryd.func61 (by kernel_rfl) rfl (lq rfl) (lq rfl) fun w0 I0 hG0 p0 => ?_
 unfold slices_SortStableFunc_int_int at h
 refine avc_sq <| q7 ?_
 refine q7 ?_
 refine sqa (m_lenW (en := eI) (l := a0) (lq rfl) S30 rfl rfl) ?_
 refine q0 ?_
 obtain ⟨t8, ht8, h'⟩ := bE h; clear h
 refine sq_b rfl (g_callN [(3000, 3000)] (slices_stableCmpFunc_int_g hf1 ht8) (lq rfl) (by decide) ⟨rfl, rfl, rfl, trivial⟩ rfl rfl ⟨rfl, trivial⟩ rfl rfl rfl rfl) ?_
 refine sq_nil ?_
 cases h'
 exact ⟨rfl, ⟨rfl, trivial⟩⟩
theorem ordering_Sort_g {a0 : List Span} {a1 r : List Int} (h : ordering_Sort a0 a1 = some r) : GC Tryd.prog 44 [.d (dsl eSpan a0), .d (dsl eI a1)] [] [] [.row 100] [(100, .row 3 eI.size false (eI.all r))] := by
 unfold ordering_Sort at h
 obtain ⟨t8, ht8, h'⟩ := bE h; clear h
 obtain ⟨t10, ht10, h⟩ := bE h'; clear h'
 obtain ⟨t13, ht13, h'⟩ := bE h; clear h
 refine gc_of Tryd.func44 (by kernel_rfl) rfl (lq rfl) (lq rfl) fun w0 I0 hG0 p0 => ?_
 refine avc_sq2 <| avc_sq ?_
 refine sq_b rfl (s_box_d (lq rfl) rfl rfl rfl) ?_
 refine q1 ?_
 refine sq_nil <| avc_sq2 <| avc_sq <| q15 O37 ?_
 refine sqa (a_call (lq rfl) rfl (ordering_usable_c ht8)) ?_
 refine q36 O37 ?_
 refine sq_nil ?_
 refine avc_weak (weak_freeze (t := 2) (lq rfl) rfl rfl rfl) ?_
 refine avc_sq2 <| avc_sq <| q0 ?_
 refine sq_b rfl (g_call [(5, 100)] (slices_Clone_int_int_g ht10) (lq rfl) (by decide) ⟨rfl, trivial⟩ rfl rfl trivial rfl rfl rfl (fun _ => rfl) rfl) ?_
 refine sq_b rfl (step_alloc (zs := [(.slice none 0 0)]) (lq rfl) (by kernel_rfl) rfl rfl) ?_
 refine sq_b rfl (s_store_box_row O30 rfl rfl (lq rfl) rfl rfl rfl) ?_
 refine sq_nil <| avc_sq2 <| avc_sq2 <| avc_sq <| q37 O37 ?_
 refine q0 ?_
 refine sqa (a_call (lq rfl) rfl ordering_runs_c) ?_
 refine sq_nil <| avc_block ?_
 refine avc_range [(5, .ptr 5 0), (2, .d (.pt [dsl eSpan t8])), (4, .d (.v (.slice none 0 0)))] [5] (fun k => [(5, .box 30 [.row 100]), (100, .row 3 eI.size false (eI.all (outK (fun p => slices_SortStableFunc_int_int p (fun x0 x1 => ordering_Sort_1 x0 x1 t8)) Range.Lo Range.Hi t10 (runsOf (fun c => ordering_class t8 c == some 0) a1 0 (-1)) k)))]) rfl (ordering_runs_1_i ht13) rfl (fun _ _ _ _ h => h) ?hk ?hT rfl (fun _ => rfl) ?hbx (fun _ _ => rfl) ?hl ?hpn ?rd ?hK
 case hk => exact ⟨rfl, rfl, rfl, trivial⟩
 case hT => exact ⟨rfl, rfl, trivial⟩
 case hbx => intro k id hi; simp at hi; subst hi; exact fun (h : Blk.box _ _ = Blk.none) => by cases h
 case hl => intro x hx; obtain ⟨y, _, rfl⟩ := List.mem_map.1 hx; rfl
 case hpn => intro p hp; simp at hp; subst hp; exact (lq rfl)
 case rd =>
  intro w1 Iall X C0 ρ0 defs l1 D lp1 lp2 hok k x hx
  rw [List.getElem?_map] at hx
  obtain ⟨v, hv, rfl⟩ := Option.map_eq_some_iff.1 hx
  have hst := outK_step h' hv
  obtain ⟨q0, q1, q2⟩ := partM_ok hst
  refine avc_sq ?_
  refine sq_b rfl (step_alloc (zs := [(.int IntKind.i64 (0)), (.int IntKind.i64 (0))]) (lq rfl) (by kernel_rfl) rfl rfl) ?_
  refine q8 G104 ?_
  refine sq_nil <| avc_block <| avc_sq <| q15 O30 ?_
  refine q34 L104_0 ?_
  refine q15 O3 ?_
  refine q34 L104_1 ?_
  refine q15 O3 ?_
  refine sqa (m_slicePart (en := eI) (lq rfl) S30 rfl rfl rfl rfl q0 q1 q2) ?_
  refine sqa (a_makeFunc (lq rfl) rfl) ?_
  refine sq_b rfl (m_part (en := eI) (lq rfl) rfl rfl rfl hst eI_v (fun m m' hm => slices_SortStableFunc_int_int_g (fun _ _ _ q => .inl ⟨_, _, rfl, ordering_Sort_1_c q⟩) hm) rfl) ?_
  refine sq_nil ?_
  exact ⟨rfl, rfl, trivial⟩
 case hK =>
  rw [List.length_map, outK_len h']
  refine avc_sq2 <| avc_sq <| q15 O30 ?_
  refine q13 ?_
  refine sq_nil <| avc_ret ?_
  exact ⟨⟨_, _, rfl, rfl, rfl⟩, rfl, trivial⟩
theorem decompose_Text_c  {a0 : Norm} {a1 : (List Int)} {a2 : Bool}  {r : (List Int)} (h : decompose_Text a0 a1 a2 = some r) : Contract Tryd.prog 20 [(eNorm.dv a0), (dsl eI a1), (db a2)] [(dsl eI r)] := by
 refine contract_of Tryd.func20 (by kernel_rfl) rfl (lq rfl) (lq rfl) fun w0 I0 hI0 hG0 => ?_
 unfold decompose_Text at h
 refine avc_sq2 <| avc_sq ?_
 refine sq_b rfl (s_box_agg (lq rfl) rfl rfl) ?_
 refine q1 ?_
 refine sq_nil <| avc_sq2 <| avc_sq ?_
 refine sqa ((a_load_boxA (lq rfl) G43 rfl rfl rfl rfl).data rfl) ?_
 obtain ⟨t12, ht12, h'⟩ := bE h; clear h
 refine sqa (a_call (lq rfl) rfl (decompose_usable_c ht12)) ?_
 refine q8 G43 ?_
 refine sq_nil <| avc_sq2 <| avc_sq ?_
 refine sqa ((a_load_boxA (lq rfl) G43 rfl rfl rfl rfl).data rfl) ?_
 refine q0 ?_
 obtain ⟨t15, ht15, h⟩ := bE h'; clear h'
 refine sq_b rfl (g_callA [(5, 2515), (6, 3015), (7, 3515)] (decompose_expander_a ht15) (lq rfl) (by decide) ⟨rfl, rfl, trivial⟩ rfl rfl trivial rfl rfl rfl (fun _ => rfl) rfl) ?_
 refine sqa (a_assign_to (lq rfl) rfl) ?_
 refine sq_nil <| avc_sq2 <| avc_sq <| q1 ?_
 refine sq_nil ?_
 refine avc_weak (weak_nil (t := 8) 1008 3 eI.size (lq rfl) (lq rfl) rfl rfl) ?_
 refine avc_sq2 <| avc_sq2 <| avc_sq <| q0 ?_
 refine sqa (m_len (en := eI) (l := a1) (lq rfl) S30 rfl) ?_
 refine q0 ?_
 refine sq_nil <| avc_block ?_
 obtain ⟨y1, hy1, h'⟩ := bE h; clear h
 refine avc_tail (e := (.exit 0)) (S2 := ⟨[(3, .ptr 3 0), (8, .row 1008)], [(3, .box 43 [.d (dsl eSpan t12.Classes), .d (dsl eMapping t12.Decomp), .d (dsl eRange t12.Excluded.Ranges)]), (1008, .row 3 eI.size false (eI.all y1))]⟩) ?_ ?_
 ·
  refine avc_loopM (fun x => ⟨[(3, .ptr 3 0), (7, .clo 57 [.ptr 2515 0, .d (.pt (eNorm.cells ({ Classes := t12.Classes, Decomp := t12.Decomp, Excluded := ({ Ranges := t12.Excluded.Ranges } : Set) } : Norm))), .d (.pt [(db a2)]), .ptr 3015 0]), (8, .row 1008), (16, .d (dsl eI a1)), (17, .d (di (a1.length : Int))), (18, .d (di x.1))], [(3, .box 43 [.d (dsl eSpan t12.Classes), .d (dsl eMapping t12.Decomp), .d (dsl eRange t12.Excluded.Ranges)]), (1008, .row 3 eI.size false (eI.all x.2.1)), (2515, .box 96 [.row 3515]), (3015, .box 76 [.clo 57 [.ptr 2515 0, .d (.pt (eNorm.cells ({ Classes := t12.Classes, Decomp := t12.Decomp, Excluded := ({ Ranges := t12.Excluded.Ranges } : Set) } : Norm))), .d (.pt [(db a2)]), .ptr 3015 0]]), (3515, .map (mapE kI (eL eI) x.2.2))]⟩) hy1 (wc) ?_
  rintro ⟨v18, r1008, r3515⟩ sy1 hsy1
  replace hsy1 : decompose_Text_L0 a1 t12 a2 v18 r1008 r3515 = some sy1 := hsy1
  unfold decompose_Text_L0 at hsy1
  refine avc_sq2 <| avc_sq <| q5 ?_
  refine sq_nil <| avc_sq2 ?_
  refine avc_if rfl ⟨fun c1 => ?_, fun c1 => ?_⟩
  ·
   replace hsy1 := cT c1 hsy1
   refine avc_skip <| avc_sq2 <| avc_block <| avc_sq2 <| avc_sq ?_
   obtain ⟨t20, ht20, hsy1'⟩ := bE hsy1; clear hsy1
   refine sqa (m_index (en := eI) (lq rfl) S30 rfl rfl ht20) ?_
   refine sqa (m_loadE (en := eI) (l := a1) (i := v18) (v := t20) (off := 0) (lq rfl) O3 rfl ht20 rfl) ?_
   refine q1 ?_
   refine sq_nil <| avc_sq <| q7 ?_
   refine sqa (a_move_to (lq rfl) rfl) ?_
   refine q0 ?_
   obtain ⟨t25, ht25, hsy1⟩ := bE hsy1'; clear hsy1'
   refine sq_b rfl (g_callC [(3001, 2515), (3004, 3015), (3120, 3515)] (decompose_expander_1_g _ ht25) (lq rfl) (by decide) rfl ⟨rfl, rfl, rfl, rfl, rfl, trivial⟩ rfl rfl ⟨rfl, rfl, rfl, trivial⟩ rfl rfl rfl (fun _ => rfl) rfl) ?_
   obtain ⟨r1008_2, hr1008_2, hsy1'⟩ := bE hsy1; clear hsy1
   refine sq_b rfl (m_append (en := eI) (l := r1008) (m := t25.1) (lq rfl) S30 rfl rfl rfl hr1008_2 (by decide) (by decide) rfl rfl) ?_
   refine q13 ?_
   refine sq_nil <| avc_sq <| q2 ?_
   refine q0 ?_
   refine sq_nil ?_
   cases hsy1'
   exact wc
  ·
   replace hsy1 := cF c1 hsy1
   refine avc_exit ?_
   cases hsy1
   intro q; cases q
   exact out_mk (wc)
 ·
  refine avc_sq2 <| avc_sq <| q34 L43_0 ?_
  refine q15 O37 ?_
  refine q7 ?_
  refine sq_weak (weak_row_d (t := 30) (lq rfl) rfl rfl) ?_ (by simp)
  obtain ⟨t31, ht31, h⟩ := bE h'; clear h'
  refine sq_b rfl (g_call [(100, 2531)] (ordering_Sort_g ht31) (lq rfl) (by decide) ⟨rfl, rfl, trivial⟩ rfl rfl trivial rfl rfl rfl (fun _ => rfl) rfl) ?_
  refine q13 ?_
  refine sq_nil ?_
  cases h
  refine avc_ret ?_
  exact ret_1 rfl
theorem decompose_Text_g  {a0 : Norm} {a1 : (List Int)} {a2 : Bool}  {r : (List Int)} (h : decompose_Text a0 a1 a2 = some r) : GC Tryd.prog 20 [.d (eNorm.dv a0), .d (dsl eI a1), .d (db a2)] [] [] [.row 2531] [(2531, .row 3 eI.size false (eI.all r))] := by
 refine gc_of Tryd.func20 (by kernel_rfl) rfl (lq rfl) (lq rfl) fun w0 I0 hG0 p0 => ?_
 unfold decompose_Text at h
 refine avc_sq2 <| avc_sq ?_
 refine sq_b rfl (s_box_agg (lq rfl) rfl rfl) ?_
 refine q1 ?_
 refine sq_nil <| avc_sq2 <| avc_sq ?_
 refine sqa ((a_load_boxA (lq rfl) G43 rfl rfl rfl rfl).data rfl) ?_
 obtain ⟨t12, ht12, h'⟩ := bE h; clear h
 refine sqa (a_call (lq rfl) rfl (decompose_usable_c ht12)) ?_
 refine q8 G43 ?_
 refine sq_nil <| avc_sq2 <| avc_sq ?_
 refine sqa ((a_load_boxA (lq rfl) G43 rfl rfl rfl rfl).data rfl) ?_
 refine q0 ?_
 obtain ⟨t15, ht15, h⟩ := bE h'; clear h'
 refine sq_b rfl (g_callA [(5, 2515), (6, 3015), (7, 3515)] (decompose_expander_a ht15) (lq rfl) (by decide) ⟨rfl, rfl, trivial⟩ rfl rfl trivial rfl rfl rfl (fun _ => rfl) rfl) ?_
 refine sqa (a_assign_to (lq rfl) rfl) ?_
 refine sq_nil <| avc_sq2 <| avc_sq <| q1 ?_
 refine sq_nil ?_
 refine avc_weak (weak_nil (t := 8) 1008 3 eI.size (lq rfl) (lq rfl) rfl rfl) ?_
 refine avc_sq2 <| avc_sq2 <| avc_sq <| q0 ?_
 refine sqa (m_len (en := eI) (l := a1) (lq rfl) S30 rfl) ?_
 refine q0 ?_
 refine sq_nil <| avc_block ?_
 obtain ⟨y1, hy1, h'⟩ := bE h; clear h
 refine avc_tail (e := (.exit 0)) (S2 := ⟨[(3, .ptr 3 0), (8, .row 1008)], [(3, .box 43 [.d (dsl eSpan t12.Classes), .d (dsl eMapping t12.Decomp), .d (dsl eRange t12.Excluded.Ranges)]), (1008, .row 3 eI.size false (eI.all y1))]⟩) ?_ ?_
 ·
  refine avc_loopM (fun x => ⟨[(3, .ptr 3 0), (7, .clo 57 [.ptr 2515 0, .d (.pt (eNorm.cells ({ Classes := t12.Classes, Decomp := t12.Decomp, Excluded := ({ Ranges := t12.Excluded.Ranges } : Set) } : Norm))), .d (.pt [(db a2)]), .ptr 3015 0]), (8, .row 1008), (16, .d (dsl eI a1)), (17, .d (di (a1.length : Int))), (18, .d (di x.1))], [(3, .box 43 [.d (dsl eSpan t12.Classes), .d (dsl eMapping t12.Decomp), .d (dsl eRange t12.Excluded.Ranges)]), (1008, .row 3 eI.size false (eI.all x.2.1)), (2515, .box 96 [.row 3515]), (3015, .box 76 [.clo 57 [.ptr 2515 0, .d (.pt (eNorm.cells ({ Classes := t12.Classes, Decomp := t12.Decomp, Excluded := ({ Ranges := t12.Excluded.Ranges } : Set) } : Norm))), .d (.pt [(db a2)]), .ptr 3015 0]]), (3515, .map (mapE kI (eL eI) x.2.2))]⟩) hy1 (wc) ?_
  rintro ⟨v18, r1008, r3515⟩ sy1 hsy1
  replace hsy1 : decompose_Text_L0 a1 t12 a2 v18 r1008 r3515 = some sy1 := hsy1
  unfold decompose_Text_L0 at hsy1
  refine avc_sq2 <| avc_sq <| q5 ?_
  refine sq_nil <| avc_sq2 ?_
  refine avc_if rfl ⟨fun c1 => ?_, fun c1 => ?_⟩
  ·
   replace hsy1 := cT c1 hsy1
   refine avc_skip <| avc_sq2 <| avc_block <| avc_sq2 <| avc_sq ?_
   obtain ⟨t20, ht20, hsy1'⟩ := bE hsy1; clear hsy1
   refine sqa (m_index (en := eI) (lq rfl) S30 rfl rfl ht20) ?_
   refine sqa (m_loadE (en := eI) (l := a1) (i := v18) (v := t20) (off := 0) (lq rfl) O3 rfl ht20 rfl) ?_
   refine q1 ?_
   refine sq_nil <| avc_sq <| q7 ?_
   refine sqa (a_move_to (lq rfl) rfl) ?_
   refine q0 ?_
   obtain ⟨t25, ht25, hsy1⟩ := bE hsy1'; clear hsy1'
   refine sq_b rfl (g_callC [(3001, 2515), (3004, 3015), (3120, 3515)] (decompose_expander_1_g _ ht25) (lq rfl) (by decide) rfl ⟨rfl, rfl, rfl, rfl, rfl, trivial⟩ rfl rfl ⟨rfl, rfl, rfl, trivial⟩ rfl rfl rfl (fun _ => rfl) rfl) ?_
   obtain ⟨r1008_2, hr1008_2, hsy1'⟩ := bE hsy1; clear hsy1
   refine sq_b rfl (m_append (en := eI) (l := r1008) (m := t25.1) (lq rfl) S30 rfl rfl rfl hr1008_2 (by decide) (by decide) rfl rfl) ?_
   refine q13 ?_
   refine sq_nil <| avc_sq <| q2 ?_
   refine q0 ?_
   refine sq_nil ?_
   cases hsy1'
   exact wc
  ·
   replace hsy1 := cF c1 hsy1
   refine avc_exit ?_
   cases hsy1
   intro q; cases q
   exact out_mk (wc)
 ·
  refine avc_sq2 <| avc_sq <| q34 L43_0 ?_
  refine q15 O37 ?_
  refine q7 ?_
  refine sq_weak (weak_row_d (t := 30) (lq rfl) rfl rfl) ?_ (by simp)
  obtain ⟨t31, ht31, h⟩ := bE h'; clear h'
  refine sq_b rfl (g_call [(100, 2531)] (ordering_Sort_g ht31) (lq rfl) (by decide) ⟨rfl, rfl, trivial⟩ rfl rfl trivial rfl rfl rfl (fun _ => rfl) rfl) ?_
  refine q13 ?_
  refine sq_nil ?_
  cases h
  refine avc_ret ?_
  exact ⟨⟨_, _, rfl, rfl, rfl⟩, ⟨rfl, trivial⟩⟩
set_option maxHeartbeats 8000000 in
theorem colltable_Elements_c  {a0 : Norm} {a1 : Collation} {a2 : (List Int)}  {r : (List Element)} (h : colltable_Elements a0 a1 a2 = some r) : Contract Tryd.prog 21 [(eNorm.dv a0), (eCollation.dv a1), (dsl eI a2)] [(dsl eElement r)] := by
 refine contract_of Tryd.func21 (by kernel_rfl) rfl (lq rfl) (lq rfl) fun w0 I0 hI0 hG0 => ?_
 unfold colltable_Elements at h
 refine avc_sq2 <| avc_sq ?_
 refine sqa (m_box (size := 3) (lq rfl) rfl rfl) ?_
 refine sqa (m_box (size := 5) (lq rfl) rfl rfl) ?_
 refine q1 ?_
 refine sq_nil <| avc_sq2 ?_
 obtain ⟨t14, ht14, h'⟩ := bE h; clear h
 obtain ⟨t16, ht16, h⟩ := bE h'; clear h'
 refine avc_tail (e := .normal) (S2 := ⟨[(2, .d (dsl eI a2)), (3, .d (.pt (eNorm.cells a0))), (7, .ptr 2514 0)], [(2514, .box 87 [.d (dsl eEntry t16.c.Entries), .d (dsl eGroup t16.c.Groups), .d (di t16.c.Base), .d (di t16.c.Second), .d (di t16.c.Third), .row 3014, .d (di t16.longest), .d (dsl eSpan t16.classes), .d (di t16.top)]), (3014, .map (mapE kA9Int (eL eElement) t16.entries))]⟩) ?_ ?_
 ·
  refine avc_any MX ?_
  refine xn [0,2] ?_
  refine xa rfl (m_loadPt (lq rfl) G25 rfl rfl) ?_ ?_
  ·
   refine xn [1,2] ?_
   refine xb rfl (g_call [(13, 2514), (11, 3014)] (colltable_made_g ht14) (lq rfl) (by decide) ⟨rfl, trivial⟩ rfl rfl trivial rfl rfl rfl (fun _ => rfl) rfl) ?_ ?_
   ·
    refine xn [2] ?_
    refine xc rfl (m_loadPt (lq rfl) G43 rfl rfl) ?_
    refine xn [3] ?_
    refine xd rfl (g_call [(3000, 2514), (3105, 3014)] (colltable_table_with_g ht16) (lq rfl) (by decide) ⟨rfl, rfl, trivial⟩ rfl rfl ⟨rfl, rfl, trivial⟩ rfl rfl rfl (fun _ => rfl) rfl) ?_
    refine xn [4] ?_
    refine xc rfl (a_assign_ptr (lq rfl) rfl) ?_
    exact any_end rfl (out_mk (wc))
   refine xc rfl (m_loadPt (lq rfl) G43 rfl rfl) ?_
   refine xn [1] ?_
   refine xd rfl (g_call [(13, 2514), (11, 3014)] (colltable_made_g ht14) (lq rfl) (by decide) ⟨rfl, trivial⟩ rfl rfl trivial rfl rfl rfl (fun _ => rfl) rfl) ?_
   refine xn [3] ?_
   refine xd rfl (g_call [(3000, 2514), (3105, 3014)] (colltable_table_with_g ht16) (lq rfl) (by decide) ⟨rfl, rfl, trivial⟩ rfl rfl ⟨rfl, rfl, trivial⟩ rfl rfl rfl (fun _ => rfl) rfl) ?_
   refine xn [4] ?_
   refine xc rfl (a_assign_ptr (lq rfl) rfl) ?_
   exact any_end rfl (out_mk (wc))
  refine xc rfl (m_loadPt (lq rfl) G43 rfl rfl) ?_
  refine xn [0] ?_
  refine xc rfl (m_loadPt (lq rfl) G25 rfl rfl) ?_
  refine xn [1] ?_
  refine xd rfl (g_call [(13, 2514), (11, 3014)] (colltable_made_g ht14) (lq rfl) (by decide) ⟨rfl, trivial⟩ rfl rfl trivial rfl rfl rfl (fun _ => rfl) rfl) ?_
  refine xn [3] ?_
  refine xd rfl (g_call [(3000, 2514), (3105, 3014)] (colltable_table_with_g ht16) (lq rfl) (by decide) ⟨rfl, rfl, trivial⟩ rfl rfl ⟨rfl, rfl, trivial⟩ rfl rfl rfl (fun _ => rfl) rfl) ?_
  refine xn [4] ?_
  refine xc rfl (a_assign_ptr (lq rfl) rfl) ?_
  exact any_end rfl (out_mk (wc))
 refine avc_weak (weak_map_box (bid := 2514) (off := 5) rfl rfl rfl) ?_
 refine avc_weak (weak_freeze (t := 7) (lq rfl) rfl rfl rfl) ?_
 refine avc_sq2 <| avc_sq <| q1 ?_
 refine sq_nil ?_
 refine avc_weak (weak_nil (t := 8) 1008 63 eElement.size (lq rfl) (lq rfl) rfl rfl) ?_
 refine avc_sq2 <| avc_sq2 <| avc_sq <| q17 G43 ?_
 refine q0 ?_
 obtain ⟨t19, ht19, h'⟩ := bE h; clear h
 refine sq_b rfl (g_call [(2531, 2519)] (decompose_Text_g ht19) (lq rfl) (by decide) ⟨rfl, rfl, rfl, trivial⟩ rfl rfl trivial rfl rfl rfl (fun _ => rfl) rfl) ?_
 refine q13 ?_
 refine sq_nil ?_
 refine avc_weak (weak_row_win (id := 2519) rfl) ?_
 refine avc_block ?_
 obtain ⟨y1, hy1, h⟩ := bE h'; clear h'
 refine avc_tail (e := (.exit 0)) (S2 := ⟨[(8, .row 1008)], [(1008, .row 63 eElement.size false (eElement.all y1))]⟩) ?_ ?_
 ·
  refine avc_loopM (fun x => ⟨[(7, .d (.pt (eColltable_table.cells t16))), (8, .row 1008), (9, .row 2519)], [(1008, .row 63 eElement.size false (eElement.all x.1)), (2519, .win 3 eI.size 0 (eI.all x.2))]⟩) hy1 (wc) ?_
  rintro ⟨r1008, r2519⟩ sy1 hsy1
  replace hsy1 : colltable_Elements_L0 t16 r1008 r2519 = some sy1 := hsy1
  unfold colltable_Elements_L0 at hsy1
  refine avc_sq2 <| avc_sq2 <| avc_sq <| q7 ?_
  refine sqa (m_lenW (en := eI) (l := r2519) (lq rfl) S30 rfl rfl) ?_
  refine q21 ?_
  refine sq_nil ?_
  refine avc_if rfl ⟨fun c1 => ?_, fun c1 => ?_⟩
  ·
   replace hsy1 := cT c1 hsy1
   refine avc_skip <| avc_block <| avc_sq2 <| avc_sq <| q0 ?_
   refine q7 ?_
   obtain ⟨t26, ht26, hsy1'⟩ := bE hsy1; clear hsy1
   refine sq_b rfl (g_call [(3001, 2519)] (colltable_table_match_g ht26) (lq rfl) (by decide) ⟨rfl, rfl, trivial⟩ rfl rfl ⟨rfl, trivial⟩ rfl rfl rfl (fun _ => rfl) rfl) ?_
   refine sqa (a_move_tupc (lq rfl) rfl) ?_
   refine q31 ?_
   refine q31 ?_
   refine q31 ?_
   refine q1 ?_
   refine q1 ?_
   refine q1 ?_
   refine sq_nil <| avc_sq2 <| avc_sq <| q7 ?_
   refine q0 ?_
   obtain ⟨r1008_2, hr1008_2, hsy1⟩ := bE hsy1'; clear hsy1'
   refine sq_b rfl (m_append (en := eElement) (l := r1008) (m := t26.2.1) (lq rfl) S31 rfl rfl rfl hr1008_2 (by decide) (by decide) rfl rfl) ?_
   refine q13 ?_
   refine sq_nil <| avc_sq <| q7 ?_
   refine q0 ?_
   obtain ⟨r2519_3, hr2519_3, hsy1'⟩ := bE hsy1; clear hsy1
   refine sq_b rfl (m_shrink (en := eI) (l := t26.2.2.2) (lq rfl) S30 rfl rfl rfl hr2519_3 (Nat.le_refl _) rfl) ?_
   refine q13 ?_
   refine sq_nil ?_
   cases hsy1'
   exact wc
  ·
   replace hsy1 := cF c1 hsy1
   refine avc_exit ?_
   cases hsy1
   intro q; cases q
   exact out_mk (wc)
 ·
  refine avc_sq2 <| avc_sq <| q7 ?_
  refine q13 ?_
  refine sq_nil ?_
  cases h
  refine avc_ret ?_
  exact ret_1 rfl
set_option maxHeartbeats 8000000 in
theorem colltable_Known_c  {a0 : Norm} {a1 : Collation} {a2 : (List Int)}  {r : Bool} (h : colltable_Known a0 a1 a2 = some r) : Contract Tryd.prog 22 [(eNorm.dv a0), (eCollation.dv a1), (dsl eI a2)] [(db r)] := by
 refine contract_of Tryd.func22 (by kernel_rfl) rfl (lq rfl) (lq rfl) fun w0 I0 hI0 hG0 => ?_
 unfold colltable_Known at h
 refine avc_sq2 <| avc_sq ?_
 refine sqa (m_box (size := 3) (lq rfl) rfl rfl) ?_
 refine sqa (m_box (size := 5) (lq rfl) rfl rfl) ?_
 refine q1 ?_
 refine sq_nil <| avc_sq2 ?_
 obtain ⟨t13, ht13, h'⟩ := bE h; clear h
 obtain ⟨t15, ht15, h⟩ := bE h'; clear h'
 refine avc_tail (e := .normal) (S2 := ⟨[(2, .d (dsl eI a2)), (3, .d (.pt (eNorm.cells a0))), (7, .ptr 2513 0)], [(2513, .box 87 [.d (dsl eEntry t15.c.Entries), .d (dsl eGroup t15.c.Groups), .d (di t15.c.Base), .d (di t15.c.Second), .d (di t15.c.Third), .row 3013, .d (di t15.longest), .d (dsl eSpan t15.classes), .d (di t15.top)]), (3013, .map (mapE kA9Int (eL eElement) t15.entries))]⟩) ?_ ?_
 ·
  refine avc_any MX ?_
  refine xn [0,2] ?_
  refine xa rfl (m_loadPt (lq rfl) G25 rfl rfl) ?_ ?_
  ·
   refine xn [1,2] ?_
   refine xb rfl (g_call [(13, 2513), (11, 3013)] (colltable_made_g ht13) (lq rfl) (by decide) ⟨rfl, trivial⟩ rfl rfl trivial rfl rfl rfl (fun _ => rfl) rfl) ?_ ?_
   ·
    refine xn [2] ?_
    refine xc rfl (m_loadPt (lq rfl) G43 rfl rfl) ?_
    refine xn [3] ?_
    refine xd rfl (g_call [(3000, 2513), (3105, 3013)] (colltable_table_with_g ht15) (lq rfl) (by decide) ⟨rfl, rfl, trivial⟩ rfl rfl ⟨rfl, rfl, trivial⟩ rfl rfl rfl (fun _ => rfl) rfl) ?_
    refine xn [4] ?_
    refine xc rfl (a_assign_ptr (lq rfl) rfl) ?_
    exact any_end rfl (out_mk (wc))
   refine xc rfl (m_loadPt (lq rfl) G43 rfl rfl) ?_
   refine xn [1] ?_
   refine xd rfl (g_call [(13, 2513), (11, 3013)] (colltable_made_g ht13) (lq rfl) (by decide) ⟨rfl, trivial⟩ rfl rfl trivial rfl rfl rfl (fun _ => rfl) rfl) ?_
   refine xn [3] ?_
   refine xd rfl (g_call [(3000, 2513), (3105, 3013)] (colltable_table_with_g ht15) (lq rfl) (by decide) ⟨rfl, rfl, trivial⟩ rfl rfl ⟨rfl, rfl, trivial⟩ rfl rfl rfl (fun _ => rfl) rfl) ?_
   refine xn [4] ?_
   refine xc rfl (a_assign_ptr (lq rfl) rfl) ?_
   exact any_end rfl (out_mk (wc))
  refine xc rfl (m_loadPt (lq rfl) G43 rfl rfl) ?_
  refine xn [0] ?_
  refine xc rfl (m_loadPt (lq rfl) G25 rfl rfl) ?_
  refine xn [1] ?_
  refine xd rfl (g_call [(13, 2513), (11, 3013)] (colltable_made_g ht13) (lq rfl) (by decide) ⟨rfl, trivial⟩ rfl rfl trivial rfl rfl rfl (fun _ => rfl) rfl) ?_
  refine xn [3] ?_
  refine xd rfl (g_call [(3000, 2513), (3105, 3013)] (colltable_table_with_g ht15) (lq rfl) (by decide) ⟨rfl, rfl, trivial⟩ rfl rfl ⟨rfl, rfl, trivial⟩ rfl rfl rfl (fun _ => rfl) rfl) ?_
  refine xn [4] ?_
  refine xc rfl (a_assign_ptr (lq rfl) rfl) ?_
  exact any_end rfl (out_mk (wc))
 refine avc_weak (weak_map_box (bid := 2513) (off := 5) rfl rfl rfl) ?_
 refine avc_weak (weak_freeze (t := 7) (lq rfl) rfl rfl rfl) ?_
 refine avc_sq2 <| avc_sq2 <| avc_sq <| q17 G43 ?_
 refine q0 ?_
 obtain ⟨t18, ht18, h'⟩ := bE h; clear h
 refine sq_b rfl (g_call [(2531, 2518)] (decompose_Text_g ht18) (lq rfl) (by decide) ⟨rfl, rfl, rfl, trivial⟩ rfl rfl trivial rfl rfl rfl (fun _ => rfl) rfl) ?_
 refine q13 ?_
 refine sq_nil ?_
 refine avc_weak (weak_row_win (id := 2518) rfl) ?_
 refine avc_block ?_
 obtain ⟨y1, hy1, h⟩ := bE h'; clear h'
 refine avc_tail2 y1 (.exit 0) (fun y1 => ⟨[], []⟩) .ret (fun y1 => ⟨[(6, .d (db y1))], []⟩) ?_ ?_ ?_
 ·
  refine avc_loopM (fun x => ⟨[(7, .d (.pt (eColltable_table.cells t15))), (8, .row 2518)], [(2518, .win 3 eI.size 0 (eI.all x))]⟩) hy1 (wc) ?_
  rintro r2518 sy1 hsy1
  replace hsy1 : colltable_Known_L0 t15 r2518 = some sy1 := hsy1
  unfold colltable_Known_L0 at hsy1
  refine avc_sq2 <| avc_sq2 <| avc_sq <| q7 ?_
  refine sqa (m_lenW (en := eI) (l := r2518) (lq rfl) S30 rfl rfl) ?_
  refine q21 ?_
  refine sq_nil ?_
  refine avc_if rfl ⟨fun c1 => ?_, fun c1 => ?_⟩
  ·
   replace hsy1 := cT c1 hsy1
   refine avc_skip <| avc_block <| avc_sq2 <| avc_sq <| q0 ?_
   refine q7 ?_
   obtain ⟨t25, ht25, hsy1'⟩ := bE hsy1; clear hsy1
   refine sq_b rfl (g_call [(3001, 2518)] (colltable_table_match_g ht25) (lq rfl) (by decide) ⟨rfl, rfl, trivial⟩ rfl rfl ⟨rfl, trivial⟩ rfl rfl rfl (fun _ => rfl) rfl) ?_
   refine sqa (a_move_tupc (lq rfl) rfl) ?_
   refine q31 ?_
   refine q31 ?_
   refine q31 ?_
   refine q1 ?_
   refine q1 ?_
   refine q1 ?_
   refine sq_nil <| avc_sq2 <| avc_sq2 <| avc_sq <| q0 ?_
   refine q18 ?_
   refine sq_nil ?_
   refine avc_if rfl ⟨fun c2 => ?_, fun c2 => ?_⟩
   ·
    replace hsy1' := cT c2 hsy1'
    refine avc_sq2 <| avc_sq <| q1 ?_
    refine sq_nil <| avc_ret ?_
    cases hsy1'
    intro q; cases q
    exact ⟨rfl, wc⟩
   ·
    replace hsy1' := cF c2 hsy1'
    refine avc_skip <| avc_sq <| q7 ?_
    refine q0 ?_
    obtain ⟨r2518_2, hr2518_2, hsy1⟩ := bE hsy1'; clear hsy1'
    refine sq_b rfl (m_shrink (en := eI) (l := t25.2.2.2) (lq rfl) S30 rfl rfl rfl hr2518_2 (Nat.le_refl _) rfl) ?_
    refine q13 ?_
    refine sq_nil ?_
    cases hsy1
    exact wc
  ·
   replace hsy1 := cF c1 hsy1
   refine avc_exit ?_
   cases hsy1
   intro q; cases q
   exact ⟨rfl, wc⟩
 ·
  rintro y1 rfl
  replace h := eL h
  refine avc_sq2 <| avc_sq <| q1 ?_
  refine sq_nil ?_
  cases h
  refine avc_ret ?_
  exact ret_1 rfl
 ·
  rintro y1 rfl
  replace h := eR h
  cases h
  exact ret_1 rfl
set_option maxRecDepth 40000 in
theorem law43_ColltableSame_c  {a0 : Unicodetextlaw43_Case} {a1 : (List Int)}  {r : Bool} (h : law43_ColltableSame a0 a1 = some r) : Contract Tryd.prog 7 [(eUnicodetextlaw43_Case.dv a0), (dsl eI a1)] [(db r)] := by
 refine contract_of Tryd.func7 (by kernel_rfl) rfl (lq rfl) (lq rfl) fun w0 I0 hI0 hG0 => ?_
 unfold law43_ColltableSame at h
 refine avc_sq2 <| avc_sq ?_
 refine sqa (m_box (size := 9) (lq rfl) rfl rfl) ?_
 refine q1 ?_
 refine sq_nil <| avc_sq2 <| avc_sq2 <| avc_sq <| q17 G45 ?_
 obtain ⟨t9, ht9, h'⟩ := bE h; clear h
 refine sqa (a_call (lq rfl) rfl (law43_few_c ht9)) ?_
 refine q18 ?_
 obtain ⟨b11, hb11, h⟩ := bE h'; clear h'
 refine sqa ((a_move_d (lq rfl) rfl).bool (Option.some.inj hb11)) ?_
 refine sqf (.d (dsl eI a1)) rfl (fun hb => by subst hb; exact a_move_d (lq rfl) rfl) ?_
 refine sqf (.d (di (a1.length : Int))) rfl (fun hb => by subst hb; exact m_len (en := eI) (l := a1) (lq rfl) S30 rfl) ?_
 refine sqf (.d (db (decide (12 < (a1.length : Int))))) rfl (fun hb => by subst hb; exact a_gtr (lq rfl) rfl rfl) ?_
 refine q11 ?_
 refine sq_nil ?_
 refine avc_if rfl ⟨fun c1 => ?_, fun c1 => ?_⟩
 ·
  replace h := cT c1 h
  refine avc_sq2 <| avc_sq ?_
  obtain ⟨t16, ht16, h'⟩ := bE h; clear h
  refine sqa (a_call (lq rfl) rfl (law43_alive_c ht16)) ?_
  refine q1 ?_
  refine sq_nil ?_
  cases h'
  refine avc_ret ?_
  exact ret_1 rfl
 ·
  replace h := cF c1 h
  refine avc_skip <| avc_sq2 ?_
  refine avc_drawA MX rfl ?_
  refine q10 L45_0 ?_
  refine q30 G43 ?_
  refine q10 L45_1 ?_
  refine q30 G25 ?_
  refine q10 L45_2 ?_
  refine q14 O30 ?_
  obtain ⟨t23, ht23, h'⟩ := bE h; clear h
  refine daa (a_call (lq rfl) rfl (colltable_Elements_c ht23)) ?_
  refine q10 L45_0 ?_
  refine q30 G43 ?_
  refine q10 L45_1 ?_
  refine q30 G25 ?_
  refine q6 ?_
  obtain ⟨t29, ht29, h⟩ := bE h'; clear h'
  refine daa (a_call (lq rfl) rfl (colltable_Elements_c ht29)) ?_
  refine q25 ?_
  refine q25 ?_
  refine da_nil <| avc_sq2 <| avc_sq2 ?_
  refine avc_drawA MX rfl ?_
  refine q10 L45_0 ?_
  refine q30 G43 ?_
  refine q10 L45_1 ?_
  refine q30 G25 ?_
  refine q10 L45_0 ?_
  refine q30 G43 ?_
  refine q10 L45_2 ?_
  refine q14 O30 ?_
  obtain ⟨t38, ht38, h'⟩ := bE h; clear h
  refine daa (a_call (lq rfl) rfl (decompose_Text_c ht38)) ?_
  obtain ⟨t39, ht39, h⟩ := bE h'; clear h'
  refine daa (a_call (lq rfl) rfl (colltable_Elements_c ht39)) ?_
  refine q6 ?_
  obtain ⟨t41, ht41, h'⟩ := bE h; clear h
  refine daa (a_call (lq rfl) rfl (ref43_Same_c ht41)) ?_
  refine daa (a_not (lq rfl) rfl) ?_
  refine da_nil ?_
  refine avc_if rfl ⟨fun c2 => ?_, fun c2 => ?_⟩
  ·
   replace h' := cT c2 h'
   refine avc_sq2 <| avc_sq <| q1 ?_
   refine sq_nil ?_
   cases h'
   refine avc_ret ?_
   exact ret_1 rfl
  ·
   replace h' := cF c2 h'
   refine avc_skip <| avc_sq2 ?_
   refine avc_drawA MX rfl ?_
   refine q10 L45_0 ?_
   refine q30 G43 ?_
   refine q10 L45_2 ?_
   refine q14 O30 ?_
   obtain ⟨t47, ht47, h⟩ := bE h'; clear h'
   refine daa (a_call (lq rfl) rfl (decompose_Text_c ht47)) ?_
   refine q10 L45_0 ?_
   refine q30 G43 ?_
   refine q6 ?_
   obtain ⟨t51, ht51, h'⟩ := bE h; clear h
   refine daa (a_call (lq rfl) rfl (decompose_Text_c ht51)) ?_
   obtain ⟨t52, ht52, h⟩ := bE h'; clear h'
   refine daa (a_call (lq rfl) rfl (ref01_Equal_c ht52)) ?_
   refine q25 ?_
   refine da_nil <| avc_sq2 ?_
   refine avc_drawA MX rfl ?_
   refine q6 ?_
   refine daa (a_not (lq rfl) rfl) ?_
   obtain ⟨b55, hb55, h'⟩ := bE h; clear h
   refine daa ((a_move_d (lq rfl) rfl).bool (Option.some.inj hb55)) ?_
   refine daf (.d (dsl eElement t23)) rfl (fun hb => by subst hb; exact a_move_d (lq rfl) rfl) ?_
   refine daf (.d (dsl eElement t29)) rfl (fun hb => by subst hb; exact a_move_d (lq rfl) rfl) ?_
   obtain ⟨t58, ht58, h⟩ := bE h'; clear h'
   refine daf (.d (db t58)) rfl (fun hb => by subst hb; exact a_call (lq rfl) rfl (ref43_Same_c ht58)) ?_
   obtain ⟨b59, hb59, h'⟩ := bE h; clear h
   refine daf (.d (db b59)) rfl (fun hb => by subst hb; exact (a_move_d (lq rfl) rfl).bool (Option.some.inj hb59)) ?_
   refine da_g2 (x := .ip (eUnicodetextlaw43_Case.cells a0) (0 + 0)) rfl rfl rfl (lq rfl) (lq rfl) rfl (fun hb => by obtain ⟨hb, hb1⟩ := and_split hb; obtain rfl := gF hb; obtain rfl : b59 = true := hb1; exact m_fieldPt (lq rfl) L45_0 rfl) ?_
   refine da_g2 (x := .d (eNorm.dv a0.N)) rfl rfl rfl (lq rfl) (lq rfl) rfl (fun hb => by obtain ⟨hb, hb1⟩ := and_split hb; obtain rfl := gF hb; obtain rfl : b59 = true := hb1; exact a_load_ipA (lq rfl) G43 rfl rfl rfl) ?_
   refine da_g2 (x := .ip (eUnicodetextlaw43_Case.cells a0) (0 + 3)) rfl rfl rfl (lq rfl) (lq rfl) rfl (fun hb => by obtain ⟨hb, hb1⟩ := and_split hb; obtain rfl := gF hb; obtain rfl : b59 = true := hb1; exact m_fieldPt (lq rfl) L45_1 rfl) ?_
   refine da_g2 (x := .d (eCollation.dv a0.C)) rfl rfl rfl (lq rfl) (lq rfl) rfl (fun hb => by obtain ⟨hb, hb1⟩ := and_split hb; obtain rfl := gF hb; obtain rfl : b59 = true := hb1; exact a_load_ipA (lq rfl) G25 rfl rfl rfl) ?_
   refine da_g2 (x := .ip (eUnicodetextlaw43_Case.cells a0) (0 + 8)) rfl rfl rfl (lq rfl) (lq rfl) rfl (fun hb => by obtain ⟨hb, hb1⟩ := and_split hb; obtain rfl := gF hb; obtain rfl : b59 = true := hb1; exact m_fieldPt (lq rfl) L45_2 rfl) ?_
   refine da_g2 (x := .d (dsl eI a0.Text)) rfl rfl rfl (lq rfl) (lq rfl) rfl (fun hb => by obtain ⟨hb, hb1⟩ := and_split hb; obtain rfl := gF hb; obtain rfl : b59 = true := hb1; exact a_load_ip (lq rfl) O30 rfl rfl) ?_
   obtain ⟨t66, ht66, h⟩ := bE h'; clear h'
   refine da_g2 (x := .d (db t66)) rfl rfl rfl (lq rfl) (lq rfl) rfl (fun hb => by obtain ⟨hb, hb1⟩ := and_split hb; obtain rfl := gF hb; obtain rfl : b59 = true := hb1; exact a_call (lq rfl) rfl (colltable_Known_c ht66)) ?_
   refine da_g2 (x := .ip (eUnicodetextlaw43_Case.cells a0) (0 + 0)) rfl rfl rfl (lq rfl) (lq rfl) rfl (fun hb => by obtain ⟨hb, hb1⟩ := and_split hb; obtain rfl := gF hb; obtain rfl : b59 = true := hb1; exact m_fieldPt (lq rfl) L45_0 rfl) ?_
   refine da_g2 (x := .d (eNorm.dv a0.N)) rfl rfl rfl (lq rfl) (lq rfl) rfl (fun hb => by obtain ⟨hb, hb1⟩ := and_split hb; obtain rfl := gF hb; obtain rfl : b59 = true := hb1; exact a_load_ipA (lq rfl) G43 rfl rfl rfl) ?_
   refine da_g2 (x := .ip (eUnicodetextlaw43_Case.cells a0) (0 + 3)) rfl rfl rfl (lq rfl) (lq rfl) rfl (fun hb => by obtain ⟨hb, hb1⟩ := and_split hb; obtain rfl := gF hb; obtain rfl : b59 = true := hb1; exact m_fieldPt (lq rfl) L45_1 rfl) ?_
   refine da_g2 (x := .d (eCollation.dv a0.C)) rfl rfl rfl (lq rfl) (lq rfl) rfl (fun hb => by obtain ⟨hb, hb1⟩ := and_split hb; obtain rfl := gF hb; obtain rfl : b59 = true := hb1; exact a_load_ipA (lq rfl) G25 rfl rfl rfl) ?_
   refine da_g2 (x := .d (dsl eI a1)) rfl rfl rfl (lq rfl) (lq rfl) rfl (fun hb => by obtain ⟨hb, hb1⟩ := and_split hb; obtain rfl := gF hb; obtain rfl : b59 = true := hb1; exact a_move_d (lq rfl) rfl) ?_
   obtain ⟨t72, ht72, h'⟩ := bE h; clear h
   refine da_g2 (x := .d (db t72)) rfl rfl rfl (lq rfl) (lq rfl) rfl (fun hb => by obtain ⟨hb, hb1⟩ := and_split hb; obtain rfl := gF hb; obtain rfl : b59 = true := hb1; exact a_call (lq rfl) rfl (colltable_Known_c ht72)) ?_
   refine da_g2 (x := .d (db (t66 == t72))) rfl rfl rfl (lq rfl) (lq rfl) rfl (fun hb => by obtain ⟨hb, hb1⟩ := and_split hb; obtain rfl := gF hb; obtain rfl : b59 = true := hb1; exact a_beql (lq rfl) Tryd.underlying4 rfl rfl) ?_
   refine daf (.d (db (b59 && (t66 == t72)))) rfl (fun hb => by subst hb; exact a_pick_and (lq rfl) rfl rfl) ?_
   refine daa (a_pick_or (lq rfl) rfl rfl) ?_
   obtain ⟨b76, hb76, h⟩ := bE h'; clear h'
   refine daa ((a_move_d (lq rfl) rfl).bool (Option.some.inj hb76)) ?_
   obtain ⟨t77, ht77, h'⟩ := bE h; clear h
   refine dat (.d (db t77)) rfl (fun hb => by subst hb; exact a_call (lq rfl) rfl (law43_alive_c ht77)) ?_
   refine q33 ?_
   refine q25 ?_
   refine da_nil ?_
   cases h'
   refine avc_ret ?_
   exact ret_1 rfl
end Go.Proofs.YtgeaoceiacdadaaDoor.Walk


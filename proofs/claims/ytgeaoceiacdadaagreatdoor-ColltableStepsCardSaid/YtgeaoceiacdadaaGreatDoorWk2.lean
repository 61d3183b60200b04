/- Each function of the program answers as its plain counterpart does, where that answers. Conditions: none. -/
import Derived.Test.YtgeaoceiacdadaaGreatDoorMir
import Derived.Test.YtgeaoceiacdadaaGreatDoorProg
import Derived.Test.YtgeaoceiacdadaaGreatDoorWk1
set_option linter.unusedSimpArgs false
set_option linter.unusedVariables false
set_option linter.unnecessarySimpa false
namespace Go.Proofs.YtgeaoceiacdadaaGreatDoor.Walk
open Go.AV Go.M Go.RowKit Go.Proofs
set_option maxHeartbeats 8000000 in
theorem colltable_Step_c  {a0} {a1} {a2}  {r} (h : colltable_Step a0 a1 a2 = some r) : Contract Tryz.prog 9 [(eNorm.dv a0), (eCollation.dv a1), (dsl eI a2)] [(di r.1), (dsl eI r.2.1), (dsl eElement r.2.2)] := by
 refine contract_of Tryz.func9 (by kernel_rfl) rfl (lq rfl) (lq rfl) fun w0 I0 hI0 hG0 => ?_
 unfold colltable_Step at h
 refine avc_sq2 <| avc_sq <| q28 ?_
 refine q41 ?_
 refine q1 ?_
 refine q1 ?_
 refine q1 ?_
 refine sq_nil <| avc_sq2 <| avc_sq2 <| avc_sq <| q0 ?_
 refine q5 S33 ?_
 refine q39 ?_
 refine sq_nil ?_
 refine ifM rfl h (fun _ h => ?_) (fun _ h => ?_)
 ·
  refine avc_sq2 <| avc_sq <| q1 ?_
  refine q1 ?_
  refine q1 ?_
  refine sq_nil ?_
  refine avc_weak (weak_nil_d (t := 7) eI.size (lq rfl) rfl) ?_
  refine avc_weak (weak_nil_d (t := 8) eElement.size (lq rfl) rfl) ?_
  cases h
  refine avc_ret ?_
  exact ret_three rfl rfl rfl
 ·
  refine avc_skip <| avc_sq2 <| avc_sq <| q0 ?_
  obtain ⟨t17, ht17, h⟩ := bE h
  refine sq_b rfl (g_call [(5, 2517)] (slices_Clone_int_int_g ht17) (lq rfl) (by decide) ⟨rfl, trivial⟩ rfl rfl trivial rfl rfl rfl (fun _ => rfl) rfl) ?_
  refine q13 ?_
  refine sq_nil <| avc_sq2 ?_
  obtain ⟨t20, ht20, h⟩ := bE h
  obtain ⟨t22, ht22, h⟩ := bE h
  obtain ⟨t24, ht24, h⟩ := bE h
  refine avc_tail (e := .normal) (S2 := ⟨[(9, .row 2517), (10, .d (di t24.1)), (11, .d (dsl eElement t24.2.1))], [(2517, .win 3 eI.size t24.1.toNat (eI.all t24.2.2.2))]⟩) ?_ ?_
  ·
   refine avc_any MX ?_
   refine any_move (i := 4) rfl (lq rfl) rfl rfl rfl rfl ?_
   refine xn [0,2] ?_
   refine xa rfl (m_loadPt (lq rfl) G32 rfl rfl) ?_ ?_
   ·
    refine xn [1,2] ?_
    refine xb rfl (g_call [(13, 2520), (11, 3020)] (colltable_made_g ht20) (lq rfl) (by decide) ⟨rfl, trivial⟩ rfl rfl trivial rfl rfl rfl (fun _ => rfl) rfl) ?_ ?_
    ·
     refine xn [2] ?_
     refine xc rfl (m_loadPt (lq rfl) G28 rfl rfl) ?_
     refine xn [3] ?_
     refine xd rfl (g_call [(3000, 2520), (3105, 3020)] (colltable_table_with_g ht22) (lq rfl) (by decide) ⟨rfl, rfl, trivial⟩ rfl rfl ⟨rfl, rfl, trivial⟩ rfl rfl rfl (fun _ => rfl) rfl) ?_
     refine any_w (weak_map_box (bid := 2520) (off := 5) rfl rfl rfl) ?_
     refine any_w (weak_freeze (t := 22) (lq rfl) rfl rfl rfl) ?_
     refine any_w (weak_row_win (id := 2517) rfl) ?_
     refine xn [5] ?_
     refine xd rfl (g_call [(3001, 2517)] (colltable_table_match_g ht24) (lq rfl) (by decide) ⟨rfl, rfl, trivial⟩ rfl rfl ⟨rfl, trivial⟩ rfl rfl rfl (fun _ => rfl) rfl) ?_
     refine any_move (i := 6) rfl (lq rfl) rfl rfl rfl rfl ?_
     refine any_extractC (i := 7) rfl (lq rfl) rfl rfl rfl rfl rfl rfl ?_
     refine any_extractC (i := 8) rfl (lq rfl) rfl rfl rfl rfl rfl rfl ?_
     refine any_extractC (i := 9) rfl (lq rfl) rfl rfl rfl rfl rfl rfl ?_
     refine xn [10] ?_
     refine xc rfl (a_assign_d (lq rfl) rfl) ?_
     refine xn [11] ?_
     refine xc rfl (a_assign_d (lq rfl) rfl) ?_
     refine xn [12] ?_
     refine xc rfl (a_assign_d (lq rfl) rfl) ?_
     exact any_end rfl (out_mk (wc))
    refine xc rfl (m_loadPt (lq rfl) G28 rfl rfl) ?_
    refine xn [1] ?_
    refine xd rfl (g_call [(13, 2520), (11, 3020)] (colltable_made_g ht20) (lq rfl) (by decide) ⟨rfl, trivial⟩ rfl rfl trivial rfl rfl rfl (fun _ => rfl) rfl) ?_
    refine xn [3] ?_
    refine xd rfl (g_call [(3000, 2520), (3105, 3020)] (colltable_table_with_g ht22) (lq rfl) (by decide) ⟨rfl, rfl, trivial⟩ rfl rfl ⟨rfl, rfl, trivial⟩ rfl rfl rfl (fun _ => rfl) rfl) ?_
    refine any_w (weak_map_box (bid := 2520) (off := 5) rfl rfl rfl) ?_
    refine any_w (weak_freeze (t := 22) (lq rfl) rfl rfl rfl) ?_
    refine any_w (weak_row_win (id := 2517) rfl) ?_
    refine xn [5] ?_
    refine xd rfl (g_call [(3001, 2517)] (colltable_table_match_g ht24) (lq rfl) (by decide) ⟨rfl, rfl, trivial⟩ rfl rfl ⟨rfl, trivial⟩ rfl rfl rfl (fun _ => rfl) rfl) ?_
    refine any_move (i := 6) rfl (lq rfl) rfl rfl rfl rfl ?_
    refine any_extractC (i := 7) rfl (lq rfl) rfl rfl rfl rfl rfl rfl ?_
    refine any_extractC (i := 8) rfl (lq rfl) rfl rfl rfl rfl rfl rfl ?_
    refine any_extractC (i := 9) rfl (lq rfl) rfl rfl rfl rfl rfl rfl ?_
    refine xn [10] ?_
    refine xc rfl (a_assign_d (lq rfl) rfl) ?_
    refine xn [11] ?_
    refine xc rfl (a_assign_d (lq rfl) rfl) ?_
    refine xn [12] ?_
    refine xc rfl (a_assign_d (lq rfl) rfl) ?_
    exact any_end rfl (out_mk (wc))
   refine xc rfl (m_loadPt (lq rfl) G28 rfl rfl) ?_
   refine xn [0] ?_
   refine xc rfl (m_loadPt (lq rfl) G32 rfl rfl) ?_
   refine xn [1] ?_
   refine xd rfl (g_call [(13, 2520), (11, 3020)] (colltable_made_g ht20) (lq rfl) (by decide) ⟨rfl, trivial⟩ rfl rfl trivial rfl rfl rfl (fun _ => rfl) rfl) ?_
   refine xn [3] ?_
   refine xd rfl (g_call [(3000, 2520), (3105, 3020)] (colltable_table_with_g ht22) (lq rfl) (by decide) ⟨rfl, rfl, trivial⟩ rfl rfl ⟨rfl, rfl, trivial⟩ rfl rfl rfl (fun _ => rfl) rfl) ?_
   refine any_w (weak_map_box (bid := 2520) (off := 5) rfl rfl rfl) ?_
   refine any_w (weak_freeze (t := 22) (lq rfl) rfl rfl rfl) ?_
   refine any_w (weak_row_win (id := 2517) rfl) ?_
   refine xn [5] ?_
   refine xd rfl (g_call [(3001, 2517)] (colltable_table_match_g ht24) (lq rfl) (by decide) ⟨rfl, rfl, trivial⟩ rfl rfl ⟨rfl, trivial⟩ rfl rfl rfl (fun _ => rfl) rfl) ?_
   refine any_move (i := 6) rfl (lq rfl) rfl rfl rfl rfl ?_
   refine any_extractC (i := 7) rfl (lq rfl) rfl rfl rfl rfl rfl rfl ?_
   refine any_extractC (i := 8) rfl (lq rfl) rfl rfl rfl rfl rfl rfl ?_
   refine any_extractC (i := 9) rfl (lq rfl) rfl rfl rfl rfl rfl rfl ?_
   refine xn [10] ?_
   refine xc rfl (a_assign_d (lq rfl) rfl) ?_
   refine xn [11] ?_
   refine xc rfl (a_assign_d (lq rfl) rfl) ?_
   refine xn [12] ?_
   refine xc rfl (a_assign_d (lq rfl) rfl) ?_
   exact any_end rfl (out_mk (wc))
  refine avc_weak (weak_win_d (t := 9) (lq rfl) rfl rfl) ?_
  refine avc_sq2 ?_
  obtain ⟨t35, ht35, h⟩ := bE h
  obtain ⟨t37, ht37, h⟩ := bE h
  refine avc_tail (e := .normal) (S2 := ⟨[(6, .d (di t24.1)), (7, .d (dsl eI t35)), (8, .row 2537)], [(2537, .row 63 eElement.size false (eElement.all t37))]⟩) ?_ ?_
  ·
   refine avc_any MX ?_
   refine any_move (i := 0) rfl (lq rfl) rfl rfl rfl rfl ?_
   refine any_move (i := 1) rfl (lq rfl) rfl rfl rfl rfl ?_
   refine any_move (i := 2) rfl (lq rfl) rfl rfl rfl rfl ?_
   refine any_move (i := 3) rfl (lq rfl) rfl rfl rfl rfl ?_
   refine any_move (i := 5) rfl (lq rfl) rfl rfl rfl rfl ?_
   refine any_move (i := 8) rfl (lq rfl) rfl rfl rfl rfl ?_
   refine xn [4,6,9] ?_
   refine xa rfl (m_len (en := eI) (l := t24.2.2.2) (lq rfl) S33 rfl) ?_ ?_
   ·
    refine xn [6,9] ?_
    refine xa rfl (m_len (en := eI) (l := t24.2.2.2) (lq rfl) S33 rfl) ?_ ?_
    ·
     refine xn [7,9] ?_
     refine xa rfl (m_slice3 (en := eI) (lq rfl) S33 rfl rfl rfl rfl ht35) ?_ ?_
     ·
      refine xn [9] ?_
      refine xd rfl (g_call [(5, 2537)] (slices_Clone_api_Element_api_Element_g ht37) (lq rfl) (by decide) ⟨rfl, trivial⟩ rfl rfl trivial rfl rfl rfl (fun _ => rfl) rfl) ?_
      refine xn [10] ?_
      refine xc rfl (a_assign_d (lq rfl) rfl) ?_
      refine xn [11] ?_
      refine xc rfl (a_assign_d (lq rfl) rfl) ?_
      refine xn [12] ?_
      refine xc rfl (a_assign_row (lq rfl) rfl) ?_
      exact any_end rfl (out_mk (wc))
     refine xd rfl (g_call [(5, 2537)] (slices_Clone_api_Element_api_Element_g ht37) (lq rfl) (by decide) ⟨rfl, trivial⟩ rfl rfl trivial rfl rfl rfl (fun _ => rfl) rfl) ?_
     refine xn [7,10] ?_
     refine xa rfl (m_slice3 (en := eI) (lq rfl) S33 rfl rfl rfl rfl ht35) ?_ ?_
     ·
      refine xn [10] ?_
      refine xc rfl (a_assign_d (lq rfl) rfl) ?_
      refine xn [11] ?_
      refine xc rfl (a_assign_d (lq rfl) rfl) ?_
      refine xn [12] ?_
      refine xc rfl (a_assign_row (lq rfl) rfl) ?_
      exact any_end rfl (out_mk (wc))
     refine xc rfl (a_assign_d (lq rfl) rfl) ?_
     refine xn [7] ?_
     refine xc rfl (m_slice3 (en := eI) (lq rfl) S33 rfl rfl rfl rfl ht35) ?_
     refine xn [11] ?_
     refine xc rfl (a_assign_d (lq rfl) rfl) ?_
     refine xn [12] ?_
     refine xc rfl (a_assign_row (lq rfl) rfl) ?_
     exact any_end rfl (out_mk (wc))
    refine xd rfl (g_call [(5, 2537)] (slices_Clone_api_Element_api_Element_g ht37) (lq rfl) (by decide) ⟨rfl, trivial⟩ rfl rfl trivial rfl rfl rfl (fun _ => rfl) rfl) ?_
    refine xn [6,10] ?_
    refine xa rfl (m_len (en := eI) (l := t24.2.2.2) (lq rfl) S33 rfl) ?_ ?_
    ·
     refine xn [7,10] ?_
     refine xa rfl (m_slice3 (en := eI) (lq rfl) S33 rfl rfl rfl rfl ht35) ?_ ?_
     ·
      refine xn [10] ?_
      refine xc rfl (a_assign_d (lq rfl) rfl) ?_
      refine xn [11] ?_
      refine xc rfl (a_assign_d (lq rfl) rfl) ?_
      refine xn [12] ?_
      refine xc rfl (a_assign_row (lq rfl) rfl) ?_
      exact any_end rfl (out_mk (wc))
     refine xc rfl (a_assign_d (lq rfl) rfl) ?_
     refine xn [7] ?_
     refine xc rfl (m_slice3 (en := eI) (lq rfl) S33 rfl rfl rfl rfl ht35) ?_
     refine xn [11] ?_
     refine xc rfl (a_assign_d (lq rfl) rfl) ?_
     refine xn [12] ?_
     refine xc rfl (a_assign_row (lq rfl) rfl) ?_
     exact any_end rfl (out_mk (wc))
    refine xc rfl (a_assign_d (lq rfl) rfl) ?_
    refine xn [6] ?_
    refine xc rfl (m_len (en := eI) (l := t24.2.2.2) (lq rfl) S33 rfl) ?_
    refine xn [7] ?_
    refine xc rfl (m_slice3 (en := eI) (lq rfl) S33 rfl rfl rfl rfl ht35) ?_
    refine xn [11] ?_
    refine xc rfl (a_assign_d (lq rfl) rfl) ?_
    refine xn [12] ?_
    refine xc rfl (a_assign_row (lq rfl) rfl) ?_
    exact any_end rfl (out_mk (wc))
   refine xa rfl (m_len (en := eI) (l := t24.2.2.2) (lq rfl) S33 rfl) ?_ ?_
   ·
    refine xn [4,9] ?_
    refine xa rfl (m_len (en := eI) (l := t24.2.2.2) (lq rfl) S33 rfl) ?_ ?_
    ·
     refine xn [7,9] ?_
     refine xa rfl (m_slice3 (en := eI) (lq rfl) S33 rfl rfl rfl rfl ht35) ?_ ?_
     ·
      refine xn [9] ?_
      refine xd rfl (g_call [(5, 2537)] (slices_Clone_api_Element_api_Element_g ht37) (lq rfl) (by decide) ⟨rfl, trivial⟩ rfl rfl trivial rfl rfl rfl (fun _ => rfl) rfl) ?_
      refine xn [10] ?_
      refine xc rfl (a_assign_d (lq rfl) rfl) ?_
      refine xn [11] ?_
      refine xc rfl (a_assign_d (lq rfl) rfl) ?_
      refine xn [12] ?_
      refine xc rfl (a_assign_row (lq rfl) rfl) ?_
      exact any_end rfl (out_mk (wc))
     refine xd rfl (g_call [(5, 2537)] (slices_Clone_api_Element_api_Element_g ht37) (lq rfl) (by decide) ⟨rfl, trivial⟩ rfl rfl trivial rfl rfl rfl (fun _ => rfl) rfl) ?_
     refine xn [7,10] ?_
     refine xa rfl (m_slice3 (en := eI) (lq rfl) S33 rfl rfl rfl rfl ht35) ?_ ?_
     ·
      refine xn [10] ?_
      refine xc rfl (a_assign_d (lq rfl) rfl) ?_
      refine xn [11] ?_
      refine xc rfl (a_assign_d (lq rfl) rfl) ?_
      refine xn [12] ?_
      refine xc rfl (a_assign_row (lq rfl) rfl) ?_
      exact any_end rfl (out_mk (wc))
     refine xc rfl (a_assign_d (lq rfl) rfl) ?_
     refine xn [7] ?_
     refine xc rfl (m_slice3 (en := eI) (lq rfl) S33 rfl rfl rfl rfl ht35) ?_
     refine xn [11] ?_
     refine xc rfl (a_assign_d (lq rfl) rfl) ?_
     refine xn [12] ?_
     refine xc rfl (a_assign_row (lq rfl) rfl) ?_
     exact any_end rfl (out_mk (wc))
    refine xd rfl (g_call [(5, 2537)] (slices_Clone_api_Element_api_Element_g ht37) (lq rfl) (by decide) ⟨rfl, trivial⟩ rfl rfl trivial rfl rfl rfl (fun _ => rfl) rfl) ?_
    refine xn [4,10] ?_
    refine xa rfl (m_len (en := eI) (l := t24.2.2.2) (lq rfl) S33 rfl) ?_ ?_
    ·
     refine xn [7,10] ?_
     refine xa rfl (m_slice3 (en := eI) (lq rfl) S33 rfl rfl rfl rfl ht35) ?_ ?_
     ·
      refine xn [10] ?_
      refine xc rfl (a_assign_d (lq rfl) rfl) ?_
      refine xn [11] ?_
      refine xc rfl (a_assign_d (lq rfl) rfl) ?_
      refine xn [12] ?_
      refine xc rfl (a_assign_row (lq rfl) rfl) ?_
      exact any_end rfl (out_mk (wc))
     refine xc rfl (a_assign_d (lq rfl) rfl) ?_
     refine xn [7] ?_
     refine xc rfl (m_slice3 (en := eI) (lq rfl) S33 rfl rfl rfl rfl ht35) ?_
     refine xn [11] ?_
     refine xc rfl (a_assign_d (lq rfl) rfl) ?_
     refine xn [12] ?_
     refine xc rfl (a_assign_row (lq rfl) rfl) ?_
     exact any_end rfl (out_mk (wc))
    refine xc rfl (a_assign_d (lq rfl) rfl) ?_
    refine xn [4] ?_
    refine xc rfl (m_len (en := eI) (l := t24.2.2.2) (lq rfl) S33 rfl) ?_
    refine xn [7] ?_
    refine xc rfl (m_slice3 (en := eI) (lq rfl) S33 rfl rfl rfl rfl ht35) ?_
    refine xn [11] ?_
    refine xc rfl (a_assign_d (lq rfl) rfl) ?_
    refine xn [12] ?_
    refine xc rfl (a_assign_row (lq rfl) rfl) ?_
    exact any_end rfl (out_mk (wc))
   refine xd rfl (g_call [(5, 2537)] (slices_Clone_api_Element_api_Element_g ht37) (lq rfl) (by decide) ⟨rfl, trivial⟩ rfl rfl trivial rfl rfl rfl (fun _ => rfl) rfl) ?_
   refine xn [4,6,10] ?_
   refine xa rfl (m_len (en := eI) (l := t24.2.2.2) (lq rfl) S33 rfl) ?_ ?_
   ·
    refine xn [6,10] ?_
    refine xa rfl (m_len (en := eI) (l := t24.2.2.2) (lq rfl) S33 rfl) ?_ ?_
    ·
     refine xn [7,10] ?_
     refine xa rfl (m_slice3 (en := eI) (lq rfl) S33 rfl rfl rfl rfl ht35) ?_ ?_
     ·
      refine xn [10] ?_
      refine xc rfl (a_assign_d (lq rfl) rfl) ?_
      refine xn [11] ?_
      refine xc rfl (a_assign_d (lq rfl) rfl) ?_
      refine xn [12] ?_
      refine xc rfl (a_assign_row (lq rfl) rfl) ?_
      exact any_end rfl (out_mk (wc))
     refine xc rfl (a_assign_d (lq rfl) rfl) ?_
     refine xn [7] ?_
     refine xc rfl (m_slice3 (en := eI) (lq rfl) S33 rfl rfl rfl rfl ht35) ?_
     refine xn [11] ?_
     refine xc rfl (a_assign_d (lq rfl) rfl) ?_
     refine xn [12] ?_
     refine xc rfl (a_assign_row (lq rfl) rfl) ?_
     exact any_end rfl (out_mk (wc))
    refine xc rfl (a_assign_d (lq rfl) rfl) ?_
    refine xn [6] ?_
    refine xc rfl (m_len (en := eI) (l := t24.2.2.2) (lq rfl) S33 rfl) ?_
    refine xn [7] ?_
    refine xc rfl (m_slice3 (en := eI) (lq rfl) S33 rfl rfl rfl rfl ht35) ?_
    refine xn [11] ?_
    refine xc rfl (a_assign_d (lq rfl) rfl) ?_
    refine xn [12] ?_
    refine xc rfl (a_assign_row (lq rfl) rfl) ?_
    exact any_end rfl (out_mk (wc))
   refine xa rfl (m_len (en := eI) (l := t24.2.2.2) (lq rfl) S33 rfl) ?_ ?_
   ·
    refine xn [4,10] ?_
    refine xa rfl (m_len (en := eI) (l := t24.2.2.2) (lq rfl) S33 rfl) ?_ ?_
    ·
     refine xn [7,10] ?_
     refine xa rfl (m_slice3 (en := eI) (lq rfl) S33 rfl rfl rfl rfl ht35) ?_ ?_
     ·
      refine xn [10] ?_
      refine xc rfl (a_assign_d (lq rfl) rfl) ?_
      refine xn [11] ?_
      refine xc rfl (a_assign_d (lq rfl) rfl) ?_
      refine xn [12] ?_
      refine xc rfl (a_assign_row (lq rfl) rfl) ?_
      exact any_end rfl (out_mk (wc))
     refine xc rfl (a_assign_d (lq rfl) rfl) ?_
     refine xn [7] ?_
     refine xc rfl (m_slice3 (en := eI) (lq rfl) S33 rfl rfl rfl rfl ht35) ?_
     refine xn [11] ?_
     refine xc rfl (a_assign_d (lq rfl) rfl) ?_
     refine xn [12] ?_
     refine xc rfl (a_assign_row (lq rfl) rfl) ?_
     exact any_end rfl (out_mk (wc))
    refine xc rfl (a_assign_d (lq rfl) rfl) ?_
    refine xn [4] ?_
    refine xc rfl (m_len (en := eI) (l := t24.2.2.2) (lq rfl) S33 rfl) ?_
    refine xn [7] ?_
    refine xc rfl (m_slice3 (en := eI) (lq rfl) S33 rfl rfl rfl rfl ht35) ?_
    refine xn [11] ?_
    refine xc rfl (a_assign_d (lq rfl) rfl) ?_
    refine xn [12] ?_
    refine xc rfl (a_assign_row (lq rfl) rfl) ?_
    exact any_end rfl (out_mk (wc))
   refine xc rfl (a_assign_d (lq rfl) rfl) ?_
   refine xn [4,6] ?_
   refine xa rfl (m_len (en := eI) (l := t24.2.2.2) (lq rfl) S33 rfl) ?_ ?_
   ·
    refine xn [6] ?_
    refine xc rfl (m_len (en := eI) (l := t24.2.2.2) (lq rfl) S33 rfl) ?_
    refine xn [7] ?_
    refine xc rfl (m_slice3 (en := eI) (lq rfl) S33 rfl rfl rfl rfl ht35) ?_
    refine xn [11] ?_
    refine xc rfl (a_assign_d (lq rfl) rfl) ?_
    refine xn [12] ?_
    refine xc rfl (a_assign_row (lq rfl) rfl) ?_
    exact any_end rfl (out_mk (wc))
   refine xc rfl (m_len (en := eI) (l := t24.2.2.2) (lq rfl) S33 rfl) ?_
   refine xn [4] ?_
   refine xc rfl (m_len (en := eI) (l := t24.2.2.2) (lq rfl) S33 rfl) ?_
   refine xn [7] ?_
   refine xc rfl (m_slice3 (en := eI) (lq rfl) S33 rfl rfl rfl rfl ht35) ?_
   refine xn [11] ?_
   refine xc rfl (a_assign_d (lq rfl) rfl) ?_
   refine xn [12] ?_
   refine xc rfl (a_assign_row (lq rfl) rfl) ?_
   exact any_end rfl (out_mk (wc))
  cases h
  refine avc_ret ?_
  exact ret_three rfl rfl rfl
theorem ref01_Compare_c  {a0} {a1}  {r} (h : ref01_Compare a0 a1 = some r) : Contract Tryz.prog 35 [(dsl eI a0), (dsl eI a1)] [(di r)] := by
 refine contract_of Tryz.func35 (by kernel_rfl) rfl (lq rfl) (lq rfl) fun w0 I0 hI0 hG0 => ?_
 unfold ref01_Compare at h
 refine avc_sq2 <| avc_sq <| q1 ?_
 refine sq_nil <| avc_sq2 <| avc_sq2 <| avc_sq <| q1 ?_
 refine sq_nil <| avc_block ?_
 obtain ⟨y1, hy1, h⟩ := bE h
 refine avc_tail2 y1 (.exit 0) (fun y1 => ⟨[(0, .d (dsl eI a0)), (1, .d (dsl eI a1))], []⟩) .ret (fun y1 => ⟨[(4, .d (di y1))], []⟩) ?_ ?_ ?_
 ·
  refine avc_loopM (fun x => ⟨[(0, .d (dsl eI a0)), (1, .d (dsl eI a1)), (5, .d (di x))], []⟩) hy1 (wc) ?_
  rintro v5 sy1 hsy1
  replace hsy1 : ref01_Compare_L0 a0 a1 v5 = some sy1 := hsy1
  unfold ref01_Compare_L0 at hsy1
  refine avc_sq2 <| avc_sq2 <| avc_sq <| q0 ?_
  refine q0 ?_
  refine q5 S33 ?_
  refine q3 ?_
  obtain ⟨b10, hb10, hsy1⟩ := bE hsy1
  refine sqa ((a_move_d (lq rfl) rfl).bool (Option.some.inj hb10)) ?_
  refine q10 (.d (di v5)) ?_
  refine q10 (.d (dsl eI a1)) ?_
  refine q88 (.d (di (a1.length : Int))) S33 ?_
  refine q54 (.d (db (decide (v5 < (a1.length : Int))))) ?_
  refine q12 ?_
  refine sq_nil ?_
  refine ifM rfl hsy1 (fun _ hsy1 => ?_) (fun _ hsy1 => ?_)
  ·
   refine avc_skip <| avc_sq2 <| avc_block <| avc_sq2 <| avc_sq2 ?_
   refine avc_drawA MX rfl ?_
   refine q4 ?_
   refine q4 ?_
   obtain ⟨t20, ht20, hsy1⟩ := bE hsy1
   refine q17 S33 ht20 ?_
   refine q51 O3 ht20 ?_
   refine q4 ?_
   refine q4 ?_
   obtain ⟨t24, ht24, hsy1⟩ := bE hsy1
   refine q17 S33 ht24 ?_
   refine q51 O3 ht24 ?_
   refine q96 ?_
   refine da_nil ?_
   refine ifM rfl hsy1 (fun _ hsy1 => ?_) (fun _ hsy1 => ?_)
   ·
    refine avc_sq2 <| avc_sq <| q1 ?_
    refine sq_nil <| avc_ret ?_
    cases hsy1
    intro q; cases q
    exact ⟨rfl, wc⟩
   ·
    refine avc_skip <| avc_sq2 ?_
    refine avc_drawA MX rfl ?_
    refine q4 ?_
    refine q4 ?_
    obtain ⟨t29, ht29, hsy1⟩ := bE hsy1
    refine q17 S33 ht29 ?_
    refine q51 O3 ht29 ?_
    refine q4 ?_
    refine q4 ?_
    obtain ⟨t33, ht33, hsy1⟩ := bE hsy1
    refine q17 S33 ht33 ?_
    refine q51 O3 ht33 ?_
    refine q80 ?_
    refine da_nil ?_
    refine ifM rfl hsy1 (fun _ hsy1 => ?_) (fun _ hsy1 => ?_)
    ·
     refine avc_sq2 <| avc_sq <| q1 ?_
     refine sq_nil <| avc_ret ?_
     cases hsy1
     intro q; cases q
     exact ⟨rfl, wc⟩
    ·
     refine avc_skip <| avc_sq <| q0 ?_
     refine q2 ?_
     refine q1 ?_
     refine sq_nil ?_
     cases hsy1
     exact wc
  ·
   refine avc_exit ?_
   cases hsy1
   intro q; cases q
   exact ⟨rfl, wc⟩
 ·
  rintro y1 rfl
  replace h := eL h
  refine avc_sq2 <| avc_sq2 <| avc_sq <| q0 ?_
  refine q5 S33 ?_
  refine q0 ?_
  refine q5 S33 ?_
  refine q3 ?_
  refine sq_nil ?_
  refine ifM rfl h (fun _ h => ?_) (fun _ h => ?_)
  ·
   refine avc_sq2 <| avc_sq <| q1 ?_
   refine sq_nil ?_
   cases h
   refine avc_ret ?_
   exact ret_1 rfl
  ·
   refine avc_skip <| avc_sq2 <| avc_sq2 <| avc_sq <| q0 ?_
   refine q5 S33 ?_
   refine q0 ?_
   refine q5 S33 ?_
   refine q37 ?_
   refine sq_nil ?_
   refine ifM rfl h (fun _ h => ?_) (fun _ h => ?_)
   ·
    refine avc_sq2 <| avc_sq <| q1 ?_
    refine sq_nil ?_
    cases h
    refine avc_ret ?_
    exact ret_1 rfl
   ·
    refine avc_skip <| avc_sq2 <| avc_sq <| q1 ?_
    refine sq_nil ?_
    cases h
    refine avc_ret ?_
    exact ret_1 rfl
 ·
  rintro y1 rfl
  replace h := eR h
  cases h
  exact ret_1 rfl
theorem ref01_Equal_c  {a0} {a1}  {r} (h : ref01_Equal a0 a1 = some r) : Contract Tryz.prog 11 [(dsl eI a0), (dsl eI a1)] [(db r)] := by
 refine contract_of Tryz.func11 (by kernel_rfl) rfl (lq rfl) (lq rfl) fun w0 I0 hI0 hG0 => ?_
 unfold ref01_Equal at h
 refine avc_sq2 <| avc_sq <| q1 ?_
 refine sq_nil <| avc_sq2 <| avc_sq <| q0 ?_
 refine q0 ?_
 obtain ⟨t7, ht7, h⟩ := bE h
 refine q6 (ref01_Compare_c ht7) ?_
 refine q39 ?_
 refine q1 ?_
 refine sq_nil ?_
 cases h
 refine avc_ret ?_
 exact ret_1 rfl
theorem ref43_Same_c  {a0} {a1}  {r} (h : ref43_Same a0 a1 = some r) : Contract Tryz.prog 12 [(dsl eElement a0), (dsl eElement a1)] [(db r)] := by
 refine contract_of Tryz.func12 (by kernel_rfl) rfl (lq rfl) (lq rfl) fun w0 I0 hI0 hG0 => ?_
 unfold ref43_Same at h
 refine avc_sq2 <| avc_sq <| q1 ?_
 refine sq_nil <| avc_sq2 <| avc_sq2 <| avc_sq <| q0 ?_
 refine q5 S38 ?_
 refine q0 ?_
 refine q5 S38 ?_
 refine q27 ?_
 refine sq_nil ?_
 refine ifM rfl h (fun _ h => ?_) (fun _ h => ?_)
 ·
  refine avc_sq2 <| avc_sq <| q1 ?_
  refine sq_nil ?_
  cases h
  refine avc_ret ?_
  exact ret_1 rfl
 ·
  refine avc_skip <| avc_sq2 <| avc_sq2 <| avc_sq <| q1 ?_
  refine sq_nil <| avc_block ?_
  obtain ⟨y1, hy1, h⟩ := bE h
  refine avc_tail2 y1 (.exit 0) (fun y1 => ⟨[], []⟩) .ret (fun y1 => ⟨[(4, .d (db y1))], []⟩) ?_ ?_ ?_
  ·
   refine avc_loopM (fun x => ⟨[(0, .d (dsl eElement a0)), (1, .d (dsl eElement a1)), (5, .d (di x))], []⟩) hy1 (wc) ?_
   rintro v5 sy1 hsy1
   replace hsy1 : ref43_Same_L0 a0 a1 v5 = some sy1 := hsy1
   unfold ref43_Same_L0 at hsy1
   refine avc_sq2 <| avc_sq2 <| avc_sq <| q0 ?_
   refine q0 ?_
   refine q5 S38 ?_
   refine q3 ?_
   refine sq_nil ?_
   refine ifM rfl hsy1 (fun _ hsy1 => ?_) (fun _ hsy1 => ?_)
   ·
    refine avc_skip <| avc_sq2 <| avc_block <| avc_sq2 ?_
    refine avc_drawA MX rfl ?_
    refine q4 ?_
    refine q4 ?_
    obtain ⟨t19, ht19, hsy1⟩ := bE hsy1
    refine q17 S38 ht19 ?_
    refine daa (m_loadEA (en := eElement) (l := a0) (i := v5) (v := t19) (off := 0) (lq rfl) G63 rfl ht19 rfl rfl (by decide)) ?_
    refine q4 ?_
    refine q4 ?_
    obtain ⟨t23, ht23, hsy1⟩ := bE hsy1
    refine q17 S38 ht23 ?_
    refine daa (m_loadEA (en := eElement) (l := a1) (i := v5) (v := t23) (off := 0) (lq rfl) G63 rfl ht23 rfl rfl (by decide)) ?_
    refine daa (m_stneq (en := eElement) (a := t19) (b := t23) (lq rfl) E63 rfl rfl) ?_
    refine da_nil ?_
    refine ifM rfl hsy1 (fun _ hsy1 => ?_) (fun _ hsy1 => ?_)
    ·
     refine avc_sq2 <| avc_sq <| q1 ?_
     refine sq_nil <| avc_ret ?_
     cases hsy1
     intro q; cases q
     exact ⟨rfl, wc⟩
    ·
     refine avc_skip <| avc_sq <| q0 ?_
     refine q2 ?_
     refine q1 ?_
     refine sq_nil ?_
     cases hsy1
     exact wc
   ·
    refine avc_exit ?_
    cases hsy1
    intro q; cases q
    exact ⟨rfl, wc⟩
  ·
   rintro y1 rfl
   replace h := eL h
   refine avc_sq2 <| avc_sq <| q1 ?_
   refine sq_nil ?_
   cases h
   refine avc_ret ?_
   exact ret_1 rfl
  ·
   rintro y1 rfl
   replace h := eR h
   cases h
   exact ret_1 rfl
set_option maxRecDepth 40000 in
theorem law43_alive_c    {r} (h : law43_alive  = some r) : Contract Tryz.prog 8 [] [(db r)] := by
 refine contract_of Tryz.func8 (by kernel_rfl) rfl (lq rfl) (lq rfl) fun w0 I0 hI0 hG0 => ?_
 unfold law43_alive at h
 refine avc_sq2 <| avc_sq <| q1 ?_
 refine sq_nil <| avc_sq2 <| avc_sq <| q44 B61 ?_
 refine q44 B61 ?_
 refine q31 S22 ?_
 refine sqa ((m_build (lq rfl) B28 rfl rfl).nils (bs := eNorm.cells ({ Classes := [({ Lo := 769, Hi := 769, Value := 230 } : Span), ({ Lo := 803, Hi := 803, Value := 220 } : Span)], Decomp := [], Excluded := (({ Ranges := [] }) : Set) } : Norm)) (nlE (nlN (nlN nl0)))) ?_
 refine q131 ?_
 refine q14 G28 ?_
 refine sq_nil ?_
 refine avc_weak (weak_freeze (t := 1) (lq rfl) rfl rfl rfl) ?_
 refine avc_sq2 <| avc_sq <| q44 B63 ?_
 refine q31 S38 ?_
 refine q1 ?_
 refine sq_nil <| avc_sq2 <| avc_sq <| q44 B63 ?_
 refine q31 S38 ?_
 refine q1 ?_
 refine sq_nil <| avc_sq2 <| avc_sq <| q31 S33 ?_
 refine q0 ?_
 refine q44 B45 ?_
 refine q31 S33 ?_
 refine q0 ?_
 refine q44 B45 ?_
 refine q31 S29 ?_
 refine sqa ((m_build (lq rfl) B32 rfl rfl).nils (bs := eCollation.cells ({ Entries := [({ Codes := [97], Elements := [({ Primary := 7, Secondary := 1, Tertiary := 1, Variable := false } : Element)] } : Entry), ({ Codes := [97, 769], Elements := [({ Primary := 8, Secondary := 1, Tertiary := 1, Variable := false } : Element)] } : Entry)], Groups := [], Base := 100, Second := 1, Third := 1 } : Collation)) (nlE (nlN (nlE (nlE (nlE nl0)))))) ?_
 refine q114 ?_
 refine q14 G32 ?_
 refine sq_nil ?_
 refine avc_weak (weak_freeze (t := 4) (lq rfl) rfl rfl rfl) ?_
 refine avc_sq2 <| avc_sq <| q16 G28 ?_
 refine q16 G32 ?_
 refine q31 S33 ?_
 obtain ⟨t28, ht28, h⟩ := bE h
 refine q6 (colltable_Step_c ht28) ?_
 refine q43 ?_
 refine q18 ?_
 refine q18 ?_
 refine q18 ?_
 refine q1 ?_
 refine q1 ?_
 refine q1 ?_
 refine sq_nil <| avc_sq2 <| avc_sq <| q16 G32 ?_
 obtain ⟨t33, ht33, h⟩ := bE h
 refine q6 (colltable_Check_c ht33) ?_
 refine q39 ?_
 obtain ⟨b35, hb35, h⟩ := bE h
 refine sqa ((a_move_d (lq rfl) rfl).bool (Option.some.inj hb35)) ?_
 refine q10 (.d (di t28.1)) ?_
 refine q81 (.d (db (decide (t28.1 = 2)))) ?_
 refine q12 ?_
 obtain ⟨b39, hb39, h⟩ := bE h
 refine sqa ((a_move_d (lq rfl) rfl).bool (Option.some.inj hb39)) ?_
 refine q10 (.d (dsl eI t28.2.1)) ?_
 refine sqt (.d (dsl eI [803])) rfl (fun hb => by subst hb; exact a_lit (lq rfl) S33 rfl rfl rfl rfl (by decide) rfl) ?_
 obtain ⟨t42, ht42, h⟩ := bE h
 refine sqt (.d (db t42)) rfl (fun hb => by subst hb; exact a_call (lq rfl) rfl (ref01_Equal_c ht42)) ?_
 refine q12 ?_
 obtain ⟨b44, hb44, h⟩ := bE h
 refine sqa ((a_move_d (lq rfl) rfl).bool (Option.some.inj hb44)) ?_
 refine q10 (.d (dsl eElement t28.2.2)) ?_
 refine q10 (.d (dsl eElement [({ Primary := 8, Secondary := 1, Tertiary := 1, Variable := false } : Element)])) ?_
 obtain ⟨t47, ht47, h⟩ := bE h
 refine sqt (.d (db t47)) rfl (fun hb => by subst hb; exact a_call (lq rfl) rfl (ref43_Same_c ht47)) ?_
 refine q12 ?_
 refine q1 ?_
 refine sq_nil ?_
 cases h
 refine avc_ret ?_
 exact ret_1 rfl
theorem ref43_weight_c  {a0}  {r} (h : ref43_weight a0 = some r) : Contract Tryz.prog 41 [(di a0)] [(db r)] := by
 refine contract_of Tryz.func41 (by kernel_rfl) rfl (lq rfl) (lq rfl) fun w0 I0 hI0 hG0 => ?_
 unfold ref43_weight at h
 refine avc_sq2 <| avc_sq <| q1 ?_
 refine sq_nil <| avc_sq2 <| avc_sq <| q0 ?_
 refine q30 ?_
 obtain ⟨b5, hb5, h⟩ := bE h
 refine sqa ((a_move_d (lq rfl) rfl).bool (Option.some.inj hb5)) ?_
 refine q10 (.d (di a0)) ?_
 refine q42 (.d (db (decide (a0 ≤ 65535)))) ?_
 refine q12 ?_
 refine q1 ?_
 refine sq_nil ?_
 cases h
 refine avc_ret ?_
 exact ret_1 rfl
theorem ref11_Name_c  {a0}  {r} (h : ref11_Name a0 = some r) : Contract Tryz.prog 69 [(ds a0)] [(db r)] := by
 refine contract_of Tryz.func69 (by kernel_rfl) rfl (lq rfl) (lq rfl) fun w0 I0 hI0 hG0 => ?_
 unfold ref11_Name at h
 refine avc_sq2 <| avc_sq <| q1 ?_
 refine sq_nil <| avc_sq2 <| avc_sq2 <| avc_sq <| q1 ?_
 refine sq_nil <| avc_block ?_
 obtain ⟨y1, hy1, h⟩ := bE h
 refine avc_tail2 y1 (.exit 0) (fun y1 => ⟨[(0, .d (ds a0))], []⟩) .ret (fun y1 => ⟨[(2, .d (db y1))], []⟩) ?_ ?_ ?_
 ·
  refine avc_loopM (fun x => ⟨[(0, .d (ds a0)), (3, .d (di x))], []⟩) hy1 (wc) ?_
  rintro v3 sy1 hsy1
  replace hsy1 : ref11_Name_L0 a0 v3 = some sy1 := hsy1
  unfold ref11_Name_L0 at hsy1
  refine avc_sq2 <| avc_sq2 <| avc_sq <| q0 ?_
  refine q0 ?_
  refine q118 Tryz.underlying9 ?_
  refine q3 ?_
  refine sq_nil ?_
  refine ifM rfl hsy1 (fun _ hsy1 => ?_) (fun _ hsy1 => ?_)
  ·
   refine avc_skip <| avc_sq2 <| avc_block <| avc_sq2 <| avc_sq <| q0 ?_
   refine q0 ?_
   obtain ⟨t13, ht13, hsy1⟩ := bE hsy1
   refine q119 Tryz.underlying9 ht13 ?_
   refine q1 ?_
   refine sq_nil <| avc_sq2 <| avc_sq <| q0 ?_
   refine q30 ?_
   obtain ⟨b16, hb16, hsy1⟩ := bE hsy1
   refine sqa ((a_move_d (lq rfl) rfl).bool (Option.some.inj hb16)) ?_
   refine q10 (.d (dby t13)) ?_
   refine q42 (.d (db (decide (t13 ≤ 90)))) ?_
   refine q12 ?_
   obtain ⟨b20, hb20, hsy1⟩ := bE hsy1
   refine sqa ((a_move_d (lq rfl) rfl).bool (Option.some.inj hb20)) ?_
   refine q32 (.d (dby t13)) ?_
   refine q78 (.d (db (decide (97 ≤ t13)))) ?_
   obtain ⟨b23, hb23, hsy1⟩ := bE hsy1
   refine sqf (.d (db b23)) rfl (fun hb => by subst hb; exact (a_move_d (lq rfl) rfl).bool (Option.some.inj hb23)) ?_
   refine sq_g2 (x := .d (dby t13)) rfl rfl rfl (lq rfl) (lq rfl) rfl (fun hb => by obtain ⟨hb, hb1⟩ := and_split hb; obtain rfl := gF hb; obtain rfl : b23 = true := hb1; exact a_move_d (lq rfl) rfl) ?_
   refine sq_g2 (x := .d (db (decide (t13 ≤ 122)))) rfl rfl rfl (lq rfl) (lq rfl) rfl (fun hb => by obtain ⟨hb, hb1⟩ := and_split hb; obtain rfl := gF hb; obtain rfl : b23 = true := hb1; exact a_leq (lq rfl) rfl rfl) ?_
   refine q62 (.d (db (b23 && (decide (t13 ≤ 122))))) ?_
   refine q15 ?_
   obtain ⟨b28, hb28, hsy1⟩ := bE hsy1
   refine sqa ((a_move_d (lq rfl) rfl).bool (Option.some.inj hb28)) ?_
   refine q32 (.d (dby t13)) ?_
   refine q78 (.d (db (decide (48 ≤ t13)))) ?_
   obtain ⟨b31, hb31, hsy1⟩ := bE hsy1
   refine sqf (.d (db b31)) rfl (fun hb => by subst hb; exact (a_move_d (lq rfl) rfl).bool (Option.some.inj hb31)) ?_
   refine sq_g2 (x := .d (dby t13)) rfl rfl rfl (lq rfl) (lq rfl) rfl (fun hb => by obtain ⟨hb, hb1⟩ := and_split hb; obtain rfl := gF hb; obtain rfl : b31 = true := hb1; exact a_move_d (lq rfl) rfl) ?_
   refine sq_g2 (x := .d (db (decide (t13 ≤ 57)))) rfl rfl rfl (lq rfl) (lq rfl) rfl (fun hb => by obtain ⟨hb, hb1⟩ := and_split hb; obtain rfl := gF hb; obtain rfl : b31 = true := hb1; exact a_leq (lq rfl) rfl rfl) ?_
   refine q62 (.d (db (b31 && (decide (t13 ≤ 57))))) ?_
   refine q15 ?_
   obtain ⟨b36, hb36, hsy1⟩ := bE hsy1
   refine sqa ((a_move_d (lq rfl) rfl).bool (Option.some.inj hb36)) ?_
   refine q32 (.d (dby t13)) ?_
   refine q79 (.d (db (decide (t13 = 95)))) ?_
   refine q15 ?_
   refine q22 ?_
   refine sq_nil ?_
   refine ifM rfl hsy1 (fun _ hsy1 => ?_) (fun _ hsy1 => ?_)
   ·
    refine avc_sq2 <| avc_sq <| q1 ?_
    refine sq_nil <| avc_ret ?_
    cases hsy1
    intro q; cases q
    exact ⟨rfl, wc⟩
   ·
    refine avc_skip <| avc_sq <| q0 ?_
    refine q2 ?_
    refine q1 ?_
    refine sq_nil ?_
    cases hsy1
    exact wc
  ·
   refine avc_exit ?_
   cases hsy1
   intro q; cases q
   exact ⟨rfl, wc⟩
 ·
  rintro y1 rfl
  replace h := eL h
  refine avc_sq2 <| avc_sq <| q0 ?_
  refine q118 Tryz.underlying9 ?_
  refine q30 ?_
  obtain ⟨b44, hb44, h⟩ := bE h
  refine sqa ((a_move_d (lq rfl) rfl).bool (Option.some.inj hb44)) ?_
  refine q10 (.d (ds a0)) ?_
  refine sqt (.d (di (a0.length : Int))) rfl (fun hb => by subst hb; exact m_slen (s := a0) (lq rfl) Tryz.underlying9 rfl) ?_
  refine q42 (.d (db (decide ((a0.length : Int) ≤ 32)))) ?_
  refine q12 ?_
  refine q1 ?_
  refine sq_nil ?_
  cases h
  refine avc_ret ?_
  exact ret_1 rfl
 ·
  rintro y1 rfl
  replace h := eR h
  cases h
  exact ret_1 rfl
theorem ref43_groups_c  {a0}  {r} (h : ref43_groups a0 = some r) : Contract Tryz.prog 42 [(eCollation.dv a0)] [(di r)] := by
 refine contract_of Tryz.func42 (by kernel_rfl) rfl (lq rfl) (lq rfl) fun w0 I0 hI0 hG0 => ?_
 unfold ref43_groups at h
 refine avc_sq2 <| avc_sq <| q41 ?_
 refine q1 ?_
 refine sq_nil <| avc_sq2 <| avc_sq <| q7 L32_1 ?_
 refine q8 O30 ?_
 refine q1 ?_
 refine sq_nil <| avc_sq2 <| avc_sq2 <| avc_sq <| q1 ?_
 refine sq_nil <| avc_block ?_
 obtain ⟨y1, hy1, h⟩ := bE h
 refine avc_tail2 y1 (.exit 0) (fun y1 => ⟨[(1, .d (.pt (eCollation.cells a0))), (3, .d (dsl eGroup a0.Groups))], []⟩) .ret (fun y1 => ⟨[(2, .d (di y1))], []⟩) ?_ ?_ ?_
 ·
  refine avc_loopM (fun x => ⟨[(1, .d (.pt (eCollation.cells a0))), (3, .d (dsl eGroup a0.Groups)), (4, .d (di x))], []⟩) hy1 (wc) ?_
  rintro v4 sy1 hsy1
  replace hsy1 : ref43_groups_L0 a0 v4 = some sy1 := hsy1
  unfold ref43_groups_L0 at hsy1
  refine avc_sq2 <| avc_sq2 <| avc_sq <| q0 ?_
  refine q0 ?_
  refine q5 S30 ?_
  refine q3 ?_
  refine sq_nil ?_
  refine ifM rfl hsy1 (fun _ hsy1 => ?_) (fun _ hsy1 => ?_)
  ·
   refine avc_skip <| avc_sq2 <| avc_block <| avc_sq2 <| avc_sq <| q0 ?_
   refine q0 ?_
   obtain ⟨t19, ht19, hsy1⟩ := bE hsy1
   refine q11 S30 ht19 ?_
   refine q34 L110_0 ?_
   refine sqa (m_loadE (en := eGroup) (l := a0.Groups) (i := v4) (v := t19) (off := 0) (lq rfl) O9 rfl ht19 rfl) ?_
   obtain ⟨t22, ht22, hsy1⟩ := bE hsy1
   refine q6 (ref11_Name_c ht22) ?_
   refine q22 ?_
   refine sq_nil ?_
   refine ifM rfl hsy1 (fun _ hsy1 => ?_) (fun _ hsy1 => ?_)
   ·
    refine avc_sq2 <| avc_sq <| q1 ?_
    refine sq_nil <| avc_ret ?_
    cases hsy1
    intro q; cases q
    exact ⟨rfl, wc⟩
   ·
    refine avc_skip <| avc_sq <| q0 ?_
    refine q2 ?_
    refine q1 ?_
    refine sq_nil ?_
    cases hsy1
    exact wc
  ·
   refine avc_exit ?_
   cases hsy1
   intro q; cases q
   exact ⟨rfl, wc⟩
 ·
  rintro y1 rfl
  replace h := eL h
  refine avc_sq2 <| avc_sq2 <| avc_sq <| q1 ?_
  refine sq_nil <| avc_block ?_
  obtain ⟨y2, hy2, h⟩ := bE h
  refine avc_tail2 y2 (.exit 2) (fun y2 => ⟨[(1, .d (.pt (eCollation.cells a0))), (3, .d (dsl eGroup a0.Groups))], []⟩) .ret (fun y2 => ⟨[(2, .d (di y2))], []⟩) ?_ ?_ ?_
  ·
   refine avc_loopM (fun x => ⟨[(1, .d (.pt (eCollation.cells a0))), (3, .d (dsl eGroup a0.Groups)), (5, .d (di x))], []⟩) hy2 (wc) ?_
   rintro v5 sy2 hsy2
   replace hsy2 : ref43_groups_L1 a0 v5 = some sy2 := hsy2
   unfold ref43_groups_L1 at hsy2
   refine avc_sq2 <| avc_sq2 <| avc_sq <| q0 ?_
   refine q0 ?_
   refine q5 S30 ?_
   refine q3 ?_
   refine sq_nil ?_
   refine ifM rfl hsy2 (fun _ hsy2 => ?_) (fun _ hsy2 => ?_)
   ·
    refine avc_skip <| avc_sq2 <| avc_block <| avc_sq2 <| avc_sq <| q1 ?_
    refine sq_nil <| avc_block ?_
    obtain ⟨y3, hy3, hsy2⟩ := bE hsy2
    refine avc_tail2 y3 (.exit 4) (fun y3 => ⟨[(1, .d (.pt (eCollation.cells a0))), (3, .d (dsl eGroup a0.Groups)), (5, .d (di v5))], []⟩) .ret (fun y3 => ⟨[(2, .d (di y3))], []⟩) ?_ ?_ ?_
    ·
     refine avc_loopM (fun x => ⟨[(1, .d (.pt (eCollation.cells a0))), (3, .d (dsl eGroup a0.Groups)), (5, .d (di v5)), (6, .d (di x))], []⟩) hy3 (wc) ?_
     rintro v6 sy3 hsy3
     replace hsy3 : ref43_groups_L2 v5 a0 v6 = some sy3 := hsy3
     unfold ref43_groups_L2 at hsy3
     refine avc_sq2 <| avc_sq2 <| avc_sq <| q0 ?_
     refine q0 ?_
     refine q3 ?_
     refine sq_nil ?_
     refine ifM rfl hsy3 (fun _ hsy3 => ?_) (fun _ hsy3 => ?_)
     ·
      refine avc_skip <| avc_sq2 <| avc_block <| avc_sq2 ?_
      refine avc_drawA MX rfl ?_
      refine q4 ?_
      refine q4 ?_
      obtain ⟨t37, ht37, hsy3⟩ := bE hsy3
      refine q17 S30 ht37 ?_
      refine q35 L110_0 ?_
      refine daa (m_loadE (en := eGroup) (l := a0.Groups) (i := v6) (v := t37) (off := 0) (lq rfl) O9 rfl ht37 rfl) ?_
      refine q4 ?_
      refine q4 ?_
      obtain ⟨t42, ht42, hsy3⟩ := bE hsy3
      refine q17 S30 ht42 ?_
      refine q35 L110_0 ?_
      refine daa (m_loadE (en := eGroup) (l := a0.Groups) (i := v5) (v := t42) (off := 0) (lq rfl) O9 rfl ht42 rfl) ?_
      refine daa (m_seql (a := t37.Name) (b := t42.Name) (lq rfl) rfl rfl) ?_
      refine da_nil ?_
      refine ifM rfl hsy3 (fun _ hsy3 => ?_) (fun _ hsy3 => ?_)
      ·
       refine avc_sq2 <| avc_sq <| q1 ?_
       refine sq_nil <| avc_ret ?_
       cases hsy3
       intro q; cases q
       exact ⟨rfl, wc⟩
      ·
       refine avc_skip <| avc_sq <| q0 ?_
       refine q2 ?_
       refine q1 ?_
       refine sq_nil ?_
       cases hsy3
       exact wc
     ·
      refine avc_exit ?_
      cases hsy3
      intro q; cases q
      exact ⟨rfl, wc⟩
    ·
     rintro y3 rfl
     replace hsy2 := eL hsy2
     refine avc_sq <| q0 ?_
     refine q2 ?_
     refine q1 ?_
     refine sq_nil ?_
     cases hsy2
     exact wc
    ·
     rintro y3 rfl
     replace hsy2 := eR hsy2
     cases hsy2
     intro q; cases q
     exact ⟨rfl, wc⟩
   ·
    refine avc_exit ?_
    cases hsy2
    intro q; cases q
    exact ⟨rfl, wc⟩
  ·
   rintro y2 rfl
   replace h := eL h
   refine avc_sq2 <| avc_sq2 <| avc_sq <| q1 ?_
   refine sq_nil <| avc_block ?_
   obtain ⟨y4, hy4, h⟩ := bE h
   refine avc_tail2 y4 (.exit 6) (fun y4 => ⟨[(3, .d (dsl eGroup a0.Groups))], []⟩) .ret (fun y4 => ⟨[(2, .d (di y4))], []⟩) ?_ ?_ ?_
   ·
    refine avc_loopM (fun x => ⟨[(1, .d (.pt (eCollation.cells a0))), (3, .d (dsl eGroup a0.Groups)), (7, .d (di x))], []⟩) hy4 (wc) ?_
    rintro v7 sy4 hsy4
    replace hsy4 : ref43_groups_L3 a0 v7 = some sy4 := hsy4
    unfold ref43_groups_L3 at hsy4
    refine avc_sq2 <| avc_sq2 <| avc_sq <| q0 ?_
    refine q0 ?_
    refine q5 S30 ?_
    refine q3 ?_
    refine sq_nil ?_
    refine ifM rfl hsy4 (fun _ hsy4 => ?_) (fun _ hsy4 => ?_)
    ·
     refine avc_skip <| avc_sq2 <| avc_block <| avc_sq2 ?_
     refine avc_drawA MX rfl ?_
     refine q4 ?_
     refine q4 ?_
     obtain ⟨t54, ht54, hsy4⟩ := bE hsy4
     refine q17 S30 ht54 ?_
     refine q35 L110_1 ?_
     refine daa (m_loadE (en := eGroup) (l := a0.Groups) (i := v7) (v := t54) (off := 1) (lq rfl) O3 rfl ht54 rfl) ?_
     refine q96 ?_
     obtain ⟨b58, hb58, hsy4⟩ := bE hsy4
     refine daa ((a_move_d (lq rfl) rfl).bool (Option.some.inj hb58)) ?_
     refine q36 (.d (dsl eGroup a0.Groups)) ?_
     refine q36 (.d (di v7)) ?_
     obtain ⟨t61, ht61, hsy4⟩ := bE hsy4
     refine q59 (.ip (eGroup.all a0.Groups) (v7.toNat * eGroup.size)) S30 ht61 ?_
     refine q60 (.ip (eGroup.all a0.Groups) (v7.toNat * eGroup.size + 2)) L110_2 ?_
     refine daf (.d (di t61.Hi)) rfl (fun hb => by subst hb; exact m_loadE (en := eGroup) (l := a0.Groups) (i := v7) (v := t61) (off := 2) (lq rfl) O3 rfl ht61 rfl) ?_
     refine q36 (.d (dsl eGroup a0.Groups)) ?_
     refine q36 (.d (di v7)) ?_
     obtain ⟨t66, ht66, hsy4⟩ := bE hsy4
     refine q59 (.ip (eGroup.all a0.Groups) (v7.toNat * eGroup.size)) S30 ht66 ?_
     refine q60 (.ip (eGroup.all a0.Groups) (v7.toNat * eGroup.size + 1)) L110_1 ?_
     refine daf (.d (di t66.Lo)) rfl (fun hb => by subst hb; exact m_loadE (en := eGroup) (l := a0.Groups) (i := v7) (v := t66) (off := 1) (lq rfl) O3 rfl ht66 rfl) ?_
     refine daf (.d (db (decide (t61.Hi < t66.Lo)))) rfl (fun hb => by subst hb; exact a_lss (lq rfl) rfl rfl) ?_
     refine q76 ?_
     obtain ⟨b71, hb71, hsy4⟩ := bE hsy4
     refine daa ((a_move_d (lq rfl) rfl).bool (Option.some.inj hb71)) ?_
     refine q36 (.d (dsl eGroup a0.Groups)) ?_
     refine q36 (.d (di v7)) ?_
     obtain ⟨t74, ht74, hsy4⟩ := bE hsy4
     refine q59 (.ip (eGroup.all a0.Groups) (v7.toNat * eGroup.size)) S30 ht74 ?_
     refine q60 (.ip (eGroup.all a0.Groups) (v7.toNat * eGroup.size + 2)) L110_2 ?_
     refine daf (.d (di t74.Hi)) rfl (fun hb => by subst hb; exact m_loadE (en := eGroup) (l := a0.Groups) (i := v7) (v := t74) (off := 2) (lq rfl) O3 rfl ht74 rfl) ?_
     refine daf (.ip (eCollation.cells a0) (0 + 2)) rfl (fun hb => by subst hb; exact m_fieldPt (lq rfl) L32_2 rfl) ?_
     refine daf (.d (di a0.Base)) rfl (fun hb => by subst hb; exact a_load_ip (lq rfl) O3 rfl rfl) ?_
     refine daf (.d (db (decide (a0.Base ≤ t74.Hi)))) rfl (fun hb => by subst hb; exact a_geq (lq rfl) rfl rfl) ?_
     refine q76 ?_
     refine da_nil ?_
     refine ifM rfl hsy4 (fun _ hsy4 => ?_) (fun _ hsy4 => ?_)
     ·
      refine avc_sq2 <| avc_sq <| q1 ?_
      refine sq_nil <| avc_ret ?_
      cases hsy4
      intro q; cases q
      exact ⟨rfl, wc⟩
     ·
      refine avc_skip <| avc_sq <| q0 ?_
      refine q2 ?_
      refine q1 ?_
      refine sq_nil ?_
      cases hsy4
      exact wc
    ·
     refine avc_exit ?_
     cases hsy4
     intro q; cases q
     exact ⟨rfl, wc⟩
   ·
    rintro y4 rfl
    replace h := eL h
    refine avc_sq2 <| avc_sq2 <| avc_sq <| q1 ?_
    refine sq_nil <| avc_block ?_
    obtain ⟨y5, hy5, h⟩ := bE h
    refine avc_tail2 y5 (.exit 8) (fun y5 => ⟨[], []⟩) .ret (fun y5 => ⟨[(2, .d (di y5))], []⟩) ?_ ?_ ?_
    ·
     refine avc_loopM (fun x => ⟨[(3, .d (dsl eGroup a0.Groups)), (8, .d (di x))], []⟩) hy5 (wc) ?_
     rintro v8 sy5 hsy5
     replace hsy5 : ref43_groups_L4 a0 v8 = some sy5 := hsy5
     unfold ref43_groups_L4 at hsy5
     refine avc_sq2 <| avc_sq2 <| avc_sq <| q0 ?_
     refine q0 ?_
     refine q5 S30 ?_
     refine q3 ?_
     refine sq_nil ?_
     refine ifM rfl hsy5 (fun _ hsy5 => ?_) (fun _ hsy5 => ?_)
     ·
      refine avc_skip <| avc_sq2 <| avc_block <| avc_sq2 ?_
      refine avc_drawA MX rfl ?_
      refine q4 ?_
      refine q4 ?_
      obtain ⟨t89, ht89, hsy5⟩ := bE hsy5
      refine q17 S30 ht89 ?_
      refine q35 L110_1 ?_
      refine daa (m_loadE (en := eGroup) (l := a0.Groups) (i := v8) (v := t89) (off := 1) (lq rfl) O3 rfl ht89 rfl) ?_
      refine q4 ?_
      refine q4 ?_
      refine q74 ?_
      obtain ⟨t95, ht95, hsy5⟩ := bE hsy5
      refine q17 S30 ht95 ?_
      refine q35 L110_2 ?_
      refine daa (m_loadE (en := eGroup) (l := a0.Groups) (i := (wi (v8 - 1))) (v := t95) (off := 2) (lq rfl) O3 rfl ht95 rfl) ?_
      refine q111 ?_
      refine daa (a_neq (lq rfl) rfl rfl) ?_
      refine da_nil ?_
      refine ifM rfl hsy5 (fun _ hsy5 => ?_) (fun _ hsy5 => ?_)
      ·
       refine avc_sq2 <| avc_sq <| q1 ?_
       refine sq_nil <| avc_ret ?_
       cases hsy5
       intro q; cases q
       exact ⟨rfl, wc⟩
      ·
       refine avc_skip <| avc_sq <| q0 ?_
       refine q2 ?_
       refine q1 ?_
       refine sq_nil ?_
       cases hsy5
       exact wc
     ·
      refine avc_exit ?_
      cases hsy5
      intro q; cases q
      exact ⟨rfl, wc⟩
    ·
     rintro y5 rfl
     replace h := eL h
     refine avc_sq2 <| avc_sq <| q1 ?_
     refine sq_nil ?_
     cases h
     refine avc_ret ?_
     exact ret_1 rfl
    ·
     rintro y5 rfl
     replace h := eR h
     cases h
     exact ret_1 rfl
   ·
    rintro y4 rfl
    replace h := eR h
    cases h
    exact ret_1 rfl
  ·
   rintro y2 rfl
   replace h := eR h
   cases h
   exact ret_1 rfl
 ·
  rintro y1 rfl
  replace h := eR h
  cases h
  exact ret_1 rfl
theorem ref01_Valid_c  {a0}  {r} (h : ref01_Valid a0 = some r) : Contract Tryz.prog 58 [(di a0)] [(db r)] := by
 refine contract_of Tryz.func58 (by kernel_rfl) rfl (lq rfl) (lq rfl) fun w0 I0 hI0 hG0 => ?_
 unfold ref01_Valid at h
 refine avc_sq2 <| avc_sq <| q1 ?_
 refine sq_nil <| avc_sq2 <| avc_sq <| q0 ?_
 refine q30 ?_
 obtain ⟨b5, hb5, h⟩ := bE h
 refine sqa ((a_move_d (lq rfl) rfl).bool (Option.some.inj hb5)) ?_
 refine q10 (.d (di a0)) ?_
 refine q42 (.d (db (decide (a0 ≤ 1114111)))) ?_
 refine q12 ?_
 refine q1 ?_
 refine sq_nil ?_
 cases h
 refine avc_ret ?_
 exact ret_1 rfl
theorem ref42_weight_c  {a0}  {r} (h : ref42_weight a0 = some r) : Contract Tryz.prog 98 [(di a0)] [(db r)] := by
 refine contract_of Tryz.func98 (by kernel_rfl) rfl (lq rfl) (lq rfl) fun w0 I0 hI0 hG0 => ?_
 unfold ref42_weight at h
 refine avc_sq2 <| avc_sq <| q1 ?_
 refine sq_nil <| avc_sq2 <| avc_sq <| q0 ?_
 refine q30 ?_
 obtain ⟨b5, hb5, h⟩ := bE h
 refine sqa ((a_move_d (lq rfl) rfl).bool (Option.some.inj hb5)) ?_
 refine q10 (.d (di a0)) ?_
 refine q42 (.d (db (decide (a0 ≤ 65535)))) ?_
 refine q12 ?_
 refine q1 ?_
 refine sq_nil ?_
 cases h
 refine avc_ret ?_
 exact ret_1 rfl
theorem ref42_Check_c  {a0}  {r} (h : ref42_Check a0 = some r) : Contract Tryz.prog 70 [(eElement.dv a0)] [(di r)] := by
 refine contract_of Tryz.func70 (by kernel_rfl) rfl (lq rfl) (lq rfl) fun w0 I0 hI0 hG0 => ?_
 unfold ref42_Check at h
 refine avc_sq2 <| avc_sq ?_
 refine sqa (m_box (size := 4) (lq rfl) rfl rfl) ?_
 refine q1 ?_
 refine sq_nil <| avc_sq2 <| avc_sq2 <| avc_sq <| q7 L63_0 ?_
 refine q8 O3 ?_
 obtain ⟨t5, ht5, h⟩ := bE h
 refine q6 (ref42_weight_c ht5) ?_
 refine q22 ?_
 obtain ⟨b7, hb7, h⟩ := bE h
 refine sqa ((a_move_d (lq rfl) rfl).bool (Option.some.inj hb7)) ?_
 refine q23 (.ip (eElement.cells a0) (0 + 1)) L63_1 ?_
 refine q24 (.d (di a0.Secondary)) O3 ?_
 obtain ⟨t10, ht10, h⟩ := bE h
 refine sqf (.d (db t10)) rfl (fun hb => by subst hb; exact a_call (lq rfl) rfl (ref42_weight_c ht10)) ?_
 refine q91 (.d (db (!t10))) ?_
 refine q15 ?_
 obtain ⟨b13, hb13, h⟩ := bE h
 refine sqa ((a_move_d (lq rfl) rfl).bool (Option.some.inj hb13)) ?_
 refine q23 (.ip (eElement.cells a0) (0 + 2)) L63_2 ?_
 refine q24 (.d (di a0.Tertiary)) O3 ?_
 obtain ⟨t16, ht16, h⟩ := bE h
 refine sqf (.d (db t16)) rfl (fun hb => by subst hb; exact a_call (lq rfl) rfl (ref42_weight_c ht16)) ?_
 refine q91 (.d (db (!t16))) ?_
 refine q15 ?_
 refine sq_nil ?_
 refine ifM rfl h (fun _ h => ?_) (fun _ h => ?_)
 ·
  refine avc_sq2 <| avc_sq <| q1 ?_
  refine sq_nil ?_
  cases h
  refine avc_ret ?_
  exact ret_1 rfl
 ·
  refine avc_skip <| avc_sq2 <| avc_sq2 <| avc_sq <| q7 L63_0 ?_
  refine q8 O3 ?_
  refine q27 ?_
  obtain ⟨b22, hb22, h⟩ := bE h
  refine sqa ((a_move_d (lq rfl) rfl).bool (Option.some.inj hb22)) ?_
  refine q47 (.ip (eElement.cells a0) (0 + 1)) L63_1 ?_
  refine q49 (.d (di a0.Secondary)) O3 ?_
  refine q81 (.d (db (decide (a0.Secondary = 0)))) ?_
  obtain ⟨b26, hb26, h⟩ := bE h
  refine sqt (.d (db b26)) rfl (fun hb => by subst hb; exact (a_move_d (lq rfl) rfl).bool (Option.some.inj hb26)) ?_
  refine sq_g2 (x := .ip (eElement.cells a0) (0 + 2)) rfl rfl rfl (lq rfl) (lq rfl) rfl (fun hb => by obtain ⟨hb, hb1⟩ := and_split hb; obtain rfl : b22 = true := hb; obtain rfl := gF hb1; exact m_fieldPt (lq rfl) L63_2 rfl) ?_
  refine sq_g2 (x := .d (di a0.Tertiary)) rfl rfl rfl (lq rfl) (lq rfl) rfl (fun hb => by obtain ⟨hb, hb1⟩ := and_split hb; obtain rfl : b22 = true := hb; obtain rfl := gF hb1; exact a_load_ip (lq rfl) O3 rfl rfl) ?_
  refine sq_g2 (x := .d (db (decide (a0.Tertiary = 0)))) rfl rfl rfl (lq rfl) (lq rfl) rfl (fun hb => by obtain ⟨hb, hb1⟩ := and_split hb; obtain rfl : b22 = true := hb; obtain rfl := gF hb1; exact a_eql (lq rfl) rfl rfl) ?_
  refine q123 (.d (db (b26 || (decide (a0.Tertiary = 0))))) ?_
  refine q12 ?_
  obtain ⟨b32, hb32, h⟩ := bE h
  refine sqa ((a_move_d (lq rfl) rfl).bool (Option.some.inj hb32)) ?_
  refine q23 (.ip (eElement.cells a0) (0 + 1)) L63_1 ?_
  refine q24 (.d (di a0.Secondary)) O3 ?_
  refine sqf (.d (db (!decide (a0.Secondary = 0)))) rfl (fun hb => by subst hb; exact a_neq (lq rfl) rfl rfl) ?_
  obtain ⟨b36, hb36, h⟩ := bE h
  refine sqf (.d (db b36)) rfl (fun hb => by subst hb; exact (a_move_d (lq rfl) rfl).bool (Option.some.inj hb36)) ?_
  refine sq_g2 (x := .ip (eElement.cells a0) (0 + 2)) rfl rfl rfl (lq rfl) (lq rfl) rfl (fun hb => by obtain ⟨hb, hb1⟩ := and_split hb; obtain rfl := gF hb; obtain rfl : b36 = true := hb1; exact m_fieldPt (lq rfl) L63_2 rfl) ?_
  refine sq_g2 (x := .d (di a0.Tertiary)) rfl rfl rfl (lq rfl) (lq rfl) rfl (fun hb => by obtain ⟨hb, hb1⟩ := and_split hb; obtain rfl := gF hb; obtain rfl : b36 = true := hb1; exact a_load_ip (lq rfl) O3 rfl rfl) ?_
  refine sq_g2 (x := .d (db (decide (a0.Tertiary = 0)))) rfl rfl rfl (lq rfl) (lq rfl) rfl (fun hb => by obtain ⟨hb, hb1⟩ := and_split hb; obtain rfl := gF hb; obtain rfl : b36 = true := hb1; exact a_eql (lq rfl) rfl rfl) ?_
  refine q62 (.d (db (b36 && (decide (a0.Tertiary = 0))))) ?_
  refine q15 ?_
  obtain ⟨b42, hb42, h⟩ := bE h
  refine sqa ((a_move_d (lq rfl) rfl).bool (Option.some.inj hb42)) ?_
  refine q23 (.ip (eElement.cells a0) (0 + 3)) L63_3 ?_
  refine q24 (.d (db a0.Variable)) O4 ?_
  obtain ⟨b45, hb45, h⟩ := bE h
  refine sqf (.d (db b45)) rfl (fun hb => by subst hb; exact (a_move_d (lq rfl) rfl).bool (Option.some.inj hb45)) ?_
  refine sq_g2 (x := .ip (eElement.cells a0) (0 + 0)) rfl rfl rfl (lq rfl) (lq rfl) rfl (fun hb => by obtain ⟨hb, hb1⟩ := and_split hb; obtain rfl := gF hb; obtain rfl : b45 = true := hb1; exact m_fieldPt (lq rfl) L63_0 rfl) ?_
  refine sq_g2 (x := .d (di a0.Primary)) rfl rfl rfl (lq rfl) (lq rfl) rfl (fun hb => by obtain ⟨hb, hb1⟩ := and_split hb; obtain rfl := gF hb; obtain rfl : b45 = true := hb1; exact a_load_ip (lq rfl) O3 rfl rfl) ?_
  refine sq_g2 (x := .d (db (decide (a0.Primary = 0)))) rfl rfl rfl (lq rfl) (lq rfl) rfl (fun hb => by obtain ⟨hb, hb1⟩ := and_split hb; obtain rfl := gF hb; obtain rfl : b45 = true := hb1; exact a_eql (lq rfl) rfl rfl) ?_
  refine q62 (.d (db (b45 && (decide (a0.Primary = 0))))) ?_
  refine q15 ?_
  refine sq_nil ?_
  refine ifM rfl h (fun _ h => ?_) (fun _ h => ?_)
  ·
   refine avc_sq2 <| avc_sq <| q1 ?_
   refine sq_nil ?_
   cases h
   refine avc_ret ?_
   exact ret_1 rfl
  ·
   refine avc_skip <| avc_sq2 <| avc_sq <| q1 ?_
   refine sq_nil ?_
   cases h
   refine avc_ret ?_
   exact ret_1 rfl
theorem ref43_entry_c  {a0} {a1}  {r} (h : ref43_entry a0 a1 = some r) : Contract Tryz.prog 43 [(eCollation.dv a0), (di a1)] [(di r)] := by
 refine contract_of Tryz.func43 (by kernel_rfl) rfl (lq rfl) (lq rfl) fun w0 I0 hI0 hG0 => ?_
 unfold ref43_entry at h
 refine avc_sq2 <| avc_sq <| q41 ?_
 refine q1 ?_
 refine sq_nil <| avc_sq2 <| avc_sq <| q7 L32_0 ?_
 refine q8 O29 ?_
 refine q0 ?_
 obtain ⟨t13, ht13, h⟩ := bE h
 refine q11 S29 ht13 ?_
 refine sqa (m_loadEA (en := eEntry) (l := a0.Entries) (i := a1) (v := t13) (off := 0) (lq rfl) G45 rfl ht13 rfl rfl (by decide)) ?_
 refine sq_b rfl (step_alloc (zs := [(.slice none 0 0), (.slice none 0 0)]) (lq rfl) (by kernel_rfl) rfl rfl) ?_
 refine q14 G45 ?_
 refine sq_nil ?_
 refine avc_weak (weak_freeze (t := 5) (lq rfl) rfl rfl rfl) ?_
 refine avc_sq2 <| avc_sq2 <| avc_sq <| q7 L45_0 ?_
 refine q8 O33 ?_
 refine q5 S33 ?_
 refine q3 ?_
 obtain ⟨b19, hb19, h⟩ := bE h
 refine sqa ((a_move_d (lq rfl) rfl).bool (Option.some.inj hb19)) ?_
 refine q23 (.ip (eEntry.cells t13) (0 + 0)) L45_0 ?_
 refine q24 (.d (dsl eI t13.Codes)) O33 ?_
 refine q69 (.d (di (t13.Codes.length : Int))) S33 ?_
 refine q46 (.d (db (decide (8 < (t13.Codes.length : Int))))) ?_
 refine q15 ?_
 obtain ⟨b25, hb25, h⟩ := bE h
 refine sqa ((a_move_d (lq rfl) rfl).bool (Option.some.inj hb25)) ?_
 refine q23 (.ip (eEntry.cells t13) (0 + 1)) L45_1 ?_
 refine q24 (.d (dsl eElement t13.Elements)) O38 ?_
 refine q69 (.d (di (t13.Elements.length : Int))) S38 ?_
 refine q46 (.d (db (decide (16 < (t13.Elements.length : Int))))) ?_
 refine q15 ?_
 refine sq_nil ?_
 refine ifM rfl h (fun _ h => ?_) (fun _ h => ?_)
 ·
  refine avc_sq2 <| avc_sq <| q1 ?_
  refine sq_nil ?_
  cases h
  refine avc_ret ?_
  exact ret_1 rfl
 ·
  refine avc_skip <| avc_sq2 <| avc_sq2 <| avc_sq <| q1 ?_
  refine sq_nil <| avc_block ?_
  obtain ⟨y1, hy1, h⟩ := bE h
  refine avc_tail2 y1 (.exit 0) (fun y1 => ⟨[(1, .d (di a1)), (2, .d (.pt (eCollation.cells a0))), (5, .d (.pt (eEntry.cells t13)))], []⟩) .ret (fun y1 => ⟨[(4, .d (di y1))], []⟩) ?_ ?_ ?_
  ·
   refine avc_loopM (fun x => ⟨[(1, .d (di a1)), (2, .d (.pt (eCollation.cells a0))), (5, .d (.pt (eEntry.cells t13))), (6, .d (di x))], []⟩) hy1 (wc) ?_
   rintro v6 sy1 hsy1
   replace hsy1 : ref43_entry_L0 t13 v6 = some sy1 := hsy1
   unfold ref43_entry_L0 at hsy1
   refine avc_sq2 <| avc_sq2 <| avc_sq <| q0 ?_
   refine q7 L45_0 ?_
   refine q8 O33 ?_
   refine q5 S33 ?_
   refine q3 ?_
   refine sq_nil ?_
   refine ifM rfl hsy1 (fun _ hsy1 => ?_) (fun _ hsy1 => ?_)
   ·
    refine avc_skip <| avc_sq2 <| avc_block <| avc_sq2 <| avc_sq <| q7 L45_0 ?_
    refine q8 O33 ?_
    refine q0 ?_
    obtain ⟨t41, ht41, hsy1⟩ := bE hsy1
    refine q11 S33 ht41 ?_
    refine q29 O3 ht41 ?_
    obtain ⟨t43, ht43, hsy1⟩ := bE hsy1
    refine q6 (ref01_Valid_c ht43) ?_
    refine q22 ?_
    refine sq_nil ?_
    refine ifM rfl hsy1 (fun _ hsy1 => ?_) (fun _ hsy1 => ?_)
    ·
     refine avc_sq2 <| avc_sq <| q1 ?_
     refine sq_nil <| avc_ret ?_
     cases hsy1
     intro q; cases q
     exact ⟨rfl, wc⟩
    ·
     refine avc_skip <| avc_sq <| q0 ?_
     refine q2 ?_
     refine q1 ?_
     refine sq_nil ?_
     cases hsy1
     exact wc
   ·
    refine avc_exit ?_
    cases hsy1
    intro q; cases q
    exact ⟨rfl, wc⟩
  ·
   rintro y1 rfl
   replace h := eL h
   refine avc_sq2 <| avc_sq2 <| avc_sq <| q1 ?_
   refine sq_nil <| avc_block ?_
   obtain ⟨y2, hy2, h⟩ := bE h
   refine avc_tail2 y2 (.exit 2) (fun y2 => ⟨[(1, .d (di a1)), (2, .d (.pt (eCollation.cells a0))), (5, .d (.pt (eEntry.cells t13)))], []⟩) .ret (fun y2 => ⟨[(4, .d (di y2))], []⟩) ?_ ?_ ?_
   ·
    refine avc_loopM (fun x => ⟨[(1, .d (di a1)), (2, .d (.pt (eCollation.cells a0))), (5, .d (.pt (eEntry.cells t13))), (7, .d (di x))], []⟩) hy2 (wc) ?_
    rintro v7 sy2 hsy2
    replace hsy2 : ref43_entry_L1 t13 v7 = some sy2 := hsy2
    unfold ref43_entry_L1 at hsy2
    refine avc_sq2 <| avc_sq2 <| avc_sq <| q0 ?_
    refine q7 L45_1 ?_
    refine q8 O38 ?_
    refine q5 S38 ?_
    refine q3 ?_
    refine sq_nil ?_
    refine ifM rfl hsy2 (fun _ hsy2 => ?_) (fun _ hsy2 => ?_)
    ·
     refine avc_skip <| avc_sq2 <| avc_block <| avc_sq2 <| avc_sq <| q7 L45_1 ?_
     refine q8 O38 ?_
     refine q0 ?_
     obtain ⟨t55, ht55, hsy2⟩ := bE hsy2
     refine q11 S38 ht55 ?_
     refine sqa (m_loadEA (en := eElement) (l := t13.Elements) (i := v7) (v := t55) (off := 0) (lq rfl) G63 rfl ht55 rfl rfl (by decide)) ?_
     obtain ⟨t57, ht57, hsy2⟩ := bE hsy2
     refine q6 (ref42_Check_c ht57) ?_
     refine q1 ?_
     refine sq_nil <| avc_sq2 <| avc_sq <| q0 ?_
     refine q27 ?_
     refine sq_nil ?_
     refine ifM rfl hsy2 (fun _ hsy2 => ?_) (fun _ hsy2 => ?_)
     ·
      refine avc_sq2 <| avc_sq <| q0 ?_
      refine q1 ?_
      refine sq_nil <| avc_ret ?_
      cases hsy2
      intro q; cases q
      exact ⟨rfl, wc⟩
     ·
      refine avc_skip <| avc_sq <| q0 ?_
      refine q2 ?_
      refine q1 ?_
      refine sq_nil ?_
      cases hsy2
      exact wc
    ·
     refine avc_exit ?_
     cases hsy2
     intro q; cases q
     exact ⟨rfl, wc⟩
   ·
    rintro y2 rfl
    replace h := eL h
    refine avc_sq2 <| avc_sq2 <| avc_sq <| q1 ?_
    refine sq_nil <| avc_block ?_
    obtain ⟨y3, hy3, h⟩ := bE h
    refine avc_tail2 y3 (.exit 4) (fun y3 => ⟨[(1, .d (di a1)), (2, .d (.pt (eCollation.cells a0))), (5, .d (.pt (eEntry.cells t13)))], []⟩) .ret (fun y3 => ⟨[(4, .d (di y3))], []⟩) ?_ ?_ ?_
    ·
     refine avc_loopM (fun x => ⟨[(1, .d (di a1)), (2, .d (.pt (eCollation.cells a0))), (5, .d (.pt (eEntry.cells t13))), (9, .d (di x))], []⟩) hy3 (wc) ?_
     rintro v9 sy3 hsy3
     replace hsy3 : ref43_entry_L2 t13 a0 v9 = some sy3 := hsy3
     unfold ref43_entry_L2 at hsy3
     refine avc_sq2 <| avc_sq2 <| avc_sq <| q0 ?_
     refine q7 L45_1 ?_
     refine q8 O38 ?_
     refine q5 S38 ?_
     refine q3 ?_
     refine sq_nil ?_
     refine ifM rfl hsy3 (fun _ hsy3 => ?_) (fun _ hsy3 => ?_)
     ·
      refine avc_skip <| avc_sq2 <| avc_block <| avc_sq2 ?_
      refine avc_drawA MX rfl ?_
      refine q19 L45_1 ?_
      refine q21 O38 ?_
      refine q4 ?_
      obtain ⟨t71, ht71, hsy3⟩ := bE hsy3
      refine q17 S38 ht71 ?_
      refine q35 L63_0 ?_
      refine daa (m_loadE (en := eElement) (l := t13.Elements) (i := v9) (v := t71) (off := 0) (lq rfl) O3 rfl ht71 rfl) ?_
      refine q19 L32_2 ?_
      refine q21 O3 ?_
      refine daa (a_geq (lq rfl) rfl rfl) ?_
      refine da_nil ?_
      refine ifM rfl hsy3 (fun _ hsy3 => ?_) (fun _ hsy3 => ?_)
      ·
       refine avc_sq2 <| avc_sq <| q1 ?_
       refine sq_nil <| avc_ret ?_
       cases hsy3
       intro q; cases q
       exact ⟨rfl, wc⟩
      ·
       refine avc_skip <| avc_sq <| q0 ?_
       refine q2 ?_
       refine q1 ?_
       refine sq_nil ?_
       cases hsy3
       exact wc
     ·
      refine avc_exit ?_
      cases hsy3
      intro q; cases q
      exact ⟨rfl, wc⟩
    ·
     rintro y3 rfl
     replace h := eL h
     refine avc_sq2 <| avc_sq2 ?_
     refine avc_drawA MX rfl ?_
     refine q4 ?_
     refine q80 ?_
     obtain ⟨b79, hb79, h⟩ := bE h
     refine daa ((a_move_d (lq rfl) rfl).bool (Option.some.inj hb79)) ?_
     refine q40 (.ip (eCollation.cells a0) (0 + 0)) L32_0 ?_
     refine q55 (.d (dsl eEntry a0.Entries)) O29 ?_
     refine q38 (.d (di a1)) ?_
     refine q90 (.d (di (wi (a1 - 1)))) ?_
     obtain ⟨t84, ht84, h⟩ := bE h
     refine q71 (.ip (eEntry.all a0.Entries) ((wi (a1 - 1)).toNat * eEntry.size)) S29 ht84 ?_
     refine q72 (.ip (eEntry.all a0.Entries) ((wi (a1 - 1)).toNat * eEntry.size + 0)) L45_0 ?_
     refine dat (.d (dsl eI t84.Codes)) rfl (fun hb => by subst hb; exact m_loadE (en := eEntry) (l := a0.Entries) (i := (wi (a1 - 1))) (v := t84) (off := 0) (lq rfl) O33 rfl ht84 rfl) ?_
     refine q40 (.ip (eEntry.cells t13) (0 + 0)) L45_0 ?_
     refine q55 (.d (dsl eI t13.Codes)) O33 ?_
     obtain ⟨t89, ht89, h⟩ := bE h
     refine dat (.d (di t89)) rfl (fun hb => by subst hb; exact a_call (lq rfl) rfl (ref01_Compare_c ht89)) ?_
     refine dat (.d (db (decide (0 ≤ t89)))) rfl (fun hb => by subst hb; exact a_geq (lq rfl) rfl rfl) ?_
     refine q50 ?_
     refine da_nil ?_
     refine ifM rfl h (fun _ h => ?_) (fun _ h => ?_)
     ·
      refine avc_sq2 <| avc_sq <| q1 ?_
      refine sq_nil ?_
      cases h
      refine avc_ret ?_
      exact ret_1 rfl
     ·
      refine avc_skip <| avc_sq2 <| avc_sq <| q1 ?_
      refine sq_nil ?_
      cases h
      refine avc_ret ?_
      exact ret_1 rfl
    ·
     rintro y3 rfl
     replace h := eR h
     cases h
     exact ret_1 rfl
   ·
    rintro y2 rfl
    replace h := eR h
    cases h
    exact ret_1 rfl
  ·
   rintro y1 rfl
   replace h := eR h
   cases h
   exact ret_1 rfl
theorem ref43_Check_c  {a0}  {r} (h : ref43_Check a0 = some r) : Contract Tryz.prog 18 [(eCollation.dv a0)] [(di r)] := by
 refine contract_of Tryz.func18 (by kernel_rfl) rfl (lq rfl) (lq rfl) fun w0 I0 hI0 hG0 => ?_
 unfold ref43_Check at h
 refine avc_sq2 <| avc_sq <| q41 ?_
 refine q1 ?_
 refine sq_nil <| avc_sq2 <| avc_sq2 <| avc_sq <| q7 L32_2 ?_
 refine q8 O3 ?_
 refine q3 ?_
 obtain ⟨b9, hb9, h⟩ := bE h
 refine sqa ((a_move_d (lq rfl) rfl).bool (Option.some.inj hb9)) ?_
 refine q23 (.ip (eCollation.cells a0) (0 + 2)) L32_2 ?_
 refine q24 (.d (di a0.Base)) O3 ?_
 refine q46 (.d (db (decide (65502 < a0.Base)))) ?_
 refine q15 ?_
 obtain ⟨b14, hb14, h⟩ := bE h
 refine sqa ((a_move_d (lq rfl) rfl).bool (Option.some.inj hb14)) ?_
 refine q23 (.ip (eCollation.cells a0) (0 + 3)) L32_3 ?_
 refine q24 (.d (di a0.Second)) O3 ?_
 obtain ⟨t17, ht17, h⟩ := bE h
 refine sqf (.d (db t17)) rfl (fun hb => by subst hb; exact a_call (lq rfl) rfl (ref43_weight_c ht17)) ?_
 refine q91 (.d (db (!t17))) ?_
 refine q15 ?_
 obtain ⟨b20, hb20, h⟩ := bE h
 refine sqa ((a_move_d (lq rfl) rfl).bool (Option.some.inj hb20)) ?_
 refine q23 (.ip (eCollation.cells a0) (0 + 4)) L32_4 ?_
 refine q24 (.d (di a0.Third)) O3 ?_
 obtain ⟨t23, ht23, h⟩ := bE h
 refine sqf (.d (db t23)) rfl (fun hb => by subst hb; exact a_call (lq rfl) rfl (ref43_weight_c ht23)) ?_
 refine q91 (.d (db (!t23))) ?_
 refine q15 ?_
 refine sq_nil ?_
 refine ifM rfl h (fun _ h => ?_) (fun _ h => ?_)
 ·
  refine avc_sq2 <| avc_sq <| q1 ?_
  refine sq_nil ?_
  cases h
  refine avc_ret ?_
  exact ret_1 rfl
 ·
  refine avc_skip <| avc_sq2 <| avc_sq2 <| avc_sq <| q16 G32 ?_
  obtain ⟨t27, ht27, h⟩ := bE h
  refine q6 (ref43_groups_c ht27) ?_
  refine q1 ?_
  refine sq_nil <| avc_sq2 <| avc_sq <| q0 ?_
  refine q27 ?_
  refine sq_nil ?_
  refine ifM rfl h (fun _ h => ?_) (fun _ h => ?_)
  ·
   refine avc_sq2 <| avc_sq <| q0 ?_
   refine q1 ?_
   refine sq_nil ?_
   cases h
   refine avc_ret ?_
   exact ret_1 rfl
  ·
   refine avc_skip <| avc_sq2 <| avc_sq2 <| avc_sq <| q1 ?_
   refine sq_nil <| avc_block ?_
   obtain ⟨y1, hy1, h⟩ := bE h
   refine avc_tail2 y1 (.exit 0) (fun y1 => ⟨[], []⟩) .ret (fun y1 => ⟨[(2, .d (di y1))], []⟩) ?_ ?_ ?_
   ·
    refine avc_loopM (fun x => ⟨[(1, .d (.pt (eCollation.cells a0))), (4, .d (di x))], []⟩) hy1 (wc) ?_
    rintro v4 sy1 hsy1
    replace hsy1 : ref43_Check_L0 a0 v4 = some sy1 := hsy1
    unfold ref43_Check_L0 at hsy1
    refine avc_sq2 <| avc_sq2 <| avc_sq <| q0 ?_
    refine q7 L32_0 ?_
    refine q8 O29 ?_
    refine q5 S29 ?_
    refine q3 ?_
    refine sq_nil ?_
    refine ifM rfl hsy1 (fun _ hsy1 => ?_) (fun _ hsy1 => ?_)
    ·
     refine avc_skip <| avc_sq2 <| avc_block <| avc_sq2 <| avc_sq <| q16 G32 ?_
     refine q0 ?_
     obtain ⟨t40, ht40, hsy1⟩ := bE hsy1
     refine q6 (ref43_entry_c ht40) ?_
     refine q1 ?_
     refine sq_nil <| avc_sq2 <| avc_sq <| q0 ?_
     refine q27 ?_
     refine sq_nil ?_
     refine ifM rfl hsy1 (fun _ hsy1 => ?_) (fun _ hsy1 => ?_)
     ·
      refine avc_sq2 <| avc_sq <| q0 ?_
      refine q1 ?_
      refine sq_nil <| avc_ret ?_
      cases hsy1
      intro q; cases q
      exact ⟨rfl, wc⟩
     ·
      refine avc_skip <| avc_sq <| q0 ?_
      refine q2 ?_
      refine q1 ?_
      refine sq_nil ?_
      cases hsy1
      exact wc
    ·
     refine avc_exit ?_
     cases hsy1
     intro q; cases q
     exact ⟨rfl, wc⟩
   ·
    rintro y1 rfl
    replace h := eL h
    refine avc_sq2 <| avc_sq <| q1 ?_
    refine sq_nil ?_
    cases h
    refine avc_ret ?_
    exact ret_1 rfl
   ·
    rintro y1 rfl
    replace h := eR h
    cases h
    exact ret_1 rfl
theorem ref43_Data_c  {a0}  {r} (h : ref43_Data a0 = some r) : Contract Tryz.prog 13 [(eCollation.dv a0)] [(eCollation.dv r)] := by
 refine contract_of Tryz.func13 (by kernel_rfl) rfl (lq rfl) (lq rfl) fun w0 I0 hI0 hG0 => ?_
 unfold ref43_Data at h
 refine avc_sq2 <| avc_sq <| q41 ?_
 refine q114 ?_
 refine sq_nil <| avc_sq2 <| avc_sq2 <| avc_sq <| q16 G32 ?_
 obtain ⟨t4, ht4, h⟩ := bE h
 refine q6 (ref43_Check_c ht4) ?_
 refine q27 ?_
 refine sq_nil ?_
 refine ifM rfl h (fun _ h => ?_) (fun _ h => ?_)
 ·
  refine avc_sq2 <| avc_sq ?_
  refine sqa ((m_build (lq rfl) B32 rfl rfl).nils (bs := eCollation.cells ({ Entries := [], Groups := [], Base := 64448, Second := 32, Third := 2 } : Collation)) (nlN (nlN (nlE (nlE (nlE nl0)))))) ?_
  refine q14 G32 ?_
  refine sq_nil ?_
  cases h
  refine avc_ret ?_
  exact ret_cellA rfl rfl G32 rfl
 ·
  refine avc_skip <| avc_sq2 <| avc_sq <| q16 G32 ?_
  refine q14 G32 ?_
  refine sq_nil ?_
  cases h
  refine avc_ret ?_
  exact ret_cellA rfl rfl G32 rfl
theorem ref20_hangul_c    {r} (h : ref20_hangul  = some r) : Contract Tryz.prog 87 [] [(dsl eRange r)] := by
 refine contract_of Tryz.func87 (by kernel_rfl) rfl (lq rfl) (lq rfl) fun w0 I0 hI0 hG0 => ?_
 unfold ref20_hangul at h
 refine avc_sq2 <| avc_sq <| q1 ?_
 refine sq_nil <| avc_sq2 <| avc_sq <| q44 B123 ?_
 refine q44 B123 ?_
 refine q44 B123 ?_
 refine q44 B123 ?_
 refine q31 S24 ?_
 refine q1 ?_
 refine sq_nil ?_
 cases h
 refine avc_ret ?_
 exact ret_1 rfl
theorem ref20_Check_c  {a0}  {r} (h : ref20_Check a0 = some r) : Contract Tryz.prog 61 [(dsl eSpan a0)] [(di r)] := by
 refine contract_of Tryz.func61 (by kernel_rfl) rfl (lq rfl) (lq rfl) fun w0 I0 hI0 hG0 => ?_
 unfold ref20_Check at h
 refine avc_sq2 <| avc_sq <| q1 ?_
 refine sq_nil <| avc_sq2 <| avc_sq2 <| avc_sq <| q1 ?_
 refine sq_nil <| avc_block ?_
 obtain ⟨y1, hy1, h⟩ := bE h
 refine avc_tail2 y1 (.exit 0) (fun y1 => ⟨[(0, .d (dsl eSpan a0))], []⟩) .ret (fun y1 => ⟨[(2, .d (di y1))], []⟩) ?_ ?_ ?_
 ·
  refine avc_loopM (fun x => ⟨[(0, .d (dsl eSpan a0)), (3, .d (di x))], []⟩) hy1 (wc) ?_
  rintro v3 sy1 hsy1
  replace hsy1 : ref20_Check_L0 a0 v3 = some sy1 := hsy1
  unfold ref20_Check_L0 at hsy1
  refine avc_sq2 <| avc_sq2 <| avc_sq <| q0 ?_
  refine q0 ?_
  refine q5 S22 ?_
  refine q3 ?_
  refine sq_nil ?_
  refine ifM rfl hsy1 (fun _ hsy1 => ?_) (fun _ hsy1 => ?_)
  ·
   refine avc_skip <| avc_sq2 <| avc_block <| avc_sq2 ?_
   refine avc_drawA MX rfl ?_
   refine q4 ?_
   refine q4 ?_
   obtain ⟨t16, ht16, hsy1⟩ := bE hsy1
   refine q17 S22 ht16 ?_
   refine q35 L61_0 ?_
   refine daa (m_loadE (en := eSpan) (l := a0) (i := v3) (v := t16) (off := 0) (lq rfl) O3 rfl ht16 rfl) ?_
   obtain ⟨t19, ht19, hsy1⟩ := bE hsy1
   refine q20 (ref01_Valid_c ht19) ?_
   refine q115 ?_
   obtain ⟨b21, hb21, hsy1⟩ := bE hsy1
   refine daa ((a_move_d (lq rfl) rfl).bool (Option.some.inj hb21)) ?_
   refine q36 (.d (dsl eSpan a0)) ?_
   refine q36 (.d (di v3)) ?_
   obtain ⟨t24, ht24, hsy1⟩ := bE hsy1
   refine q59 (.ip (eSpan.all a0) (v3.toNat * eSpan.size)) S22 ht24 ?_
   refine q60 (.ip (eSpan.all a0) (v3.toNat * eSpan.size + 1)) L61_1 ?_
   refine daf (.d (di t24.Hi)) rfl (fun hb => by subst hb; exact m_loadE (en := eSpan) (l := a0) (i := v3) (v := t24) (off := 1) (lq rfl) O3 rfl ht24 rfl) ?_
   obtain ⟨t27, ht27, hsy1⟩ := bE hsy1
   refine daf (.d (db t27)) rfl (fun hb => by subst hb; exact a_call (lq rfl) rfl (ref01_Valid_c ht27)) ?_
   refine daf (.d (db (!t27))) rfl (fun hb => by subst hb; exact a_not (lq rfl) rfl) ?_
   refine q76 ?_
   obtain ⟨b30, hb30, hsy1⟩ := bE hsy1
   refine daa ((a_move_d (lq rfl) rfl).bool (Option.some.inj hb30)) ?_
   refine q36 (.d (dsl eSpan a0)) ?_
   refine q36 (.d (di v3)) ?_
   obtain ⟨t33, ht33, hsy1⟩ := bE hsy1
   refine q59 (.ip (eSpan.all a0) (v3.toNat * eSpan.size)) S22 ht33 ?_
   refine q60 (.ip (eSpan.all a0) (v3.toNat * eSpan.size + 0)) L61_0 ?_
   refine daf (.d (di t33.Lo)) rfl (fun hb => by subst hb; exact m_loadE (en := eSpan) (l := a0) (i := v3) (v := t33) (off := 0) (lq rfl) O3 rfl ht33 rfl) ?_
   refine q36 (.d (dsl eSpan a0)) ?_
   refine q36 (.d (di v3)) ?_
   obtain ⟨t38, ht38, hsy1⟩ := bE hsy1
   refine q59 (.ip (eSpan.all a0) (v3.toNat * eSpan.size)) S22 ht38 ?_
   refine q60 (.ip (eSpan.all a0) (v3.toNat * eSpan.size + 1)) L61_1 ?_
   refine daf (.d (di t38.Hi)) rfl (fun hb => by subst hb; exact m_loadE (en := eSpan) (l := a0) (i := v3) (v := t38) (off := 1) (lq rfl) O3 rfl ht38 rfl) ?_
   refine daf (.d (db (decide (t38.Hi < t33.Lo)))) rfl (fun hb => by subst hb; exact a_gtr (lq rfl) rfl rfl) ?_
   refine q76 ?_
   obtain ⟨b43, hb43, hsy1⟩ := bE hsy1
   refine daa ((a_move_d (lq rfl) rfl).bool (Option.some.inj hb43)) ?_
   refine q36 (.d (dsl eSpan a0)) ?_
   refine q36 (.d (di v3)) ?_
   obtain ⟨t46, ht46, hsy1⟩ := bE hsy1
   refine q59 (.ip (eSpan.all a0) (v3.toNat * eSpan.size)) S22 ht46 ?_
   refine q60 (.ip (eSpan.all a0) (v3.toNat * eSpan.size + 2)) L61_2 ?_
   refine daf (.d (di t46.Value)) rfl (fun hb => by subst hb; exact m_loadE (en := eSpan) (l := a0) (i := v3) (v := t46) (off := 2) (lq rfl) O3 rfl ht46 rfl) ?_
   refine daf (.d (db (decide (t46.Value < 1)))) rfl (fun hb => by subst hb; exact a_lss (lq rfl) rfl rfl) ?_
   refine q76 ?_
   obtain ⟨b51, hb51, hsy1⟩ := bE hsy1
   refine daa ((a_move_d (lq rfl) rfl).bool (Option.some.inj hb51)) ?_
   refine q36 (.d (dsl eSpan a0)) ?_
   refine q36 (.d (di v3)) ?_
   obtain ⟨t54, ht54, hsy1⟩ := bE hsy1
   refine q59 (.ip (eSpan.all a0) (v3.toNat * eSpan.size)) S22 ht54 ?_
   refine q60 (.ip (eSpan.all a0) (v3.toNat * eSpan.size + 2)) L61_2 ?_
   refine daf (.d (di t54.Value)) rfl (fun hb => by subst hb; exact m_loadE (en := eSpan) (l := a0) (i := v3) (v := t54) (off := 2) (lq rfl) O3 rfl ht54 rfl) ?_
   refine daf (.d (db (decide (254 < t54.Value)))) rfl (fun hb => by subst hb; exact a_gtr (lq rfl) rfl rfl) ?_
   refine q76 ?_
   refine da_nil ?_
   refine ifM rfl hsy1 (fun _ hsy1 => ?_) (fun _ hsy1 => ?_)
   ·
    refine avc_sq2 <| avc_sq <| q1 ?_
    refine sq_nil <| avc_ret ?_
    cases hsy1
    intro q; cases q
    exact ⟨rfl, wc⟩
   ·
    refine avc_skip <| avc_sq <| q0 ?_
    refine q2 ?_
    refine q1 ?_
    refine sq_nil ?_
    cases hsy1
    exact wc
  ·
   refine avc_exit ?_
   cases hsy1
   intro q; cases q
   exact ⟨rfl, wc⟩
 ·
  rintro y1 rfl
  replace h := eL h
  refine avc_sq2 <| avc_sq2 <| avc_sq <| q1 ?_
  refine sq_nil <| avc_block ?_
  obtain ⟨y2, hy2, h⟩ := bE h
  refine avc_tail2 y2 (.exit 2) (fun y2 => ⟨[(0, .d (dsl eSpan a0))], []⟩) .ret (fun y2 => ⟨[(2, .d (di y2))], []⟩) ?_ ?_ ?_
  ·
   refine avc_loopM (fun x => ⟨[(0, .d (dsl eSpan a0)), (4, .d (di x))], []⟩) hy2 (wc) ?_
   rintro v4 sy2 hsy2
   replace hsy2 : ref20_Check_L1 a0 v4 = some sy2 := hsy2
   unfold ref20_Check_L1 at hsy2
   refine avc_sq2 <| avc_sq2 <| avc_sq <| q0 ?_
   refine q0 ?_
   refine q5 S22 ?_
   refine q3 ?_
   refine sq_nil ?_
   refine ifM rfl hsy2 (fun _ hsy2 => ?_) (fun _ hsy2 => ?_)
   ·
    refine avc_skip <| avc_sq2 <| avc_block <| avc_sq2 ?_
    refine avc_drawA MX rfl ?_
    refine q4 ?_
    refine q4 ?_
    obtain ⟨t67, ht67, hsy2⟩ := bE hsy2
    refine q17 S22 ht67 ?_
    refine q35 L61_0 ?_
    refine daa (m_loadE (en := eSpan) (l := a0) (i := v4) (v := t67) (off := 0) (lq rfl) O3 rfl ht67 rfl) ?_
    refine q4 ?_
    refine q4 ?_
    refine q74 ?_
    obtain ⟨t73, ht73, hsy2⟩ := bE hsy2
    refine q17 S22 ht73 ?_
    refine q35 L61_1 ?_
    refine daa (m_loadE (en := eSpan) (l := a0) (i := (wi (v4 - 1))) (v := t73) (off := 1) (lq rfl) O3 rfl ht73 rfl) ?_
    refine daa (a_leq (lq rfl) rfl rfl) ?_
    obtain ⟨b77, hb77, hsy2⟩ := bE hsy2
    refine daa ((a_move_d (lq rfl) rfl).bool (Option.some.inj hb77)) ?_
    refine q36 (.d (dsl eSpan a0)) ?_
    refine q36 (.d (di v4)) ?_
    obtain ⟨t80, ht80, hsy2⟩ := bE hsy2
    refine q59 (.ip (eSpan.all a0) (v4.toNat * eSpan.size)) S22 ht80 ?_
    refine q60 (.ip (eSpan.all a0) (v4.toNat * eSpan.size + 0)) L61_0 ?_
    refine daf (.d (di t80.Lo)) rfl (fun hb => by subst hb; exact m_loadE (en := eSpan) (l := a0) (i := v4) (v := t80) (off := 0) (lq rfl) O3 rfl ht80 rfl) ?_
    refine q36 (.d (dsl eSpan a0)) ?_
    refine q36 (.d (di v4)) ?_
    refine daf (.d (di (wi (v4 - 1)))) rfl (fun hb => by subst hb; exact m_sub (lq rfl) rfl rfl) ?_
    obtain ⟨t86, ht86, hsy2⟩ := bE hsy2
    refine q59 (.ip (eSpan.all a0) ((wi (v4 - 1)).toNat * eSpan.size)) S22 ht86 ?_
    refine q60 (.ip (eSpan.all a0) ((wi (v4 - 1)).toNat * eSpan.size + 1)) L61_1 ?_
    refine daf (.d (di t86.Hi)) rfl (fun hb => by subst hb; exact m_loadE (en := eSpan) (l := a0) (i := (wi (v4 - 1))) (v := t86) (off := 1) (lq rfl) O3 rfl ht86 rfl) ?_
    refine daf (.d (di (wi (t86.Hi + 1)))) rfl (fun hb => by subst hb; exact m_add (lq rfl) rfl rfl) ?_
    refine daf (.d (db (decide (t80.Lo = (wi (t86.Hi + 1)))))) rfl (fun hb => by subst hb; exact a_eql (lq rfl) rfl rfl) ?_
    obtain ⟨b91, hb91, hsy2⟩ := bE hsy2
    refine daf (.d (db b91)) rfl (fun hb => by subst hb; exact (a_move_d (lq rfl) rfl).bool (Option.some.inj hb91)) ?_
    refine da_g2 (x := .d (dsl eSpan a0)) rfl rfl rfl (lq rfl) (lq rfl) rfl (fun hb => by obtain ⟨hb, hb1⟩ := and_split hb; obtain rfl := gF hb; obtain rfl : b91 = true := hb1; exact a_move_d (lq rfl) rfl) ?_
    refine da_g2 (x := .d (di v4)) rfl rfl rfl (lq rfl) (lq rfl) rfl (fun hb => by obtain ⟨hb, hb1⟩ := and_split hb; obtain rfl := gF hb; obtain rfl : b91 = true := hb1; exact a_move_d (lq rfl) rfl) ?_
    obtain ⟨t94, ht94, hsy2⟩ := bE hsy2
    refine da_g2 (x := .ip (eSpan.all a0) (v4.toNat * eSpan.size)) rfl rfl rfl (lq rfl) (lq rfl) rfl (fun hb => by obtain ⟨hb, hb1⟩ := and_split hb; obtain rfl := gF hb; obtain rfl : b91 = true := hb1; exact m_index (en := eSpan) (lq rfl) S22 rfl rfl ht94) ?_
    refine da_g2 (x := .ip (eSpan.all a0) (v4.toNat * eSpan.size + 2)) rfl rfl rfl (lq rfl) (lq rfl) rfl (fun hb => by obtain ⟨hb, hb1⟩ := and_split hb; obtain rfl := gF hb; obtain rfl : b91 = true := hb1; exact a_fieldAddr_ip (lq rfl) L61_2 rfl) ?_
    refine da_g2 (x := .d (di t94.Value)) rfl rfl rfl (lq rfl) (lq rfl) rfl (fun hb => by obtain ⟨hb, hb1⟩ := and_split hb; obtain rfl := gF hb; obtain rfl : b91 = true := hb1; exact m_loadE (en := eSpan) (l := a0) (i := v4) (v := t94) (off := 2) (lq rfl) O3 rfl ht94 rfl) ?_
    refine da_g2 (x := .d (dsl eSpan a0)) rfl rfl rfl (lq rfl) (lq rfl) rfl (fun hb => by obtain ⟨hb, hb1⟩ := and_split hb; obtain rfl := gF hb; obtain rfl : b91 = true := hb1; exact a_move_d (lq rfl) rfl) ?_
    refine da_g2 (x := .d (di v4)) rfl rfl rfl (lq rfl) (lq rfl) rfl (fun hb => by obtain ⟨hb, hb1⟩ := and_split hb; obtain rfl := gF hb; obtain rfl : b91 = true := hb1; exact a_move_d (lq rfl) rfl) ?_
    refine da_g2 (x := .d (di (wi (v4 - 1)))) rfl rfl rfl (lq rfl) (lq rfl) rfl (fun hb => by obtain ⟨hb, hb1⟩ := and_split hb; obtain rfl := gF hb; obtain rfl : b91 = true := hb1; exact m_sub (lq rfl) rfl rfl) ?_
    obtain ⟨t100, ht100, hsy2⟩ := bE hsy2
    refine da_g2 (x := .ip (eSpan.all a0) ((wi (v4 - 1)).toNat * eSpan.size)) rfl rfl rfl (lq rfl) (lq rfl) rfl (fun hb => by obtain ⟨hb, hb1⟩ := and_split hb; obtain rfl := gF hb; obtain rfl : b91 = true := hb1; exact m_index (en := eSpan) (lq rfl) S22 rfl rfl ht100) ?_
    refine da_g2 (x := .ip (eSpan.all a0) ((wi (v4 - 1)).toNat * eSpan.size + 2)) rfl rfl rfl (lq rfl) (lq rfl) rfl (fun hb => by obtain ⟨hb, hb1⟩ := and_split hb; obtain rfl := gF hb; obtain rfl : b91 = true := hb1; exact a_fieldAddr_ip (lq rfl) L61_2 rfl) ?_
    refine da_g2 (x := .d (di t100.Value)) rfl rfl rfl (lq rfl) (lq rfl) rfl (fun hb => by obtain ⟨hb, hb1⟩ := and_split hb; obtain rfl := gF hb; obtain rfl : b91 = true := hb1; exact m_loadE (en := eSpan) (l := a0) (i := (wi (v4 - 1))) (v := t100) (off := 2) (lq rfl) O3 rfl ht100 rfl) ?_
    refine da_g2 (x := .d (db (decide (t94.Value = t100.Value)))) rfl rfl rfl (lq rfl) (lq rfl) rfl (fun hb => by obtain ⟨hb, hb1⟩ := and_split hb; obtain rfl := gF hb; obtain rfl : b91 = true := hb1; exact a_eql (lq rfl) rfl rfl) ?_
    refine daf (.d (db (b91 && (decide (t94.Value = t100.Value))))) rfl (fun hb => by subst hb; exact a_pick_and (lq rfl) rfl rfl) ?_
    refine q76 ?_
    refine da_nil ?_
    refine ifM rfl hsy2 (fun _ hsy2 => ?_) (fun _ hsy2 => ?_)
    ·
     refine avc_sq2 <| avc_sq <| q1 ?_
     refine sq_nil <| avc_ret ?_
     cases hsy2
     intro q; cases q
     exact ⟨rfl, wc⟩
    ·
     refine avc_skip <| avc_sq <| q0 ?_
     refine q2 ?_
     refine q1 ?_
     refine sq_nil ?_
     cases hsy2
     exact wc
   ·
    refine avc_exit ?_
    cases hsy2
    intro q; cases q
    exact ⟨rfl, wc⟩
  ·
   rintro y2 rfl
   replace h := eL h
   refine avc_sq2 <| avc_sq ?_
   obtain ⟨t106, ht106, h⟩ := bE h
   refine q6 (ref20_hangul_c ht106) ?_
   refine q1 ?_
   refine sq_nil <| avc_sq2 <| avc_sq2 <| avc_sq <| q1 ?_
   refine sq_nil <| avc_block ?_
   obtain ⟨y3, hy3, h⟩ := bE h
   refine avc_tail2 y3 (.exit 4) (fun y3 => ⟨[], []⟩) .ret (fun y3 => ⟨[(2, .d (di y3))], []⟩) ?_ ?_ ?_
   ·
    refine avc_loopM (fun x => ⟨[(0, .d (dsl eSpan a0)), (5, .d (dsl eRange t106)), (6, .d (di x))], []⟩) hy3 (wc) ?_
    rintro v6 sy3 hsy3
    replace hsy3 : ref20_Check_L2 a0 t106 v6 = some sy3 := hsy3
    unfold ref20_Check_L2 at hsy3
    refine avc_sq2 <| avc_sq2 <| avc_sq <| q0 ?_
    refine q0 ?_
    refine q5 S22 ?_
    refine q3 ?_
    refine sq_nil ?_
    refine ifM rfl hsy3 (fun _ hsy3 => ?_) (fun _ hsy3 => ?_)
    ·
     refine avc_skip <| avc_sq2 <| avc_block <| avc_sq2 <| avc_sq <| q1 ?_
     refine sq_nil <| avc_block ?_
     obtain ⟨y4, hy4, hsy3⟩ := bE hsy3
     refine avc_tail2 y4 (.exit 6) (fun y4 => ⟨[(0, .d (dsl eSpan a0)), (5, .d (dsl eRange t106)), (6, .d (di v6))], []⟩) .ret (fun y4 => ⟨[(2, .d (di y4))], []⟩) ?_ ?_ ?_
     ·
      refine avc_loopM (fun x => ⟨[(0, .d (dsl eSpan a0)), (5, .d (dsl eRange t106)), (6, .d (di v6)), (7, .d (di x))], []⟩) hy4 (wc) ?_
      rintro v7 sy4 hsy4
      replace hsy4 : ref20_Check_L3 t106 a0 v6 v7 = some sy4 := hsy4
      unfold ref20_Check_L3 at hsy4
      refine avc_sq2 <| avc_sq2 <| avc_sq <| q0 ?_
      refine q0 ?_
      refine q5 S24 ?_
      refine q3 ?_
      refine sq_nil ?_
      refine ifM rfl hsy4 (fun _ hsy4 => ?_) (fun _ hsy4 => ?_)
      ·
       refine avc_skip <| avc_sq2 <| avc_block <| avc_sq2 ?_
       refine avc_drawA MX rfl ?_
       refine q4 ?_
       refine q4 ?_
       obtain ⟨t121, ht121, hsy4⟩ := bE hsy4
       refine q17 S22 ht121 ?_
       refine q35 L61_0 ?_
       refine daa (m_loadE (en := eSpan) (l := a0) (i := v6) (v := t121) (off := 0) (lq rfl) O3 rfl ht121 rfl) ?_
       refine q4 ?_
       refine q4 ?_
       obtain ⟨t126, ht126, hsy4⟩ := bE hsy4
       refine q17 S24 ht126 ?_
       refine q35 L123_1 ?_
       refine daa (m_loadE (en := eRange) (l := t106) (i := v7) (v := t126) (off := 1) (lq rfl) O3 rfl ht126 rfl) ?_
       refine daa (a_leq (lq rfl) rfl rfl) ?_
       obtain ⟨b130, hb130, hsy4⟩ := bE hsy4
       refine daa ((a_move_d (lq rfl) rfl).bool (Option.some.inj hb130)) ?_
       refine q38 (.d (dsl eRange t106)) ?_
       refine q38 (.d (di v7)) ?_
       obtain ⟨t133, ht133, hsy4⟩ := bE hsy4
       refine q71 (.ip (eRange.all t106) (v7.toNat * eRange.size)) S24 ht133 ?_
       refine q72 (.ip (eRange.all t106) (v7.toNat * eRange.size + 0)) L123_0 ?_
       refine dat (.d (di t133.Lo)) rfl (fun hb => by subst hb; exact m_loadE (en := eRange) (l := t106) (i := v7) (v := t133) (off := 0) (lq rfl) O3 rfl ht133 rfl) ?_
       refine q38 (.d (dsl eSpan a0)) ?_
       refine q38 (.d (di v6)) ?_
       obtain ⟨t138, ht138, hsy4⟩ := bE hsy4
       refine q71 (.ip (eSpan.all a0) (v6.toNat * eSpan.size)) S22 ht138 ?_
       refine q72 (.ip (eSpan.all a0) (v6.toNat * eSpan.size + 1)) L61_1 ?_
       refine dat (.d (di t138.Hi)) rfl (fun hb => by subst hb; exact m_loadE (en := eSpan) (l := a0) (i := v6) (v := t138) (off := 1) (lq rfl) O3 rfl ht138 rfl) ?_
       refine dat (.d (db (decide (t133.Lo ≤ t138.Hi)))) rfl (fun hb => by subst hb; exact a_leq (lq rfl) rfl rfl) ?_
       refine q50 ?_
       refine da_nil ?_
       refine ifM rfl hsy4 (fun _ hsy4 => ?_) (fun _ hsy4 => ?_)
       ·
        refine avc_sq2 <| avc_sq <| q1 ?_
        refine sq_nil <| avc_ret ?_
        cases hsy4
        intro q; cases q
        exact ⟨rfl, wc⟩
       ·
        refine avc_skip <| avc_sq <| q0 ?_
        refine q2 ?_
        refine q1 ?_
        refine sq_nil ?_
        cases hsy4
        exact wc
      ·
       refine avc_exit ?_
       cases hsy4
       intro q; cases q
       exact ⟨rfl, wc⟩
     ·
      rintro y4 rfl
      replace hsy3 := eL hsy3
      refine avc_sq <| q0 ?_
      refine q2 ?_
      refine q1 ?_
      refine sq_nil ?_
      cases hsy3
      exact wc
     ·
      rintro y4 rfl
      replace hsy3 := eR hsy3
      cases hsy3
      intro q; cases q
      exact ⟨rfl, wc⟩
    ·
     refine avc_exit ?_
     cases hsy3
     intro q; cases q
     exact ⟨rfl, wc⟩
   ·
    rintro y3 rfl
    replace h := eL h
    refine avc_sq2 <| avc_sq <| q1 ?_
    refine sq_nil ?_
    cases h
    refine avc_ret ?_
    exact ret_1 rfl
   ·
    rintro y3 rfl
    replace h := eR h
    cases h
    exact ret_1 rfl
  ·
   rintro y2 rfl
   replace h := eR h
   cases h
   exact ret_1 rfl
 ·
  rintro y1 rfl
  replace h := eR h
  cases h
  exact ret_1 rfl
theorem ref11_codes_c  {a0}  {r} (h : ref11_codes a0 = some r) : Contract Tryz.prog 109 [(eMapping.dv a0)] [(db r)] := by
 refine contract_of Tryz.func109 (by kernel_rfl) rfl (lq rfl) (lq rfl) fun w0 I0 hI0 hG0 => ?_
 unfold ref11_codes at h
 refine avc_sq2 <| avc_sq <| q28 ?_
 refine q1 ?_
 refine sq_nil <| avc_sq2 <| avc_sq2 <| avc_sq <| q1 ?_
 refine sq_nil <| avc_block ?_
 obtain ⟨y1, hy1, h⟩ := bE h
 refine avc_tail2 y1 (.exit 0) (fun y1 => ⟨[(1, .d (.pt (eMapping.cells a0)))], []⟩) .ret (fun y1 => ⟨[(2, .d (db y1))], []⟩) ?_ ?_ ?_
 ·
  refine avc_loopM (fun x => ⟨[(1, .d (.pt (eMapping.cells a0))), (3, .d (di x))], []⟩) hy1 (wc) ?_
  rintro v3 sy1 hsy1
  replace hsy1 : ref11_codes_L0 a0 v3 = some sy1 := hsy1
  unfold ref11_codes_L0 at hsy1
  refine avc_sq2 <| avc_sq2 <| avc_sq <| q0 ?_
  refine q7 L103_1 ?_
  refine q8 O33 ?_
  refine q5 S33 ?_
  refine q3 ?_
  refine sq_nil ?_
  refine ifM rfl hsy1 (fun _ hsy1 => ?_) (fun _ hsy1 => ?_)
  ·
   refine avc_skip <| avc_sq2 <| avc_block <| avc_sq2 <| avc_sq <| q7 L103_1 ?_
   refine q8 O33 ?_
   refine q0 ?_
   obtain ⟨t14, ht14, hsy1⟩ := bE hsy1
   refine q11 S33 ht14 ?_
   refine q29 O3 ht14 ?_
   obtain ⟨t16, ht16, hsy1⟩ := bE hsy1
   refine q6 (ref01_Valid_c ht16) ?_
   refine q22 ?_
   refine sq_nil ?_
   refine ifM rfl hsy1 (fun _ hsy1 => ?_) (fun _ hsy1 => ?_)
   ·
    refine avc_sq2 <| avc_sq <| q1 ?_
    refine sq_nil <| avc_ret ?_
    cases hsy1
    intro q; cases q
    exact ⟨rfl, wc⟩
   ·
    refine avc_skip <| avc_sq <| q0 ?_
    refine q2 ?_
    refine q1 ?_
    refine sq_nil ?_
    cases hsy1
    exact wc
  ·
   refine avc_exit ?_
   cases hsy1
   intro q; cases q
   exact ⟨rfl, wc⟩
 ·
  rintro y1 rfl
  replace h := eL h
  refine avc_sq2 <| avc_sq <| q7 L103_0 ?_
  refine q8 O3 ?_
  obtain ⟨t20, ht20, h⟩ := bE h
  refine q6 (ref01_Valid_c ht20) ?_
  refine q1 ?_
  refine sq_nil ?_
  cases h
  refine avc_ret ?_
  exact ret_1 rfl
 ·
  rintro y1 rfl
  replace h := eR h
  cases h
  exact ret_1 rfl
theorem ref11_twice_c  {a0}  {r} (h : ref11_twice a0 = some r) : Contract Tryz.prog 110 [(dsl eMapping a0)] [(db r)] := by
 refine contract_of Tryz.func110 (by kernel_rfl) rfl (lq rfl) (lq rfl) fun w0 I0 hI0 hG0 => ?_
 unfold ref11_twice at h
 refine avc_sq2 <| avc_sq <| q1 ?_
 refine sq_nil <| avc_sq2 <| avc_sq2 <| avc_sq <| q1 ?_
 refine sq_nil <| avc_block ?_
 obtain ⟨y1, hy1, h⟩ := bE h
 refine avc_tail2 y1 (.exit 0) (fun y1 => ⟨[], []⟩) .ret (fun y1 => ⟨[(2, .d (db y1))], []⟩) ?_ ?_ ?_
 ·
  refine avc_loopM (fun x => ⟨[(0, .d (dsl eMapping a0)), (3, .d (di x))], []⟩) hy1 (wc) ?_
  rintro v3 sy1 hsy1
  replace hsy1 : ref11_twice_L0 a0 v3 = some sy1 := hsy1
  unfold ref11_twice_L0 at hsy1
  refine avc_sq2 <| avc_sq2 <| avc_sq <| q0 ?_
  refine q0 ?_
  refine q5 S23 ?_
  refine q3 ?_
  refine sq_nil ?_
  refine ifM rfl hsy1 (fun _ hsy1 => ?_) (fun _ hsy1 => ?_)
  ·
   refine avc_skip <| avc_sq2 <| avc_block <| avc_sq2 <| avc_sq <| q1 ?_
   refine sq_nil <| avc_block ?_
   obtain ⟨y2, hy2, hsy1⟩ := bE hsy1
   refine avc_tail2 y2 (.exit 2) (fun y2 => ⟨[(0, .d (dsl eMapping a0)), (3, .d (di v3))], []⟩) .ret (fun y2 => ⟨[(2, .d (db y2))], []⟩) ?_ ?_ ?_
   ·
    refine avc_loopM (fun x => ⟨[(0, .d (dsl eMapping a0)), (3, .d (di v3)), (4, .d (di x))], []⟩) hy2 (wc) ?_
    rintro v4 sy2 hsy2
    replace hsy2 : ref11_twice_L1 v3 a0 v4 = some sy2 := hsy2
    unfold ref11_twice_L1 at hsy2
    refine avc_sq2 <| avc_sq2 <| avc_sq <| q0 ?_
    refine q0 ?_
    refine q3 ?_
    refine sq_nil ?_
    refine ifM rfl hsy2 (fun _ hsy2 => ?_) (fun _ hsy2 => ?_)
    ·
     refine avc_skip <| avc_sq2 <| avc_block <| avc_sq2 ?_
     refine avc_drawA MX rfl ?_
     refine q4 ?_
     refine q4 ?_
     obtain ⟨t18, ht18, hsy2⟩ := bE hsy2
     refine q17 S23 ht18 ?_
     refine q35 L103_0 ?_
     refine q110 O3 ht18 ?_
     refine q4 ?_
     refine q4 ?_
     obtain ⟨t23, ht23, hsy2⟩ := bE hsy2
     refine q17 S23 ht23 ?_
     refine q35 L103_0 ?_
     refine q110 O3 ht23 ?_
     refine daa (a_eql (lq rfl) rfl rfl) ?_
     obtain ⟨b27, hb27, hsy2⟩ := bE hsy2
     refine daa ((a_move_d (lq rfl) rfl).bool (Option.some.inj hb27)) ?_
     refine q38 (.d (dsl eMapping a0)) ?_
     refine q38 (.d (di v3)) ?_
     obtain ⟨t30, ht30, hsy2⟩ := bE hsy2
     refine q71 (.ip (eMapping.all a0) (v3.toNat * eMapping.size)) S23 ht30 ?_
     refine q72 (.ip (eMapping.all a0) (v3.toNat * eMapping.size + 2)) L103_2 ?_
     refine dat (.d (ds t30.Tag)) rfl (fun hb => by subst hb; exact m_loadE (en := eMapping) (l := a0) (i := v3) (v := t30) (off := 2) (lq rfl) O9 rfl ht30 rfl) ?_
     refine q38 (.d (dsl eMapping a0)) ?_
     refine q38 (.d (di v4)) ?_
     obtain ⟨t35, ht35, hsy2⟩ := bE hsy2
     refine q71 (.ip (eMapping.all a0) (v4.toNat * eMapping.size)) S23 ht35 ?_
     refine q72 (.ip (eMapping.all a0) (v4.toNat * eMapping.size + 2)) L103_2 ?_
     refine dat (.d (ds t35.Tag)) rfl (fun hb => by subst hb; exact m_loadE (en := eMapping) (l := a0) (i := v4) (v := t35) (off := 2) (lq rfl) O9 rfl ht35 rfl) ?_
     refine dat (.d (db (t30.Tag == t35.Tag))) rfl (fun hb => by subst hb; exact m_seql (a := t30.Tag) (b := t35.Tag) (lq rfl) rfl rfl) ?_
     refine q50 ?_
     refine da_nil ?_
     refine ifM rfl hsy2 (fun _ hsy2 => ?_) (fun _ hsy2 => ?_)
     ·
      refine avc_sq2 <| avc_sq <| q1 ?_
      refine sq_nil <| avc_ret ?_
      cases hsy2
      intro q; cases q
      exact ⟨rfl, wc⟩
     ·
      refine avc_skip <| avc_sq <| q0 ?_
      refine q2 ?_
      refine q1 ?_
      refine sq_nil ?_
      cases hsy2
      exact wc
    ·
     refine avc_exit ?_
     cases hsy2
     intro q; cases q
     exact ⟨rfl, wc⟩
   ·
    rintro y2 rfl
    replace hsy1 := eL hsy1
    refine avc_sq <| q0 ?_
    refine q2 ?_
    refine q1 ?_
    refine sq_nil ?_
    cases hsy1
    exact wc
   ·
    rintro y2 rfl
    replace hsy1 := eR hsy1
    cases hsy1
    intro q; cases q
    exact ⟨rfl, wc⟩
  ·
   refine avc_exit ?_
   cases hsy1
   intro q; cases q
   exact ⟨rfl, wc⟩
 ·
  rintro y1 rfl
  replace h := eL h
  refine avc_sq2 <| avc_sq <| q1 ?_
  refine sq_nil ?_
  cases h
  refine avc_ret ?_
  exact ret_1 rfl
 ·
  rintro y1 rfl
  replace h := eR h
  cases h
  exact ret_1 rfl
theorem ref11_unsorted_c  {a0}  {r} (h : ref11_unsorted a0 = some r) : Contract Tryz.prog 88 [(dsl eMapping a0)] [(di r)] := by
 refine contract_of Tryz.func88 (by kernel_rfl) rfl (lq rfl) (lq rfl) fun w0 I0 hI0 hG0 => ?_
 unfold ref11_unsorted at h
 refine avc_sq2 <| avc_sq <| q1 ?_
 refine sq_nil <| avc_sq2 <| avc_sq2 <| avc_sq <| q1 ?_
 refine sq_nil <| avc_block ?_
 obtain ⟨y1, hy1, h⟩ := bE h
 refine avc_tail2 y1 (.exit 0) (fun y1 => ⟨[(0, .d (dsl eMapping a0))], []⟩) .ret (fun y1 => ⟨[(2, .d (di y1))], []⟩) ?_ ?_ ?_
 ·
  refine avc_loopM (fun x => ⟨[(0, .d (dsl eMapping a0)), (3, .d (di x))], []⟩) hy1 (wc) ?_
  rintro v3 sy1 hsy1
  replace hsy1 : ref11_unsorted_L0 a0 v3 = some sy1 := hsy1
  unfold ref11_unsorted_L0 at hsy1
  refine avc_sq2 <| avc_sq2 <| avc_sq <| q0 ?_
  refine q0 ?_
  refine q5 S23 ?_
  refine q3 ?_
  refine sq_nil ?_
  refine ifM rfl hsy1 (fun _ hsy1 => ?_) (fun _ hsy1 => ?_)
  ·
   refine avc_skip <| avc_sq2 <| avc_block <| avc_sq2 <| avc_sq <| q0 ?_
   refine q0 ?_
   obtain ⟨t14, ht14, hsy1⟩ := bE hsy1
   refine q11 S23 ht14 ?_
   refine q66 G103 ht14 ?_
   obtain ⟨t16, ht16, hsy1⟩ := bE hsy1
   refine q6 (ref11_codes_c ht16) ?_
   refine q22 ?_
   refine sq_nil ?_
   refine ifM rfl hsy1 (fun _ hsy1 => ?_) (fun _ hsy1 => ?_)
   ·
    refine avc_sq2 <| avc_sq <| q1 ?_
    refine sq_nil <| avc_ret ?_
    cases hsy1
    intro q; cases q
    exact ⟨rfl, wc⟩
   ·
    refine avc_skip <| avc_sq <| q0 ?_
    refine q2 ?_
    refine q1 ?_
    refine sq_nil ?_
    cases hsy1
    exact wc
  ·
   refine avc_exit ?_
   cases hsy1
   intro q; cases q
   exact ⟨rfl, wc⟩
 ·
  rintro y1 rfl
  replace h := eL h
  refine avc_sq2 <| avc_sq2 <| avc_sq <| q1 ?_
  refine sq_nil <| avc_block ?_
  obtain ⟨y2, hy2, h⟩ := bE h
  refine avc_tail2 y2 (.exit 2) (fun y2 => ⟨[(0, .d (dsl eMapping a0))], []⟩) .ret (fun y2 => ⟨[(2, .d (di y2))], []⟩) ?_ ?_ ?_
  ·
   refine avc_loopM (fun x => ⟨[(0, .d (dsl eMapping a0)), (4, .d (di x))], []⟩) hy2 (wc) ?_
   rintro v4 sy2 hsy2
   replace hsy2 : ref11_unsorted_L1 a0 v4 = some sy2 := hsy2
   unfold ref11_unsorted_L1 at hsy2
   refine avc_sq2 <| avc_sq2 <| avc_sq <| q0 ?_
   refine q0 ?_
   refine q5 S23 ?_
   refine q3 ?_
   refine sq_nil ?_
   refine ifM rfl hsy2 (fun _ hsy2 => ?_) (fun _ hsy2 => ?_)
   ·
    refine avc_skip <| avc_sq2 <| avc_block <| avc_sq2 <| avc_sq <| q0 ?_
    refine q0 ?_
    obtain ⟨t26, ht26, hsy2⟩ := bE hsy2
    refine q11 S23 ht26 ?_
    refine q34 L103_1 ?_
    refine q65 O33 ht26 ?_
    refine q5 S33 ?_
    refine q37 ?_
    refine sq_nil ?_
    refine ifM rfl hsy2 (fun _ hsy2 => ?_) (fun _ hsy2 => ?_)
    ·
     refine avc_sq2 <| avc_sq <| q1 ?_
     refine sq_nil <| avc_ret ?_
     cases hsy2
     intro q; cases q
     exact ⟨rfl, wc⟩
    ·
     refine avc_skip <| avc_sq <| q0 ?_
     refine q2 ?_
     refine q1 ?_
     refine sq_nil ?_
     cases hsy2
     exact wc
   ·
    refine avc_exit ?_
    cases hsy2
    intro q; cases q
    exact ⟨rfl, wc⟩
  ·
   rintro y2 rfl
   replace h := eL h
   refine avc_sq2 <| avc_sq2 <| avc_sq <| q1 ?_
   refine sq_nil <| avc_block ?_
   obtain ⟨y3, hy3, h⟩ := bE h
   refine avc_tail2 y3 (.exit 4) (fun y3 => ⟨[(0, .d (dsl eMapping a0))], []⟩) .ret (fun y3 => ⟨[(2, .d (di y3))], []⟩) ?_ ?_ ?_
   ·
    refine avc_loopM (fun x => ⟨[(0, .d (dsl eMapping a0)), (5, .d (di x))], []⟩) hy3 (wc) ?_
    rintro v5 sy3 hsy3
    replace hsy3 : ref11_unsorted_L2 a0 v5 = some sy3 := hsy3
    unfold ref11_unsorted_L2 at hsy3
    refine avc_sq2 <| avc_sq2 <| avc_sq <| q0 ?_
    refine q0 ?_
    refine q5 S23 ?_
    refine q3 ?_
    refine sq_nil ?_
    refine ifM rfl hsy3 (fun _ hsy3 => ?_) (fun _ hsy3 => ?_)
    ·
     refine avc_skip <| avc_sq2 <| avc_block <| avc_sq2 <| avc_sq <| q0 ?_
     refine q0 ?_
     obtain ⟨t39, ht39, hsy3⟩ := bE hsy3
     refine q11 S23 ht39 ?_
     refine q34 L103_2 ?_
     refine sqa (m_loadE (en := eMapping) (l := a0) (i := v5) (v := t39) (off := 2) (lq rfl) O9 rfl ht39 rfl) ?_
     refine q89 ?_
     obtain ⟨b43, hb43, hsy3⟩ := bE hsy3
     refine sqa ((a_move_d (lq rfl) rfl).bool (Option.some.inj hb43)) ?_
     refine q10 (.d (dsl eMapping a0)) ?_
     refine q10 (.d (di v5)) ?_
     obtain ⟨t46, ht46, hsy3⟩ := bE hsy3
     refine q64 (.ip (eMapping.all a0) (v5.toNat * eMapping.size)) S23 ht46 ?_
     refine q97 (.ip (eMapping.all a0) (v5.toNat * eMapping.size + 2)) L103_2 ?_
     refine sqt (.d (ds t46.Tag)) rfl (fun hb => by subst hb; exact m_loadE (en := eMapping) (l := a0) (i := v5) (v := t46) (off := 2) (lq rfl) O9 rfl ht46 rfl) ?_
     obtain ⟨t49, ht49, hsy3⟩ := bE hsy3
     refine sqt (.d (db t49)) rfl (fun hb => by subst hb; exact a_call (lq rfl) rfl (ref11_Name_c ht49)) ?_
     refine q84 (.d (db (!t49))) ?_
     refine q12 ?_
     refine sq_nil ?_
     refine ifM rfl hsy3 (fun _ hsy3 => ?_) (fun _ hsy3 => ?_)
     ·
      refine avc_sq2 <| avc_sq <| q1 ?_
      refine sq_nil <| avc_ret ?_
      cases hsy3
      intro q; cases q
      exact ⟨rfl, wc⟩
     ·
      refine avc_skip <| avc_sq <| q0 ?_
      refine q2 ?_
      refine q1 ?_
      refine sq_nil ?_
      cases hsy3
      exact wc
    ·
     refine avc_exit ?_
     cases hsy3
     intro q; cases q
     exact ⟨rfl, wc⟩
   ·
    rintro y3 rfl
    replace h := eL h
    refine avc_sq2 <| avc_sq2 <| avc_sq <| q0 ?_
    obtain ⟨t53, ht53, h⟩ := bE h
    refine q6 (ref11_twice_c ht53) ?_
    refine sq_nil ?_
    refine ifM rfl h (fun _ h => ?_) (fun _ h => ?_)
    ·
     refine avc_sq2 <| avc_sq <| q1 ?_
     refine sq_nil ?_
     cases h
     refine avc_ret ?_
     exact ret_1 rfl
    ·
     refine avc_skip <| avc_sq2 <| avc_sq <| q1 ?_
     refine sq_nil ?_
     cases h
     refine avc_ret ?_
     exact ret_1 rfl
   ·
    rintro y3 rfl
    replace h := eR h
    cases h
    exact ret_1 rfl
  ·
   rintro y2 rfl
   replace h := eR h
   cases h
   exact ret_1 rfl
 ·
  rintro y1 rfl
  replace h := eR h
  cases h
  exact ret_1 rfl
theorem ref11_before_c  {a0} {a1}  {r} (h : ref11_before a0 a1 = some r) : Contract Tryz.prog 89 [(eMapping.dv a0), (eMapping.dv a1)] [(db r)] := by
 refine contract_of Tryz.func89 (by kernel_rfl) rfl (lq rfl) (lq rfl) fun w0 I0 hI0 hG0 => ?_
 unfold ref11_before at h
 refine avc_sq2 <| avc_sq <| q28 ?_
 refine q28 ?_
 refine q1 ?_
 refine sq_nil <| avc_sq2 <| avc_sq <| q7 L103_0 ?_
 refine q8 O3 ?_
 refine q7 L103_0 ?_
 refine q8 O3 ?_
 refine q3 ?_
 obtain ⟨b10, hb10, h⟩ := bE h
 refine sqa ((a_move_d (lq rfl) rfl).bool (Option.some.inj hb10)) ?_
 refine q23 (.ip (eMapping.cells a0) (0 + 0)) L103_0 ?_
 refine q24 (.d (di a0.From)) O3 ?_
 refine q23 (.ip (eMapping.cells a1) (0 + 0)) L103_0 ?_
 refine q24 (.d (di a1.From)) O3 ?_
 refine q79 (.d (db (decide (a0.From = a1.From)))) ?_
 obtain ⟨b16, hb16, h⟩ := bE h
 refine sqf (.d (db b16)) rfl (fun hb => by subst hb; exact (a_move_d (lq rfl) rfl).bool (Option.some.inj hb16)) ?_
 refine sq_g2 (x := .ip (eMapping.cells a0) (0 + 2)) rfl rfl rfl (lq rfl) (lq rfl) rfl (fun hb => by obtain ⟨hb, hb1⟩ := and_split hb; obtain rfl := gF hb; obtain rfl : b16 = true := hb1; exact m_fieldPt (lq rfl) L103_2 rfl) ?_
 refine sq_g2 (x := .d (ds a0.Tag)) rfl rfl rfl (lq rfl) (lq rfl) rfl (fun hb => by obtain ⟨hb, hb1⟩ := and_split hb; obtain rfl := gF hb; obtain rfl : b16 = true := hb1; exact a_load_ip (lq rfl) O9 rfl rfl) ?_
 refine sq_g2 (x := .ip (eMapping.cells a1) (0 + 2)) rfl rfl rfl (lq rfl) (lq rfl) rfl (fun hb => by obtain ⟨hb, hb1⟩ := and_split hb; obtain rfl := gF hb; obtain rfl : b16 = true := hb1; exact m_fieldPt (lq rfl) L103_2 rfl) ?_
 refine sq_g2 (x := .d (ds a1.Tag)) rfl rfl rfl (lq rfl) (lq rfl) rfl (fun hb => by obtain ⟨hb, hb1⟩ := and_split hb; obtain rfl := gF hb; obtain rfl : b16 = true := hb1; exact a_load_ip (lq rfl) O9 rfl rfl) ?_
 refine sq_g2 (x := .d (db (Op.bytesLess a0.Tag a1.Tag))) rfl rfl rfl (lq rfl) (lq rfl) rfl (fun hb => by obtain ⟨hb, hb1⟩ := and_split hb; obtain rfl := gF hb; obtain rfl : b16 = true := hb1; exact m_slss (a := a0.Tag) (b := a1.Tag) (lq rfl) rfl rfl) ?_
 refine q62 (.d (db (b16 && (Op.bytesLess a0.Tag a1.Tag)))) ?_
 refine q15 ?_
 refine q1 ?_
 refine sq_nil ?_
 cases h
 refine avc_ret ?_
 exact ret_1 rfl
theorem ref11_Check_c  {a0}  {r} (h : ref11_Check a0 = some r) : Contract Tryz.prog 62 [(dsl eMapping a0)] [(di r)] := by
 refine contract_of Tryz.func62 (by kernel_rfl) rfl (lq rfl) (lq rfl) fun w0 I0 hI0 hG0 => ?_
 unfold ref11_Check at h
 refine avc_sq2 <| avc_sq <| q1 ?_
 refine sq_nil <| avc_sq2 <| avc_sq2 <| avc_sq <| q0 ?_
 obtain ⟨t6, ht6, h⟩ := bE h
 refine q6 (ref11_unsorted_c ht6) ?_
 refine q1 ?_
 refine sq_nil <| avc_sq2 <| avc_sq <| q0 ?_
 refine q27 ?_
 refine sq_nil ?_
 refine ifM rfl h (fun _ h => ?_) (fun _ h => ?_)
 ·
  refine avc_sq2 <| avc_sq <| q0 ?_
  refine q1 ?_
  refine sq_nil ?_
  cases h
  refine avc_ret ?_
  exact ret_1 rfl
 ·
  refine avc_skip <| avc_sq2 <| avc_sq2 <| avc_sq <| q1 ?_
  refine sq_nil <| avc_block ?_
  obtain ⟨y1, hy1, h⟩ := bE h
  refine avc_tail2 y1 (.exit 0) (fun y1 => ⟨[], []⟩) .ret (fun y1 => ⟨[(2, .d (di y1))], []⟩) ?_ ?_ ?_
  ·
   refine avc_loopM (fun x => ⟨[(0, .d (dsl eMapping a0)), (4, .d (di x))], []⟩) hy1 (wc) ?_
   rintro v4 sy1 hsy1
   replace hsy1 : ref11_Check_L0 a0 v4 = some sy1 := hsy1
   unfold ref11_Check_L0 at hsy1
   refine avc_sq2 <| avc_sq2 <| avc_sq <| q0 ?_
   refine q0 ?_
   refine q5 S23 ?_
   refine q3 ?_
   refine sq_nil ?_
   refine ifM rfl hsy1 (fun _ hsy1 => ?_) (fun _ hsy1 => ?_)
   ·
    refine avc_skip <| avc_sq2 <| avc_block <| avc_sq2 ?_
    refine avc_drawA MX rfl ?_
    refine q4 ?_
    refine q4 ?_
    refine q74 ?_
    obtain ⟨t19, ht19, hsy1⟩ := bE hsy1
    refine q17 S23 ht19 ?_
    refine q128 G103 ht19 ?_
    refine q4 ?_
    refine q4 ?_
    obtain ⟨t23, ht23, hsy1⟩ := bE hsy1
    refine q17 S23 ht23 ?_
    refine q128 G103 ht23 ?_
    obtain ⟨t25, ht25, hsy1⟩ := bE hsy1
    refine q20 (ref11_before_c ht25) ?_
    refine q115 ?_
    refine da_nil ?_
    refine ifM rfl hsy1 (fun _ hsy1 => ?_) (fun _ hsy1 => ?_)
    ·
     refine avc_sq2 <| avc_sq <| q1 ?_
     refine sq_nil <| avc_ret ?_
     cases hsy1
     intro q; cases q
     exact ⟨rfl, wc⟩
    ·
     refine avc_skip <| avc_sq <| q0 ?_
     refine q2 ?_
     refine q1 ?_
     refine sq_nil ?_
     cases hsy1
     exact wc
   ·
    refine avc_exit ?_
    cases hsy1
    intro q; cases q
    exact ⟨rfl, wc⟩
  ·
   rintro y1 rfl
   replace h := eL h
   refine avc_sq2 <| avc_sq <| q1 ?_
   refine sq_nil ?_
   cases h
   refine avc_ret ?_
   exact ret_1 rfl
  ·
   rintro y1 rfl
   replace h := eR h
   cases h
   exact ret_1 rfl
theorem ref02_place_c  {a0} {a1}  {r} (h : ref02_place a0 a1 = some r) : Contract Tryz.prog 132 [(dsl eI a0), (di a1)] [(dsl eI r)] := by
 refine contract_of Tryz.func132 (by kernel_rfl) rfl (lq rfl) (lq rfl) fun w0 I0 hI0 hG0 => ?_
 unfold ref02_place at h
 refine avc_sq2 <| avc_sq <| q1 ?_
 refine sq_nil <| avc_sq2 <| avc_sq <| q1 ?_
 refine sq_nil ?_
 refine avc_weak (weak_nil (t := 5) 1005 3 eI.size (lq rfl) (lq rfl) rfl rfl) ?_
 refine avc_sq2 <| avc_sq <| q1 ?_
 refine sq_nil <| avc_sq2 <| avc_sq2 <| avc_sq <| q1 ?_
 refine sq_nil <| avc_block ?_
 obtain ⟨y1, hy1, h⟩ := bE h
 refine avc_tail (e := (.exit 0)) (S2 := ⟨[(1, .d (di a1)), (5, .row 1005), (6, .d (db y1.1))], [(1005, .row 3 eI.size false (eI.all y1.2))]⟩) ?_ ?_
 ·
  refine avc_loopM (fun x => ⟨[(0, .d (dsl eI a0)), (1, .d (di a1)), (5, .row 1005), (6, .d (db x.1)), (7, .d (di x.2.1))], [(1005, .row 3 eI.size false (eI.all x.2.2))]⟩) hy1 (wc) ?_
  rintro ⟨v6, v7, r1005⟩ sy1 hsy1
  replace hsy1 : ref02_place_L0 a0 a1 v6 v7 r1005 = some sy1 := hsy1
  unfold ref02_place_L0 at hsy1
  refine avc_sq2 <| avc_sq2 <| avc_sq <| q0 ?_
  refine q0 ?_
  refine q5 S33 ?_
  refine q3 ?_
  refine sq_nil ?_
  refine ifM rfl hsy1 (fun _ hsy1 => ?_) (fun _ hsy1 => ?_)
  ·
   refine avc_skip <| avc_sq2 <| avc_block <| avc_sq2 <| avc_sq2 <| avc_sq <| q0 ?_
   refine q22 ?_
   obtain ⟨b16, hb16, hsy1⟩ := bE hsy1
   refine sqa ((a_move_d (lq rfl) rfl).bool (Option.some.inj hb16)) ?_
   refine q10 (.d (dsl eI a0)) ?_
   refine q10 (.d (di v7)) ?_
   obtain ⟨t19, ht19, hsy1⟩ := bE hsy1
   refine q64 (.ip (eI.all a0) (v7.toNat * eI.size)) S33 ht19 ?_
   refine sqt (.d (di t19)) rfl (fun hb => by subst hb; exact m_loadE (en := eI) (l := a0) (i := v7) (v := t19) (off := 0) (lq rfl) O3 rfl ht19 rfl) ?_
   refine q10 (.d (di a1)) ?_
   refine sqt (.d (db (decide (a1 ≤ t19)))) rfl (fun hb => by subst hb; exact a_geq (lq rfl) rfl rfl) ?_
   refine q12 ?_
   refine sq_nil ?_
   obtain ⟨y2, hy2, hsy1⟩ := bE hsy1
   refine avc_tail (e := .normal) (S2 := ⟨[(0, .d (dsl eI a0)), (1, .d (di a1)), (5, .row 1005), (6, .d (db y2.1)), (7, .d (di v7))], [(1005, .row 3 eI.size false (eI.all y2.2))]⟩) ?_ ?_
   ·
    refine ifM rfl hy2 (fun _ hy2 => ?_) (fun _ hy2 => ?_)
    ·
     refine avc_sq2 <| avc_sq <| q1 ?_
     refine sq_nil <| avc_sq2 <| avc_sq <| q0 ?_
     refine q0 ?_
     obtain ⟨t26, ht26, hy2⟩ := bE hy2
     refine q11 S33 ht26 ?_
     refine q29 O3 ht26 ?_
     refine q0 ?_
     refine q37 ?_
     refine sq_nil ?_
     refine ifM rfl hy2 (fun _ hy2 => ?_) (fun _ hy2 => ?_)
     ·
      refine avc_sq <| q9 ?_
      refine q0 ?_
      refine q31 S33 ?_
      obtain ⟨r1005_3, hr1005_3, hy2⟩ := bE hy2
      refine sq_b rfl (m_append (en := eI) (l := r1005) (m := [a1]) (lq rfl) S33 rfl rfl rfl hr1005_3 (by decide) (by decide) rfl rfl) ?_
      refine q13 ?_
      refine sq_nil ?_
      cases hy2
      exact out_mk (wc)
     ·
      refine avc_skip ?_
      cases hy2
      exact out_mk (wc)
    ·
     refine avc_skip ?_
     cases hy2
     exact out_mk (wc)
   ·
    refine avc_sq <| q9 ?_
    refine q0 ?_
    refine q0 ?_
    obtain ⟨t37, ht37, hsy1⟩ := bE hsy1
    refine q11 S33 ht37 ?_
    refine q29 O3 ht37 ?_
    refine q31 S33 ?_
    obtain ⟨r1005_4, hr1005_4, hsy1⟩ := bE hsy1
    refine sq_b rfl (m_append (en := eI) (l := y2.2) (m := [t37]) (lq rfl) S33 rfl rfl rfl hr1005_4 (by decide) (by decide) rfl rfl) ?_
    refine q13 ?_
    refine sq_nil <| avc_sq <| q0 ?_
    refine q2 ?_
    refine q1 ?_
    refine sq_nil ?_
    cases hsy1
    exact wc
  ·
   refine avc_exit ?_
   cases hsy1
   intro q; cases q
   exact out_mk (wc)
 ·
  refine avc_sq2 <| avc_sq2 <| avc_sq <| q0 ?_
  refine q22 ?_
  refine sq_nil ?_
  obtain ⟨y5, hy5, h⟩ := bE h
  refine avc_tail (e := .normal) (S2 := ⟨[(5, .row 1005)], [(1005, .row 3 eI.size false (eI.all y5))]⟩) ?_ ?_
  ·
   refine ifM rfl hy5 (fun _ hy5 => ?_) (fun _ hy5 => ?_)
   ·
    refine avc_sq <| q9 ?_
    refine q0 ?_
    refine q31 S33 ?_
    obtain ⟨r1005_6, hr1005_6, hy5⟩ := bE hy5
    refine sq_b rfl (m_append (en := eI) (l := y1.2) (m := [a1]) (lq rfl) S33 rfl rfl rfl hr1005_6 (by decide) (by decide) rfl rfl) ?_
    refine q13 ?_
    refine sq_nil ?_
    cases hy5
    exact out_mk (wc)
   ·
    refine avc_skip ?_
    cases hy5
    exact out_mk (wc)
  ·
   refine avc_sq2 <| avc_sq <| q9 ?_
   refine q13 ?_
   refine sq_nil ?_
   cases h
   refine avc_ret ?_
   exact ret_1 rfl
theorem ref02_Cuts_c  {a0} {a1}  {r} (h : ref02_Cuts a0 a1 = some r) : Contract Tryz.prog 124 [(dsl eI a0), (eSet.dv a1)] [(dsl eI r)] := by
 refine contract_of Tryz.func124 (by kernel_rfl) rfl (lq rfl) (lq rfl) fun w0 I0 hI0 hG0 => ?_
 unfold ref02_Cuts at h
 refine avc_sq2 <| avc_sq <| q48 ?_
 refine q1 ?_
 refine sq_nil <| avc_sq2 <| avc_sq2 <| avc_sq <| q1 ?_
 refine sq_nil <| avc_block ?_
 obtain ⟨y1, hy1, h⟩ := bE h
 refine avc_tail (e := (.exit 0)) (S2 := ⟨[(0, .d (dsl eI y1))], []⟩) ?_ ?_
 ·
  refine avc_loopM (fun x => ⟨[(0, .d (dsl eI x.1)), (3, .d (.pt (eSet.cells a1))), (5, .d (di x.2))], []⟩) hy1 (wc) ?_
  rintro ⟨v0, v5⟩ sy1 hsy1
  replace hsy1 : ref02_Cuts_L0 a1 v0 v5 = some sy1 := hsy1
  unfold ref02_Cuts_L0 at hsy1
  refine avc_sq2 <| avc_sq2 <| avc_sq <| q0 ?_
  refine q7 L26_0 ?_
  refine q8 O24 ?_
  refine q5 S24 ?_
  refine q3 ?_
  refine sq_nil ?_
  refine ifM rfl hsy1 (fun _ hsy1 => ?_) (fun _ hsy1 => ?_)
  ·
   refine avc_skip <| avc_sq2 ?_
   obtain ⟨y2, hy2, hsy1⟩ := bE hsy1
   refine avc_tail (e := .normal) (S2 := ⟨[(0, .d (dsl eI y2)), (3, .d (.pt (eSet.cells a1))), (5, .d (di v5))], []⟩) ?_ ?_
   ·
    refine avc_block <| avc_sq2 ?_
    refine avc_drawA MX rfl ?_
    refine q19 L26_0 ?_
    refine q21 O24 ?_
    refine q4 ?_
    obtain ⟨t18, ht18, hy2⟩ := bE hy2
    refine q17 S24 ht18 ?_
    refine q35 L123_0 ?_
    refine daa (m_loadE (en := eRange) (l := a1.Ranges) (i := v5) (v := t18) (off := 0) (lq rfl) O3 rfl ht18 rfl) ?_
    refine q19 L26_0 ?_
    refine q21 O24 ?_
    refine q4 ?_
    obtain ⟨t24, ht24, hy2⟩ := bE hy2
    refine q17 S24 ht24 ?_
    refine q35 L123_1 ?_
    refine daa (m_loadE (en := eRange) (l := a1.Ranges) (i := v5) (v := t24) (off := 1) (lq rfl) O3 rfl ht24 rfl) ?_
    refine q26 ?_
    refine q26 ?_
    refine da_nil <| avc_sq2 <| avc_sq2 <| avc_sq <| q0 ?_
    obtain ⟨t28, ht28, hy2⟩ := bE hy2
    refine q6 (ref01_Valid_c ht28) ?_
    refine sq_nil ?_
    obtain ⟨y3, hy3, hy2⟩ := bE hy2
    refine avc_tail (e := .normal) (S2 := ⟨[(0, .d (dsl eI y3)), (3, .d (.pt (eSet.cells a1))), (5, .d (di v5)), (7, .d (di t24.Hi))], []⟩) ?_ ?_
    ·
     refine ifM rfl hy3 (fun _ hy3 => ?_) (fun _ hy3 => ?_)
     ·
      refine avc_sq <| q0 ?_
      refine q0 ?_
      obtain ⟨t31, ht31, hy3⟩ := bE hy3
      refine q6 (ref02_place_c ht31) ?_
      refine q1 ?_
      refine sq_nil ?_
      cases hy3
      exact out_mk (wc)
     ·
      refine avc_skip ?_
      cases hy3
      exact out_mk (wc)
    ·
     refine avc_sq2 <| avc_sq <| q0 ?_
     refine q30 ?_
     obtain ⟨b34, hb34, hy2⟩ := bE hy2
     refine sqa ((a_move_d (lq rfl) rfl).bool (Option.some.inj hb34)) ?_
     refine q10 (.d (di t24.Hi)) ?_
     refine q54 (.d (db (decide (t24.Hi < 1114111)))) ?_
     refine q12 ?_
     refine sq_nil ?_
     refine ifM rfl hy2 (fun _ hy2 => ?_) (fun _ hy2 => ?_)
     ·
      refine avc_sq <| q0 ?_
      refine q0 ?_
      refine q2 ?_
      obtain ⟨t41, ht41, hy2⟩ := bE hy2
      refine q6 (ref02_place_c ht41) ?_
      refine q1 ?_
      refine sq_nil ?_
      cases hy2
      exact out_mk (wc)
     ·
      refine avc_skip ?_
      cases hy2
      exact out_mk (wc)
   ·
    refine avc_sq <| q0 ?_
    refine q2 ?_
    refine q1 ?_
    refine sq_nil ?_
    cases hsy1
    exact wc
  ·
   refine avc_exit ?_
   cases hsy1
   intro q; cases q
   exact out_mk (wc)
 ·
  refine avc_sq2 <| avc_sq <| q0 ?_
  obtain ⟨t43, ht43, h⟩ := bE h
  refine q6 (ref02_place_c ht43) ?_
  refine q1 ?_
  refine sq_nil ?_
  cases h
  refine avc_ret ?_
  exact ret_1 rfl
theorem ref02_Has_c  {a0} {a1}  {r} (h : ref02_Has a0 a1 = some r) : Contract Tryz.prog 126 [(eSet.dv a0), (di a1)] [(db r)] := by
 refine contract_of Tryz.func126 (by kernel_rfl) rfl (lq rfl) (lq rfl) fun w0 I0 hI0 hG0 => ?_
 unfold ref02_Has at h
 refine avc_sq2 <| avc_sq <| q48 ?_
 refine q1 ?_
 refine sq_nil <| avc_sq2 <| avc_sq2 <| avc_sq <| q1 ?_
 refine sq_nil <| avc_block ?_
 obtain ⟨y1, hy1, h⟩ := bE h
 refine avc_tail2 y1 (.exit 0) (fun y1 => ⟨[], []⟩) .ret (fun y1 => ⟨[(4, .d (db y1))], []⟩) ?_ ?_ ?_
 ·
  refine avc_loopM (fun x => ⟨[(1, .d (di a1)), (2, .d (.pt (eSet.cells a0))), (5, .d (di x))], []⟩) hy1 (wc) ?_
  rintro v5 sy1 hsy1
  replace hsy1 : ref02_Has_L0 a0 a1 v5 = some sy1 := hsy1
  unfold ref02_Has_L0 at hsy1
  refine avc_sq2 <| avc_sq2 <| avc_sq <| q0 ?_
  refine q7 L26_0 ?_
  refine q8 O24 ?_
  refine q5 S24 ?_
  refine q3 ?_
  refine sq_nil ?_
  refine ifM rfl hsy1 (fun _ hsy1 => ?_) (fun _ hsy1 => ?_)
  ·
   refine avc_skip <| avc_sq2 <| avc_block <| avc_sq2 <| avc_sq <| q0 ?_
   obtain ⟨t14, ht14, hsy1⟩ := bE hsy1
   refine q6 (ref01_Valid_c ht14) ?_
   obtain ⟨b15, hb15, hsy1⟩ := bE hsy1
   refine sqa ((a_move_d (lq rfl) rfl).bool (Option.some.inj hb15)) ?_
   refine q47 (.ip (eSet.cells a0) (0 + 0)) L26_0 ?_
   refine q49 (.d (dsl eRange a0.Ranges)) O24 ?_
   refine q10 (.d (di v5)) ?_
   obtain ⟨t19, ht19, hsy1⟩ := bE hsy1
   refine q64 (.ip (eRange.all a0.Ranges) (v5.toNat * eRange.size)) S24 ht19 ?_
   refine q97 (.ip (eRange.all a0.Ranges) (v5.toNat * eRange.size + 0)) L123_0 ?_
   refine sqt (.d (di t19.Lo)) rfl (fun hb => by subst hb; exact m_loadE (en := eRange) (l := a0.Ranges) (i := v5) (v := t19) (off := 0) (lq rfl) O3 rfl ht19 rfl) ?_
   refine q10 (.d (di a1)) ?_
   refine q42 (.d (db (decide (t19.Lo ≤ a1)))) ?_
   refine q12 ?_
   obtain ⟨b25, hb25, hsy1⟩ := bE hsy1
   refine sqa ((a_move_d (lq rfl) rfl).bool (Option.some.inj hb25)) ?_
   refine q10 (.d (di a1)) ?_
   refine q47 (.ip (eSet.cells a0) (0 + 0)) L26_0 ?_
   refine q49 (.d (dsl eRange a0.Ranges)) O24 ?_
   refine q10 (.d (di v5)) ?_
   obtain ⟨t30, ht30, hsy1⟩ := bE hsy1
   refine q64 (.ip (eRange.all a0.Ranges) (v5.toNat * eRange.size)) S24 ht30 ?_
   refine q97 (.ip (eRange.all a0.Ranges) (v5.toNat * eRange.size + 1)) L123_1 ?_
   refine sqt (.d (di t30.Hi)) rfl (fun hb => by subst hb; exact m_loadE (en := eRange) (l := a0.Ranges) (i := v5) (v := t30) (off := 1) (lq rfl) O3 rfl ht30 rfl) ?_
   refine q42 (.d (db (decide (a1 ≤ t30.Hi)))) ?_
   refine q12 ?_
   refine sq_nil ?_
   refine ifM rfl hsy1 (fun _ hsy1 => ?_) (fun _ hsy1 => ?_)
   ·
    refine avc_sq2 <| avc_sq <| q1 ?_
    refine sq_nil <| avc_ret ?_
    cases hsy1
    intro q; cases q
    exact ⟨rfl, wc⟩
   ·
    refine avc_skip <| avc_sq <| q0 ?_
    refine q2 ?_
    refine q1 ?_
    refine sq_nil ?_
    cases hsy1
    exact wc
  ·
   refine avc_exit ?_
   cases hsy1
   intro q; cases q
   exact ⟨rfl, wc⟩
 ·
  rintro y1 rfl
  replace h := eL h
  refine avc_sq2 <| avc_sq <| q1 ?_
  refine sq_nil ?_
  cases h
  refine avc_ret ?_
  exact ret_1 rfl
 ·
  rintro y1 rfl
  replace h := eR h
  cases h
  exact ret_1 rfl
theorem ref02_keeps_c  {a0} {a1} {a2}  {r} (h : ref02_keeps a0 a1 a2 = some r) : Contract Tryz.prog 125 [(di a0), (db a1), (db a2)] [(db r)] := by
 refine contract_of Tryz.func125 (by kernel_rfl) rfl (lq rfl) (lq rfl) fun w0 I0 hI0 hG0 => ?_
 unfold ref02_keeps at h
 refine avc_sq2 <| avc_sq <| q1 ?_
 refine sq_nil <| avc_sq2 <| avc_sq2 <| avc_sq <| q0 ?_
 refine sq_nil <| avc_block <| avc_sq2 <| avc_sq <| q39 ?_
 refine q1 ?_
 refine sq_nil ?_
 refine ifM rfl h (fun _ h => ?_) (fun _ h => ?_)
 ·
  refine avc_sq2 <| avc_sq <| q0 ?_
  obtain ⟨b11, hb11, h⟩ := bE h
  refine sqa ((a_move_d (lq rfl) rfl).bool (Option.some.inj hb11)) ?_
  refine q32 (.d (db a2)) ?_
  refine q15 ?_
  refine q1 ?_
  refine sq_nil ?_
  cases h
  refine avc_ret ?_
  exact ret_1 rfl
 ·
  refine avc_sq2 <| avc_sq <| q39 ?_
  refine q1 ?_
  refine sq_nil ?_
  refine ifM rfl h (fun _ h => ?_) (fun _ h => ?_)
  ·
   refine avc_sq2 <| avc_sq <| q0 ?_
   obtain ⟨b17, hb17, h⟩ := bE h
   refine sqa ((a_move_d (lq rfl) rfl).bool (Option.some.inj hb17)) ?_
   refine q10 (.d (db a2)) ?_
   refine q12 ?_
   refine q1 ?_
   refine sq_nil ?_
   cases h
   refine avc_ret ?_
   exact ret_1 rfl
  ·
   refine avc_skip <| avc_sq2 <| avc_sq <| q0 ?_
   obtain ⟨b21, hb21, h⟩ := bE h
   refine sqa ((a_move_d (lq rfl) rfl).bool (Option.some.inj hb21)) ?_
   refine q10 (.d (db a2)) ?_
   refine q84 (.d (db (!a2))) ?_
   refine q12 ?_
   refine q1 ?_
   refine sq_nil ?_
   cases h
   refine avc_ret ?_
   exact ret_1 rfl
theorem ref02_combine_c  {a0} {a1} {a2}  {r} (h : ref02_combine a0 a1 a2 = some r) : Contract Tryz.prog 111 [(eSet.dv a0), (eSet.dv a1), (di a2)] [(eSet.dv r)] := by
 refine contract_of Tryz.func111 (by kernel_rfl) rfl (lq rfl) (lq rfl) fun w0 I0 hI0 hG0 => ?_
 unfold ref02_combine at h
 refine avc_sq2 <| avc_sq <| q48 ?_
 refine q48 ?_
 refine q93 ?_
 refine sq_nil <| avc_sq2 ?_
 refine avc_drawA MX rfl ?_
 refine q52 G26 ?_
 obtain ⟨t14, ht14, h⟩ := bE h
 refine q20 (con_nil (ref02_Cuts_c ht14) (nlN (nlE nl0))) ?_
 refine q52 G26 ?_
 obtain ⟨t16, ht16, h⟩ := bE h
 refine q20 (ref02_Cuts_c ht16) ?_
 refine q26 ?_
 refine da_nil <| avc_sq2 <| avc_sq <| q93 ?_
 refine sq_nil ?_
 refine avc_weak (weak_nil_box (bid := 8) (off := 0) 4160 123 eRange.size (lq rfl) (by decide) rfl rfl rfl) ?_
 refine avc_sq2 <| avc_sq <| q1 ?_
 refine sq_nil <| avc_sq2 <| avc_sq2 <| avc_sq <| q1 ?_
 refine sq_nil <| avc_block ?_
 obtain ⟨y1, hy1, h⟩ := bE h
 refine avc_tail (e := (.exit 0)) (S2 := ⟨[(6, .ptr 6 0), (8, .ptr 8 0)], [(6, .box 26 [.d (.v (.slice none 0 0))]), (8, .box 26 [.row 4160]), (4160, .row 123 eRange.size false (eRange.all y1))]⟩) ?_ ?_
 ·
  refine avc_loopM (fun x => ⟨[(2, .d (di a2)), (3, .d (.pt (eSet.cells a0))), (4, .d (.pt (eSet.cells a1))), (6, .ptr 6 0), (7, .d (dsl eI t16)), (8, .ptr 8 0), (9, .d (db x.1)), (10, .d (di x.2.1))], [(6, .box 26 [.d (.v (.slice none 0 0))]), (8, .box 26 [.row 4160]), (4160, .row 123 eRange.size false (eRange.all x.2.2))]⟩) hy1 (wc) ?_
  rintro ⟨v9, v10, r4160⟩ sy1 hsy1
  replace hsy1 : ref02_combine_L0 t16 a0 a1 a2 v9 v10 r4160 = some sy1 := hsy1
  unfold ref02_combine_L0 at hsy1
  refine avc_sq2 <| avc_sq2 <| avc_sq <| q0 ?_
  refine q0 ?_
  refine q5 S33 ?_
  refine q3 ?_
  refine sq_nil ?_
  refine ifM rfl hsy1 (fun _ hsy1 => ?_) (fun _ hsy1 => ?_)
  ·
   refine avc_skip <| avc_sq2 <| avc_block <| avc_sq2 <| avc_sq <| q1 ?_
   refine sq_nil <| avc_sq2 <| avc_sq2 <| avc_sq <| q0 ?_
   refine q2 ?_
   refine q0 ?_
   refine q5 S33 ?_
   refine q3 ?_
   refine sq_nil ?_
   obtain ⟨y2, hy2, hsy1⟩ := bE hsy1
   refine avc_tail (e := .normal) (S2 := ⟨[(2, .d (di a2)), (3, .d (.pt (eSet.cells a0))), (4, .d (.pt (eSet.cells a1))), (6, .ptr 6 0), (7, .d (dsl eI t16)), (8, .ptr 8 0), (9, .d (db v9)), (10, .d (di v10)), (11, .d (di y2))], [(6, .box 26 [.d (.v (.slice none 0 0))]), (8, .box 26 [.row 4160]), (4160, .row 123 eRange.size false (eRange.all r4160))]⟩) ?_ ?_
   ·
    refine ifM rfl hy2 (fun _ hy2 => ?_) (fun _ hy2 => ?_)
    ·
     refine avc_sq <| q0 ?_
     refine q0 ?_
     refine q2 ?_
     obtain ⟨t31, ht31, hy2⟩ := bE hy2
     refine q11 S33 ht31 ?_
     refine q29 O3 ht31 ?_
     refine q25 ?_
     refine q1 ?_
     refine sq_nil ?_
     cases hy2
     exact out_mk (wc)
    ·
     refine avc_skip ?_
     cases hy2
     exact out_mk (wc)
   ·
    refine avc_sq2 ?_
    refine avc_drawA MX rfl ?_
    refine q4 ?_
    refine q52 G26 ?_
    refine q4 ?_
    refine q4 ?_
    obtain ⟨t38, ht38, hsy1⟩ := bE hsy1
    refine q17 S33 ht38 ?_
    refine q51 O3 ht38 ?_
    obtain ⟨t40, ht40, hsy1⟩ := bE hsy1
    refine q20 (ref02_Has_c ht40) ?_
    refine q52 G26 ?_
    refine q4 ?_
    refine q4 ?_
    obtain ⟨t44, ht44, hsy1⟩ := bE hsy1
    refine q17 S33 ht44 ?_
    refine q51 O3 ht44 ?_
    obtain ⟨t46, ht46, hsy1⟩ := bE hsy1
    refine q20 (ref02_Has_c ht46) ?_
    obtain ⟨t47, ht47, hsy1⟩ := bE hsy1
    refine q20 (ref02_keeps_c ht47) ?_
    refine q26 ?_
    refine da_nil <| avc_sq2 <| avc_sq2 <| avc_sq <| q0 ?_
    obtain ⟨b49, hb49, hsy1⟩ := bE hsy1
    refine sqa ((a_move_d (lq rfl) rfl).bool (Option.some.inj hb49)) ?_
    refine q10 (.d (db v9)) ?_
    refine q12 ?_
    refine sq_nil ?_
    obtain ⟨y3, hy3, hsy1⟩ := bE hsy1
    refine avc_tail (e := .normal) (S2 := ⟨[(2, .d (di a2)), (3, .d (.pt (eSet.cells a0))), (4, .d (.pt (eSet.cells a1))), (6, .ptr 6 0), (7, .d (dsl eI t16)), (8, .ptr 8 0), (9, .d (db v9)), (10, .d (di v10)), (11, .d (di y2)), (12, .d (db t47))], [(6, .box 26 [.d (.v (.slice none 0 0))]), (8, .box 26 [.row 4160]), (4160, .row 123 eRange.size false (eRange.all y3))]⟩) ?_ ?_
    ·
     refine ifM rfl hy3 (fun _ hy3 => ?_) (fun _ hy3 => ?_)
     ·
      refine avc_sq <| q56 L26_0 ?_
      refine q33 O24 ?_
      refine q56 L26_0 ?_
      refine q33 O24 ?_
      refine q108 S24 ?_
      refine q25 ?_
      refine q0 ?_
      obtain ⟨t59, ht59, hy3⟩ := bE hy3
      refine q57 S24 ht59 ?_
      refine q56 L123_1 ?_
      obtain ⟨r4160_4, hr4160_4, hy3⟩ := bE hy3
      refine sq_b rfl (m_store (en := eRange) (l := r4160) (i := (wi ((r4160.length : Int) - 1))) (v := t59) (off := 1) O3 rfl rfl rfl ht59 rfl (by decide) hr4160_4 rfl rfl) ?_
      refine sq_nil ?_
      cases hy3
      exact out_mk (wc)
     ·
      refine avc_skip ?_
      cases hy3
      exact out_mk (wc)
    ·
     refine avc_sq2 <| avc_sq2 <| avc_sq <| q0 ?_
     obtain ⟨b62, hb62, hsy1⟩ := bE hsy1
     refine sqa ((a_move_d (lq rfl) rfl).bool (Option.some.inj hb62)) ?_
     refine q10 (.d (db v9)) ?_
     refine q84 (.d (db (!v9))) ?_
     refine q12 ?_
     refine sq_nil ?_
     obtain ⟨y5, hy5, hsy1⟩ := bE hsy1
     refine avc_tail (e := .normal) (S2 := ⟨[(2, .d (di a2)), (3, .d (.pt (eSet.cells a0))), (4, .d (.pt (eSet.cells a1))), (6, .ptr 6 0), (7, .d (dsl eI t16)), (8, .ptr 8 0), (10, .d (di v10)), (12, .d (db t47))], [(6, .box 26 [.d (.v (.slice none 0 0))]), (8, .box 26 [.row 4160]), (4160, .row 123 eRange.size false (eRange.all y5))]⟩) ?_ ?_
     ·
      refine ifM rfl hy5 (fun _ hy5 => ?_) (fun _ hy5 => ?_)
      ·
       refine avc_draw 9 MX rfl ?_
       refine q73 L26_0 ?_
       refine q124 O24 ?_
       refine q4 ?_
       refine q4 ?_
       obtain ⟨t70, ht70, hy5⟩ := bE hy5
       refine q17 S33 ht70 ?_
       refine q51 O3 ht70 ?_
       refine q4 ?_
       refine daa (m_build (lq rfl) B123 rfl rfl) ?_
       refine q127 S24 ?_
       refine da_nil ?_
       obtain ⟨r4160_6, hr4160_6, hy5⟩ := bE hy5
       refine sq_b rfl (m_append (en := eRange) (l := y3) (m := [({ Lo := t70, Hi := y2 } : Range)]) (lq rfl) S24 rfl rfl rfl hr4160_6 (by decide) (by decide) rfl rfl) ?_
       refine q56 L26_0 ?_
       refine q109 O24 ?_
       refine sq_nil ?_
       cases hy5
       exact out_mk (wc)
      ·
       refine avc_skip ?_
       cases hy5
       exact out_mk (wc)
     ·
      refine avc_sq <| q0 ?_
      refine q1 ?_
      refine sq_nil <| avc_sq <| q0 ?_
      refine q2 ?_
      refine q1 ?_
      refine sq_nil ?_
      cases hsy1
      exact wc
  ·
   refine avc_exit ?_
   cases hsy1
   intro q; cases q
   exact out_mk (wc)
 ·
  refine avc_sq2 ?_
  refine avc_weak (weak_row_box (bid := 8) (off := 0) rfl rfl rfl) ?_
  refine avc_sq ?_
  refine sqa ((a_load_boxA (lq rfl) G26 rfl rfl rfl rfl).data rfl) ?_
  refine q14 G26 ?_
  refine sq_nil ?_
  cases h
  refine avc_ret ?_
  exact ret_cellA rfl rfl G26 rfl
theorem ref02_Make_c  {a0}  {r} (h : ref02_Make a0 = some r) : Contract Tryz.prog 91 [(dsl eRange a0)] [(eSet.dv r)] := by
 refine contract_of Tryz.func91 (by kernel_rfl) rfl (lq rfl) (lq rfl) fun w0 I0 hI0 hG0 => ?_
 unfold ref02_Make at h
 refine avc_sq2 <| avc_sq <| q93 ?_
 refine sq_nil <| avc_sq2 <| avc_sq <| q0 ?_
 refine q44 B26 ?_
 refine sqa ((m_build (lq rfl) B26 rfl rfl).nils (bs := eSet.cells ({ Ranges := [] } : Set)) (nlN nl0)) ?_
 obtain ⟨t6, ht6, h⟩ := bE h
 refine q6 (ref02_combine_c ht6) ?_
 refine q14 G26 ?_
 refine sq_nil ?_
 cases h
 refine avc_ret ?_
 exact ret_cellA rfl rfl G26 rfl
theorem ref02_Same_c  {a0} {a1}  {r} (h : ref02_Same a0 a1 = some r) : Contract Tryz.prog 90 [(eSet.dv a0), (eSet.dv a1)] [(db r)] := by
 refine contract_of Tryz.func90 (by kernel_rfl) rfl (lq rfl) (lq rfl) fun w0 I0 hI0 hG0 => ?_
 unfold ref02_Same at h
 refine avc_sq2 <| avc_sq <| q48 ?_
 refine q48 ?_
 refine q1 ?_
 refine sq_nil <| avc_sq2 <| avc_sq2 <| avc_sq <| q7 L26_0 ?_
 refine q8 O24 ?_
 refine q5 S24 ?_
 refine q7 L26_0 ?_
 refine q8 O24 ?_
 refine q5 S24 ?_
 refine q27 ?_
 refine sq_nil ?_
 refine ifM rfl h (fun _ h => ?_) (fun _ h => ?_)
 ·
  refine avc_sq2 <| avc_sq <| q1 ?_
  refine sq_nil ?_
  cases h
  refine avc_ret ?_
  exact ret_1 rfl
 ·
  refine avc_skip <| avc_sq2 <| avc_sq2 <| avc_sq <| q1 ?_
  refine sq_nil <| avc_block ?_
  obtain ⟨y1, hy1, h⟩ := bE h
  refine avc_tail2 y1 (.exit 0) (fun y1 => ⟨[], []⟩) .ret (fun y1 => ⟨[(4, .d (db y1))], []⟩) ?_ ?_ ?_
  ·
   refine avc_loopM (fun x => ⟨[(2, .d (.pt (eSet.cells a0))), (3, .d (.pt (eSet.cells a1))), (5, .d (di x))], []⟩) hy1 (wc) ?_
   rintro v5 sy1 hsy1
   replace hsy1 : ref02_Same_L0 a0 a1 v5 = some sy1 := hsy1
   unfold ref02_Same_L0 at hsy1
   refine avc_sq2 <| avc_sq2 <| avc_sq <| q0 ?_
   refine q7 L26_0 ?_
   refine q8 O24 ?_
   refine q5 S24 ?_
   refine q3 ?_
   refine sq_nil ?_
   refine ifM rfl hsy1 (fun _ hsy1 => ?_) (fun _ hsy1 => ?_)
   ·
    refine avc_skip <| avc_sq2 <| avc_block <| avc_sq2 ?_
    refine avc_drawA MX rfl ?_
    refine q19 L26_0 ?_
    refine q21 O24 ?_
    refine q4 ?_
    obtain ⟨t23, ht23, hsy1⟩ := bE hsy1
    refine q17 S24 ht23 ?_
    refine daa (m_loadEA (en := eRange) (l := a0.Ranges) (i := v5) (v := t23) (off := 0) (lq rfl) G123 rfl ht23 rfl rfl (by decide)) ?_
    refine q19 L26_0 ?_
    refine q21 O24 ?_
    refine q4 ?_
    obtain ⟨t28, ht28, hsy1⟩ := bE hsy1
    refine q17 S24 ht28 ?_
    refine daa (m_loadEA (en := eRange) (l := a1.Ranges) (i := v5) (v := t28) (off := 0) (lq rfl) G123 rfl ht28 rfl rfl (by decide)) ?_
    refine daa (m_stneq (en := eRange) (a := t23) (b := t28) (lq rfl) E123 rfl rfl) ?_
    refine da_nil ?_
    refine ifM rfl hsy1 (fun _ hsy1 => ?_) (fun _ hsy1 => ?_)
    ·
     refine avc_sq2 <| avc_sq <| q1 ?_
     refine sq_nil <| avc_ret ?_
     cases hsy1
     intro q; cases q
     exact ⟨rfl, wc⟩
    ·
     refine avc_skip <| avc_sq <| q0 ?_
     refine q2 ?_
     refine q1 ?_
     refine sq_nil ?_
     cases hsy1
     exact wc
   ·
    refine avc_exit ?_
    cases hsy1
    intro q; cases q
    exact ⟨rfl, wc⟩
  ·
   rintro y1 rfl
   replace h := eL h
   refine avc_sq2 <| avc_sq <| q1 ?_
   refine sq_nil ?_
   cases h
   refine avc_ret ?_
   exact ret_1 rfl
  ·
   rintro y1 rfl
   replace h := eR h
   cases h
   exact ret_1 rfl
theorem ref02_Valid_c  {a0}  {r} (h : ref02_Valid a0 = some r) : Contract Tryz.prog 63 [(eSet.dv a0)] [(db r)] := by
 refine contract_of Tryz.func63 (by kernel_rfl) rfl (lq rfl) (lq rfl) fun w0 I0 hI0 hG0 => ?_
 unfold ref02_Valid at h
 refine avc_sq2 <| avc_sq <| q48 ?_
 refine q1 ?_
 refine sq_nil <| avc_sq2 ?_
 refine avc_drawA MX rfl ?_
 refine q52 G26 ?_
 refine q19 L26_0 ?_
 refine q21 O24 ?_
 obtain ⟨t6, ht6, h⟩ := bE h
 refine q20 (ref02_Make_c ht6) ?_
 obtain ⟨t7, ht7, h⟩ := bE h
 refine q20 (ref02_Same_c ht7) ?_
 refine q26 ?_
 refine da_nil ?_
 cases h
 refine avc_ret ?_
 exact ret_1 rfl
theorem ref21_find_c  {a0} {a1} {a2}  {r} (h : ref21_find a0 a1 a2 = some r) : Contract Tryz.prog 64 [(dsl eMapping a0), (di a1), (db a2)] [(di r)] := by
 refine contract_of Tryz.func64 (by kernel_rfl) rfl (lq rfl) (lq rfl) fun w0 I0 hI0 hG0 => ?_
 unfold ref21_find at h
 refine avc_sq2 <| avc_sq <| q1 ?_
 refine sq_nil <| avc_sq2 <| avc_sq2 <| avc_sq <| q1 ?_
 refine sq_nil <| avc_block ?_
 obtain ⟨y1, hy1, h⟩ := bE h
 refine avc_tail2 y1 (.exit 0) (fun y1 => ⟨[], []⟩) .ret (fun y1 => ⟨[(6, .d (di y1))], []⟩) ?_ ?_ ?_
 ·
  refine avc_loopM (fun x => ⟨[(0, .d (dsl eMapping a0)), (1, .d (di a1)), (2, .d (db a2)), (7, .d (di x))], []⟩) hy1 (wc) ?_
  rintro v7 sy1 hsy1
  replace hsy1 : ref21_find_L0 a0 a1 a2 v7 = some sy1 := hsy1
  unfold ref21_find_L0 at hsy1
  refine avc_sq2 <| avc_sq2 <| avc_sq <| q0 ?_
  refine q0 ?_
  refine q5 S23 ?_
  refine q3 ?_
  refine sq_nil ?_
  refine ifM rfl hsy1 (fun _ hsy1 => ?_) (fun _ hsy1 => ?_)
  ·
   refine avc_skip <| avc_sq2 <| avc_block <| avc_sq2 <| avc_sq <| q0 ?_
   refine q0 ?_
   obtain ⟨t16, ht16, hsy1⟩ := bE hsy1
   refine q11 S23 ht16 ?_
   refine q34 L103_0 ?_
   refine sqa (m_loadE (en := eMapping) (l := a0) (i := v7) (v := t16) (off := 0) (lq rfl) O3 rfl ht16 rfl) ?_
   refine q0 ?_
   refine q39 ?_
   obtain ⟨b21, hb21, hsy1⟩ := bE hsy1
   refine sqa ((a_move_d (lq rfl) rfl).bool (Option.some.inj hb21)) ?_
   refine q10 (.d (db a2)) ?_
   obtain ⟨b23, hb23, hsy1⟩ := bE hsy1
   refine sqt (.d (db b23)) rfl (fun hb => by subst hb; exact (a_move_d (lq rfl) rfl).bool (Option.some.inj hb23)) ?_
   refine sq_g2 (x := .d (dsl eMapping a0)) rfl rfl rfl (lq rfl) (lq rfl) rfl (fun hb => by obtain ⟨hb, hb1⟩ := and_split hb; obtain rfl : b21 = true := hb; obtain rfl := gF hb1; exact a_move_d (lq rfl) rfl) ?_
   refine sq_g2 (x := .d (di v7)) rfl rfl rfl (lq rfl) (lq rfl) rfl (fun hb => by obtain ⟨hb, hb1⟩ := and_split hb; obtain rfl : b21 = true := hb; obtain rfl := gF hb1; exact a_move_d (lq rfl) rfl) ?_
   obtain ⟨t26, ht26, hsy1⟩ := bE hsy1
   refine sq_g2 (x := .ip (eMapping.all a0) (v7.toNat * eMapping.size)) rfl rfl rfl (lq rfl) (lq rfl) rfl (fun hb => by obtain ⟨hb, hb1⟩ := and_split hb; obtain rfl : b21 = true := hb; obtain rfl := gF hb1; exact m_index (en := eMapping) (lq rfl) S23 rfl rfl ht26) ?_
   refine sq_g2 (x := .ip (eMapping.all a0) (v7.toNat * eMapping.size + 2)) rfl rfl rfl (lq rfl) (lq rfl) rfl (fun hb => by obtain ⟨hb, hb1⟩ := and_split hb; obtain rfl : b21 = true := hb; obtain rfl := gF hb1; exact a_fieldAddr_ip (lq rfl) L103_2 rfl) ?_
   refine sq_g2 (x := .d (ds t26.Tag)) rfl rfl rfl (lq rfl) (lq rfl) rfl (fun hb => by obtain ⟨hb, hb1⟩ := and_split hb; obtain rfl : b21 = true := hb; obtain rfl := gF hb1; exact m_loadE (en := eMapping) (l := a0) (i := v7) (v := t26) (off := 2) (lq rfl) O9 rfl ht26 rfl) ?_
   refine sq_g2 (x := .d (db (t26.Tag == []))) rfl rfl rfl (lq rfl) (lq rfl) rfl (fun hb => by obtain ⟨hb, hb1⟩ := and_split hb; obtain rfl : b21 = true := hb; obtain rfl := gF hb1; exact m_seql (a := t26.Tag) (b := []) (lq rfl) rfl rfl) ?_
   refine q123 (.d (db (b23 || (t26.Tag == [])))) ?_
   refine q12 ?_
   refine sq_nil ?_
   refine ifM rfl hsy1 (fun _ hsy1 => ?_) (fun _ hsy1 => ?_)
   ·
    refine avc_sq2 <| avc_sq <| q0 ?_
    refine q1 ?_
    refine sq_nil <| avc_ret ?_
    cases hsy1
    intro q; cases q
    exact ⟨rfl, wc⟩
   ·
    refine avc_skip <| avc_sq <| q0 ?_
    refine q2 ?_
    refine q1 ?_
    refine sq_nil ?_
    cases hsy1
    exact wc
  ·
   refine avc_exit ?_
   cases hsy1
   intro q; cases q
   exact ⟨rfl, wc⟩
 ·
  rintro y1 rfl
  replace h := eL h
  refine avc_sq2 <| avc_sq <| q1 ?_
  refine sq_nil ?_
  cases h
  refine avc_ret ?_
  exact ret_1 rfl
 ·
  rintro y1 rfl
  replace h := eR h
  cases h
  exact ret_1 rfl
theorem ref19_Kind_c  {a0}  {r} (h : ref19_Kind a0 = some r) : Contract Tryz.prog 65 [(di a0)] [(di r)] := by
 refine contract_of Tryz.func65 (by kernel_rfl) rfl (lq rfl) (lq rfl) fun w0 I0 hI0 hG0 => ?_
 unfold ref19_Kind at h
 refine avc_sq2 <| avc_sq <| q1 ?_
 refine sq_nil <| avc_sq2 <| avc_sq2 <| avc_sq <| q0 ?_
 refine q30 ?_
 obtain ⟨b5, hb5, h⟩ := bE h
 refine sqa ((a_move_d (lq rfl) rfl).bool (Option.some.inj hb5)) ?_
 refine q10 (.d (di a0)) ?_
 refine q42 (.d (db (decide (a0 ≤ 4370)))) ?_
 refine q12 ?_
 refine sq_nil ?_
 refine ifM rfl h (fun _ h => ?_) (fun _ h => ?_)
 ·
  refine avc_sq2 <| avc_sq <| q1 ?_
  refine sq_nil ?_
  cases h
  refine avc_ret ?_
  exact ret_1 rfl
 ·
  refine avc_skip <| avc_sq2 <| avc_sq2 <| avc_sq <| q0 ?_
  refine q30 ?_
  obtain ⟨b11, hb11, h⟩ := bE h
  refine sqa ((a_move_d (lq rfl) rfl).bool (Option.some.inj hb11)) ?_
  refine q10 (.d (di a0)) ?_
  refine q42 (.d (db (decide (a0 ≤ 4469)))) ?_
  refine q12 ?_
  refine sq_nil ?_
  refine ifM rfl h (fun _ h => ?_) (fun _ h => ?_)
  ·
   refine avc_sq2 <| avc_sq <| q1 ?_
   refine sq_nil ?_
   cases h
   refine avc_ret ?_
   exact ret_1 rfl
  ·
   refine avc_skip <| avc_sq2 <| avc_sq2 <| avc_sq <| q0 ?_
   refine q30 ?_
   obtain ⟨b17, hb17, h⟩ := bE h
   refine sqa ((a_move_d (lq rfl) rfl).bool (Option.some.inj hb17)) ?_
   refine q10 (.d (di a0)) ?_
   refine q42 (.d (db (decide (a0 ≤ 4546)))) ?_
   refine q12 ?_
   refine sq_nil ?_
   refine ifM rfl h (fun _ h => ?_) (fun _ h => ?_)
   ·
    refine avc_sq2 <| avc_sq <| q1 ?_
    refine sq_nil ?_
    cases h
    refine avc_ret ?_
    exact ret_1 rfl
   ·
    refine avc_skip <| avc_sq2 <| avc_sq2 <| avc_sq <| q0 ?_
    refine q30 ?_
    obtain ⟨b23, hb23, h⟩ := bE h
    refine sqa ((a_move_d (lq rfl) rfl).bool (Option.some.inj hb23)) ?_
    refine q10 (.d (di a0)) ?_
    refine q42 (.d (db (decide (a0 ≤ 55203)))) ?_
    refine q12 ?_
    refine sq_nil ?_
    refine ifM rfl h (fun _ h => ?_) (fun _ h => ?_)
    ·
     refine avc_sq2 <| avc_sq2 <| avc_sq <| q0 ?_
     refine q25 ?_
     obtain ⟨t29, ht29, h⟩ := bE h
     refine q67 ht29 ?_
     refine q39 ?_
     refine sq_nil ?_
     refine ifM rfl h (fun _ h => ?_) (fun _ h => ?_)
     ·
      refine avc_sq2 <| avc_sq <| q1 ?_
      refine sq_nil ?_
      cases h
      refine avc_ret ?_
      exact ret_1 rfl
     ·
      refine avc_skip <| avc_sq2 <| avc_sq <| q1 ?_
      refine sq_nil ?_
      cases h
      refine avc_ret ?_
      exact ret_1 rfl
    ·
     refine avc_skip <| avc_sq2 <| avc_sq <| q1 ?_
     refine sq_nil ?_
     cases h
     refine avc_ret ?_
     exact ret_1 rfl
theorem ref20_Class_c  {a0} {a1}  {r} (h : ref20_Class a0 a1 = some r) : Contract Tryz.prog 38 [(dsl eSpan a0), (di a1)] [(di r)] := by
 refine contract_of Tryz.func38 (by kernel_rfl) rfl (lq rfl) (lq rfl) fun w0 I0 hI0 hG0 => ?_
 unfold ref20_Class at h
 refine avc_sq2 <| avc_sq <| q1 ?_
 refine sq_nil <| avc_sq2 <| avc_sq2 <| avc_sq <| q0 ?_
 obtain ⟨t7, ht7, h⟩ := bE h
 refine q6 (ref20_Check_c ht7) ?_
 refine q27 ?_
 refine sq_nil ?_
 refine ifM rfl h (fun _ h => ?_) (fun _ h => ?_)
 ·
  refine avc_sq2 <| avc_sq <| q1 ?_
  refine sq_nil ?_
  cases h
  refine avc_ret ?_
  exact ret_1 rfl
 ·
  refine avc_skip <| avc_sq2 <| avc_sq2 <| avc_sq <| q1 ?_
  refine sq_nil <| avc_block ?_
  obtain ⟨y1, hy1, h⟩ := bE h
  refine avc_tail2 y1 (.exit 0) (fun y1 => ⟨[], []⟩) .ret (fun y1 => ⟨[(4, .d (di y1))], []⟩) ?_ ?_ ?_
  ·
   refine avc_loopM (fun x => ⟨[(0, .d (dsl eSpan a0)), (1, .d (di a1)), (5, .d (di x))], []⟩) hy1 (wc) ?_
   rintro v5 sy1 hsy1
   replace hsy1 : ref20_Class_L0 a0 a1 v5 = some sy1 := hsy1
   unfold ref20_Class_L0 at hsy1
   refine avc_sq2 <| avc_sq2 <| avc_sq <| q0 ?_
   refine q0 ?_
   refine q5 S22 ?_
   refine q3 ?_
   refine sq_nil ?_
   refine ifM rfl hsy1 (fun _ hsy1 => ?_) (fun _ hsy1 => ?_)
   ·
    refine avc_skip <| avc_sq2 <| avc_block <| avc_sq2 <| avc_sq <| q0 ?_
    refine q0 ?_
    obtain ⟨t17, ht17, hsy1⟩ := bE hsy1
    refine q11 S22 ht17 ?_
    refine q34 L61_0 ?_
    refine sqa (m_loadE (en := eSpan) (l := a0) (i := v5) (v := t17) (off := 0) (lq rfl) O3 rfl ht17 rfl) ?_
    refine q0 ?_
    refine q53 ?_
    obtain ⟨b22, hb22, hsy1⟩ := bE hsy1
    refine sqa ((a_move_d (lq rfl) rfl).bool (Option.some.inj hb22)) ?_
    refine q10 (.d (di a1)) ?_
    refine q10 (.d (dsl eSpan a0)) ?_
    refine q10 (.d (di v5)) ?_
    obtain ⟨t26, ht26, hsy1⟩ := bE hsy1
    refine q64 (.ip (eSpan.all a0) (v5.toNat * eSpan.size)) S22 ht26 ?_
    refine q97 (.ip (eSpan.all a0) (v5.toNat * eSpan.size + 1)) L61_1 ?_
    refine sqt (.d (di t26.Hi)) rfl (fun hb => by subst hb; exact m_loadE (en := eSpan) (l := a0) (i := v5) (v := t26) (off := 1) (lq rfl) O3 rfl ht26 rfl) ?_
    refine q42 (.d (db (decide (a1 ≤ t26.Hi)))) ?_
    refine q12 ?_
    refine sq_nil ?_
    refine ifM rfl hsy1 (fun _ hsy1 => ?_) (fun _ hsy1 => ?_)
    ·
     refine avc_sq2 <| avc_sq <| q0 ?_
     refine q0 ?_
     obtain ⟨t33, ht33, hsy1⟩ := bE hsy1
     refine q11 S22 ht33 ?_
     refine q34 L61_2 ?_
     refine sqa (m_loadE (en := eSpan) (l := a0) (i := v5) (v := t33) (off := 2) (lq rfl) O3 rfl ht33 rfl) ?_
     refine q1 ?_
     refine sq_nil <| avc_ret ?_
     cases hsy1
     intro q; cases q
     exact ⟨rfl, wc⟩
    ·
     refine avc_skip <| avc_sq <| q0 ?_
     refine q2 ?_
     refine q1 ?_
     refine sq_nil ?_
     cases hsy1
     exact wc
   ·
    refine avc_exit ?_
    cases hsy1
    intro q; cases q
    exact ⟨rfl, wc⟩
  ·
   rintro y1 rfl
   replace h := eL h
   refine avc_sq2 <| avc_sq <| q1 ?_
   refine sq_nil ?_
   cases h
   refine avc_ret ?_
   exact ret_1 rfl
  ·
   rintro y1 rfl
   replace h := eR h
   cases h
   exact ret_1 rfl
theorem ref21_ends_c  {a0}  {r} (h : ref21_ends a0 = some r) : Contract Tryz.prog 66 [(dsl eMapping a0)] [(dsl eB r)] := by
 refine contract_of Tryz.func66 (by kernel_rfl) rfl (lq rfl) (lq rfl) fun w0 I0 hI0 hG0 => ?_
 unfold ref21_ends at h
 refine avc_sq2 <| avc_sq <| q1 ?_
 refine sq_nil <| avc_sq2 <| avc_sq <| q0 ?_
 refine q5 S23 ?_
 obtain ⟨r11, hr11, h⟩ := bE h
 refine sq_b rfl (m_make (en := eB) (lq rfl) S104 rfl rfl hr11 (by decide) rfl) ?_
 refine q13 ?_
 refine sq_nil <| avc_sq2 <| avc_sq2 <| avc_sq <| q1 ?_
 refine sq_nil <| avc_block ?_
 obtain ⟨y1, hy1, h⟩ := bE h
 refine avc_tail (e := (.exit 0)) (S2 := ⟨[(3, .row 11)], [(11, .row 4 eB.size false (eB.all y1))]⟩) ?_ ?_
 ·
  refine avc_loopM (fun x => ⟨[(0, .d (dsl eMapping a0)), (3, .row 11), (4, .d (di x.1))], [(11, .row 4 eB.size false (eB.all x.2))]⟩) hy1 (wc) ?_
  rintro ⟨v4, r11⟩ sy1 hsy1
  replace hsy1 : ref21_ends_L0 a0 v4 r11 = some sy1 := hsy1
  unfold ref21_ends_L0 at hsy1
  refine avc_sq2 <| avc_sq2 <| avc_sq <| q0 ?_
  refine q0 ?_
  refine q5 S23 ?_
  refine q3 ?_
  refine sq_nil ?_
  refine ifM rfl hsy1 (fun _ hsy1 => ?_) (fun _ hsy1 => ?_)
  ·
   refine avc_skip <| avc_sq2 <| avc_block <| avc_sq2 <| avc_sq <| q1 ?_
   refine sq_nil <| avc_block ?_
   obtain ⟨y2, hy2, hsy1⟩ := bE hsy1
   refine avc_tail (e := (.exit 2)) (S2 := ⟨[(0, .d (dsl eMapping a0)), (3, .row 11), (4, .d (di v4))], [(11, .row 4 eB.size false (eB.all y2))]⟩) ?_ ?_
   ·
    refine avc_loopM (fun x => ⟨[(0, .d (dsl eMapping a0)), (3, .row 11), (4, .d (di v4)), (5, .d (di x.1))], [(11, .row 4 eB.size false (eB.all x.2))]⟩) hy2 (wc) ?_
    rintro ⟨v5, r11⟩ sy2 hsy2
    replace hsy2 : ref21_ends_L1 a0 v5 r11 = some sy2 := hsy2
    unfold ref21_ends_L1 at hsy2
    refine avc_sq2 <| avc_sq2 <| avc_sq <| q0 ?_
    refine q0 ?_
    refine q5 S23 ?_
    refine q3 ?_
    refine sq_nil ?_
    refine ifM rfl hsy2 (fun _ hsy2 => ?_) (fun _ hsy2 => ?_)
    ·
     refine avc_skip <| avc_sq2 <| avc_block <| avc_sq2 <| avc_sq <| q1 ?_
     refine sq_nil <| avc_sq2 <| avc_sq2 <| avc_sq <| q1 ?_
     refine sq_nil <| avc_block ?_
     obtain ⟨y3, hy3, hsy2⟩ := bE hsy2
     refine avc_tail (e := (.exit 4)) (S2 := ⟨[(0, .d (dsl eMapping a0)), (3, .row 11), (4, .d (di v4)), (5, .d (di v5)), (6, .d (db y3))], [(11, .row 4 eB.size false (eB.all r11))]⟩) ?_ ?_
     ·
      refine avc_loopM (fun x => ⟨[(0, .d (dsl eMapping a0)), (3, .row 11), (4, .d (di v4)), (5, .d (di v5)), (6, .d (db x.1)), (7, .d (di x.2))], [(11, .row 4 eB.size false (eB.all r11))]⟩) hy3 (wc) ?_
      rintro ⟨v6, v7⟩ sy3 hsy3
      replace hsy3 : ref21_ends_L2 a0 v5 r11 v6 v7 = some sy3 := hsy3
      unfold ref21_ends_L2 at hsy3
      refine avc_sq2 <| avc_sq2 <| avc_sq <| q0 ?_
      refine q0 ?_
      refine q0 ?_
      obtain ⟨t27, ht27, hsy3⟩ := bE hsy3
      refine q11 S23 ht27 ?_
      refine q34 L103_1 ?_
      refine q65 O33 ht27 ?_
      refine q5 S33 ?_
      refine q3 ?_
      refine sq_nil ?_
      refine ifM rfl hsy3 (fun _ hsy3 => ?_) (fun _ hsy3 => ?_)
      ·
       refine avc_skip <| avc_sq2 <| avc_block <| avc_sq2 <| avc_sq <| q0 ?_
       refine q0 ?_
       refine q0 ?_
       obtain ⟨t37, ht37, hsy3⟩ := bE hsy3
       refine q11 S23 ht37 ?_
       refine q34 L103_1 ?_
       refine q65 O33 ht37 ?_
       refine q0 ?_
       obtain ⟨t41, ht41, hsy3⟩ := bE hsy3
       refine q11 S33 ht41 ?_
       refine q29 O3 ht41 ?_
       obtain ⟨t43, ht43, hsy3⟩ := bE hsy3
       refine q6 (ref21_find_c ht43) ?_
       refine q1 ?_
       refine sq_nil <| avc_sq <| q0 ?_
       obtain ⟨b45, hb45, hsy3⟩ := bE hsy3
       refine sqa ((a_move_d (lq rfl) rfl).bool (Option.some.inj hb45)) ?_
       refine q10 (.d (di t43)) ?_
       refine q54 (.d (db (decide (t43 < 0)))) ?_
       obtain ⟨b48, hb48, hsy3⟩ := bE hsy3
       refine sqt (.d (db b48)) rfl (fun hb => by subst hb; exact (a_move_d (lq rfl) rfl).bool (Option.some.inj hb48)) ?_
       refine sq_g2 (x := .row 11) rfl rfl rfl (lq rfl) (lq rfl) rfl (fun hb => by obtain ⟨hb, hb1⟩ := and_split hb; obtain rfl : b45 = true := hb; obtain rfl := gF hb1; exact a_move_row (lq rfl) rfl) ?_
       refine sq_g2 (x := .d (di t43)) rfl rfl rfl (lq rfl) (lq rfl) rfl (fun hb => by obtain ⟨hb, hb1⟩ := and_split hb; obtain rfl : b45 = true := hb; obtain rfl := gF hb1; exact a_move_d (lq rfl) rfl) ?_
       obtain ⟨t51, ht51, hsy3⟩ := bE hsy3
       refine sq_g2 (x := .ptr 11 (t43.toNat * eB.size)) rfl rfl rfl (lq rfl) (lq rfl) rfl (fun hb => by obtain ⟨hb, hb1⟩ := and_split hb; obtain rfl : b45 = true := hb; obtain rfl := gF hb1; exact m_indexR (en := eB) (l := r11) (lq rfl) S104 rfl rfl rfl ht51) ?_
       refine sq_g2 (x := .d (db t51)) rfl rfl rfl (lq rfl) (lq rfl) rfl (fun hb => by obtain ⟨hb, hb1⟩ := and_split hb; obtain rfl : b45 = true := hb; obtain rfl := gF hb1; exact m_loadER (en := eB) (l := r11) (i := t43) (v := t51) (off := 0) (lq rfl) O4 rfl rfl ht51 rfl) ?_
       refine q123 (.d (db (b48 || t51))) ?_
       refine q12 ?_
       refine q1 ?_
       refine sq_nil <| avc_sq <| q0 ?_
       refine q2 ?_
       refine q1 ?_
       refine sq_nil ?_
       cases hsy3
       exact wc
      ·
       refine avc_exit ?_
       cases hsy3
       intro q; cases q
       exact out_mk (wc)
     ·
      refine avc_sq <| q9 ?_
      refine q0 ?_
      refine q0 ?_
      obtain ⟨t58, ht58, hsy2⟩ := bE hsy2
      refine q57 S104 ht58 ?_
      obtain ⟨r11_4, hr11_4, hsy2⟩ := bE hsy2
      refine sq_b rfl (m_store (en := eB) (l := r11) (i := v5) (v := t58) (off := 0) O4 rfl rfl rfl ht58 rfl (by decide) hr11_4 rfl rfl) ?_
      refine sq_nil <| avc_sq <| q0 ?_
      refine q2 ?_
      refine q1 ?_
      refine sq_nil ?_
      cases hsy2
      exact wc
    ·
     refine avc_exit ?_
     cases hsy2
     intro q; cases q
     exact out_mk (wc)
   ·
    refine avc_sq <| q0 ?_
    refine q2 ?_
    refine q1 ?_
    refine sq_nil ?_
    cases hsy1
    exact wc
  ·
   refine avc_exit ?_
   cases hsy1
   intro q; cases q
   exact out_mk (wc)
 ·
  refine avc_sq2 <| avc_sq <| q9 ?_
  refine q13 ?_
  refine sq_nil ?_
  cases h
  refine avc_ret ?_
  exact ret_1 rfl
theorem ref19_Decompose_c  {a0}  {r} (h : ref19_Decompose a0 = some r) : Contract Tryz.prog 92 [(di a0)] [(dsl eI r)] := by
 refine contract_of Tryz.func92 (by kernel_rfl) rfl (lq rfl) (lq rfl) fun w0 I0 hI0 hG0 => ?_
 unfold ref19_Decompose at h
 refine avc_sq2 <| avc_sq <| q1 ?_
 refine sq_nil <| avc_sq2 <| avc_sq2 <| avc_sq <| q0 ?_
 obtain ⟨t6, ht6, h⟩ := bE h
 refine q6 (ref19_Kind_c ht6) ?_
 refine q3 ?_
 refine sq_nil ?_
 refine ifM rfl h (fun _ h => ?_) (fun _ h => ?_)
 ·
  refine avc_sq2 <| avc_sq <| q0 ?_
  refine q61 S33 ?_
  refine q13 ?_
  refine sq_nil ?_
  cases h
  refine avc_ret ?_
  exact ret_1 rfl
 ·
  refine avc_skip <| avc_sq2 <| avc_sq <| q0 ?_
  refine q25 ?_
  refine q1 ?_
  refine sq_nil <| avc_sq2 <| avc_sq <| q0 ?_
  obtain ⟨t13, ht13, h⟩ := bE h
  refine q87 ht13 ?_
  obtain ⟨t14, ht14, h⟩ := bE h
  refine q87 ht14 ?_
  refine q2 ?_
  refine q0 ?_
  obtain ⟨t17, ht17, h⟩ := bE h
  refine q87 ht17 ?_
  obtain ⟨t18, ht18, h⟩ := bE h
  refine q67 ht18 ?_
  refine q2 ?_
  refine q61 S33 ?_
  refine q13 ?_
  refine sq_nil <| avc_sq2 <| avc_sq2 <| avc_sq <| q0 ?_
  obtain ⟨t22, ht22, h⟩ := bE h
  refine q67 ht22 ?_
  refine q37 ?_
  refine sq_nil ?_
  obtain ⟨y1, hy1, h⟩ := bE h
  refine avc_tail (e := .normal) (S2 := ⟨[(4, .row 20)], [(20, .row 3 eI.size false (eI.all y1))]⟩) ?_ ?_
  ·
   refine ifM rfl hy1 (fun _ hy1 => ?_) (fun _ hy1 => ?_)
   ·
    refine avc_sq <| q9 ?_
    refine q0 ?_
    obtain ⟨t26, ht26, hy1⟩ := bE hy1
    refine q67 ht26 ?_
    refine q2 ?_
    refine q25 ?_
    refine q31 S33 ?_
    obtain ⟨r20_2, hr20_2, hy1⟩ := bE hy1
    refine sq_b rfl (m_append (en := eI) (l := [wi (4352 + t14), wi (4449 + t18)]) (m := [wi ((wi (4520 + t26)) - 1)]) (lq rfl) S33 rfl rfl rfl hr20_2 (by decide) (by decide) rfl rfl) ?_
    refine q13 ?_
    refine sq_nil ?_
    cases hy1
    exact out_mk (wc)
   ·
    refine avc_skip ?_
    cases hy1
    exact out_mk (wc)
  ·
   refine avc_sq2 <| avc_sq <| q9 ?_
   refine q13 ?_
   refine sq_nil ?_
   cases h
   refine avc_ret ?_
   exact ret_1 rfl
theorem ref21_lengths_c  {a0} {a1}  {r} (h : ref21_lengths a0 a1 = some r) : Contract Tryz.prog 67 [(dsl eMapping a0), (db a1)] [(dsl eI r)] := by
 refine contract_of Tryz.func67 (by kernel_rfl) rfl (lq rfl) (lq rfl) fun w0 I0 hI0 hG0 => ?_
 unfold ref21_lengths at h
 refine avc_sq2 <| avc_sq <| q1 ?_
 refine sq_nil <| avc_sq2 <| avc_sq <| q0 ?_
 refine q5 S23 ?_
 obtain ⟨r13, hr13, h⟩ := bE h
 refine sq_b rfl (m_make (en := eI) (lq rfl) S33 rfl rfl hr13 (by decide) rfl) ?_
 refine q13 ?_
 refine sq_nil <| avc_sq2 <| avc_sq2 <| avc_sq <| q1 ?_
 refine sq_nil <| avc_block ?_
 obtain ⟨y1, hy1, h⟩ := bE h
 refine avc_tail (e := (.exit 0)) (S2 := ⟨[(5, .row 13)], [(13, .row 3 eI.size false (eI.all y1))]⟩) ?_ ?_
 ·
  refine avc_loopM (fun x => ⟨[(0, .d (dsl eMapping a0)), (1, .d (db a1)), (5, .row 13), (6, .d (di x.1))], [(13, .row 3 eI.size false (eI.all x.2))]⟩) hy1 (wc) ?_
  rintro ⟨v6, r13⟩ sy1 hsy1
  replace hsy1 : ref21_lengths_L0 a0 a1 v6 r13 = some sy1 := hsy1
  unfold ref21_lengths_L0 at hsy1
  refine avc_sq2 <| avc_sq2 <| avc_sq <| q0 ?_
  refine q0 ?_
  refine q5 S23 ?_
  refine q3 ?_
  refine sq_nil ?_
  refine ifM rfl hsy1 (fun _ hsy1 => ?_) (fun _ hsy1 => ?_)
  ·
   refine avc_skip <| avc_sq2 <| avc_block <| avc_sq2 <| avc_sq <| q1 ?_
   refine sq_nil <| avc_block ?_
   obtain ⟨y2, hy2, hsy1⟩ := bE hsy1
   refine avc_tail (e := (.exit 2)) (S2 := ⟨[(0, .d (dsl eMapping a0)), (1, .d (db a1)), (5, .row 13), (6, .d (di v6))], [(13, .row 3 eI.size false (eI.all y2))]⟩) ?_ ?_
   ·
    refine avc_loopM (fun x => ⟨[(0, .d (dsl eMapping a0)), (1, .d (db a1)), (5, .row 13), (6, .d (di v6)), (7, .d (di x.1))], [(13, .row 3 eI.size false (eI.all x.2))]⟩) hy2 (wc) ?_
    rintro ⟨v7, r13⟩ sy2 hsy2
    replace hsy2 : ref21_lengths_L1 a0 a1 v7 r13 = some sy2 := hsy2
    unfold ref21_lengths_L1 at hsy2
    refine avc_sq2 <| avc_sq2 <| avc_sq <| q0 ?_
    refine q0 ?_
    refine q5 S23 ?_
    refine q3 ?_
    refine sq_nil ?_
    refine ifM rfl hsy2 (fun _ hsy2 => ?_) (fun _ hsy2 => ?_)
    ·
     refine avc_skip <| avc_sq2 ?_
     obtain ⟨y3, hy3, hsy2⟩ := bE hsy2
     refine avc_tail (e := .normal) (S2 := ⟨[(0, .d (dsl eMapping a0)), (1, .d (db a1)), (5, .row 13), (6, .d (di v6)), (7, .d (di v7))], [(13, .row 3 eI.size false (eI.all y3))]⟩) ?_ ?_
     ·
      refine avc_block <| avc_sq2 <| avc_sq <| q1 ?_
      refine sq_nil <| avc_sq2 <| avc_sq2 <| avc_sq <| q1 ?_
      refine sq_nil <| avc_block ?_
      obtain ⟨y4, hy4, hy3⟩ := bE hy3
      refine avc_tail (e := (.exit 4)) (S2 := ⟨[(0, .d (dsl eMapping a0)), (1, .d (db a1)), (5, .row 13), (6, .d (di v6)), (7, .d (di v7)), (8, .d (di y4))], [(13, .row 3 eI.size false (eI.all r13))]⟩) ?_ ?_
      ·
       refine avc_loopM (fun x => ⟨[(0, .d (dsl eMapping a0)), (1, .d (db a1)), (5, .row 13), (6, .d (di v6)), (7, .d (di v7)), (8, .d (di x.1)), (9, .d (di x.2))], [(13, .row 3 eI.size false (eI.all r13))]⟩) hy4 (wc) ?_
       rintro ⟨v8, v9⟩ sy4 hsy4
       replace hsy4 : ref21_lengths_L2 a0 v7 a1 r13 v8 v9 = some sy4 := hsy4
       unfold ref21_lengths_L2 at hsy4
       refine avc_sq2 <| avc_sq2 <| avc_sq <| q0 ?_
       refine q0 ?_
       refine q0 ?_
       obtain ⟨t29, ht29, hsy4⟩ := bE hsy4
       refine q11 S23 ht29 ?_
       refine q34 L103_1 ?_
       refine q65 O33 ht29 ?_
       refine q5 S33 ?_
       refine q3 ?_
       refine sq_nil ?_
       refine ifM rfl hsy4 (fun _ hsy4 => ?_) (fun _ hsy4 => ?_)
       ·
        refine avc_skip <| avc_sq2 ?_
        obtain ⟨y5, hy5, hsy4⟩ := bE hsy4
        refine avc_tail (e := .normal) (S2 := ⟨[(0, .d (dsl eMapping a0)), (1, .d (db a1)), (5, .row 13), (6, .d (di v6)), (7, .d (di v7)), (8, .d (di y5)), (9, .d (di v9))], [(13, .row 3 eI.size false (eI.all r13))]⟩) ?_ ?_
        ·
         refine avc_block <| avc_sq2 <| avc_sq <| q0 ?_
         refine q0 ?_
         refine q0 ?_
         obtain ⟨t39, ht39, hy5⟩ := bE hy5
         refine q11 S23 ht39 ?_
         refine q34 L103_1 ?_
         refine q65 O33 ht39 ?_
         refine q0 ?_
         obtain ⟨t43, ht43, hy5⟩ := bE hy5
         refine q11 S33 ht43 ?_
         refine q29 O3 ht43 ?_
         refine q0 ?_
         obtain ⟨t46, ht46, hy5⟩ := bE hy5
         refine q6 (ref21_find_c ht46) ?_
         refine q1 ?_
         refine sq_nil <| avc_sq2 <| avc_sq <| q0 ?_
         refine q30 ?_
         refine sq_nil ?_
         refine ifM rfl hy5 (fun _ hy5 => ?_) (fun _ hy5 => ?_)
         ·
          refine avc_sq <| q0 ?_
          refine q9 ?_
          refine q0 ?_
          obtain ⟨t52, ht52, hy5⟩ := bE hy5
          refine q57 S33 ht52 ?_
          refine sqa (m_loadER (en := eI) (l := r13) (i := t46) (v := t52) (off := 0) (lq rfl) O3 rfl rfl ht52 rfl) ?_
          refine q2 ?_
          refine q1 ?_
          refine sq_nil ?_
          cases hy5
          exact out_mk (wc)
         ·
          refine avc_sq <| q0 ?_
          refine q0 ?_
          refine q0 ?_
          obtain ⟨t58, ht58, hy5⟩ := bE hy5
          refine q11 S23 ht58 ?_
          refine q34 L103_1 ?_
          refine q65 O33 ht58 ?_
          refine q0 ?_
          obtain ⟨t62, ht62, hy5⟩ := bE hy5
          refine q11 S33 ht62 ?_
          refine q29 O3 ht62 ?_
          obtain ⟨t64, ht64, hy5⟩ := bE hy5
          refine q6 (ref19_Decompose_c ht64) ?_
          refine q5 S33 ?_
          refine q2 ?_
          refine q1 ?_
          refine sq_nil ?_
          cases hy5
          exact out_mk (wc)
        ·
         refine avc_sq <| q0 ?_
         refine q2 ?_
         refine q1 ?_
         refine sq_nil ?_
         cases hsy4
         exact wc
       ·
        refine avc_exit ?_
        cases hsy4
        intro q; cases q
        exact out_mk (wc)
      ·
       refine avc_sq2 <| avc_sq <| q9 ?_
       refine q0 ?_
       refine q0 ?_
       refine q129 ?_
       refine q103 ?_
       obtain ⟨t72, ht72, hy3⟩ := bE hy3
       refine q57 S33 ht72 ?_
       obtain ⟨r13_6, hr13_6, hy3⟩ := bE hy3
       refine sq_b rfl (m_store (en := eI) (l := r13) (i := v7) (v := t72) (off := 0) O3 rfl rfl rfl ht72 rfl (by decide) hr13_6 rfl rfl) ?_
       refine sq_nil <| avc_sq2 <| avc_sq <| q0 ?_
       refine q0 ?_
       obtain ⟨t75, ht75, hy3⟩ := bE hy3
       refine q11 S23 ht75 ?_
       refine q34 L103_2 ?_
       refine sqa (m_loadE (en := eMapping) (l := a0) (i := v7) (v := t75) (off := 2) (lq rfl) O9 rfl ht75 rfl) ?_
       refine q89 ?_
       obtain ⟨b79, hb79, hy3⟩ := bE hy3
       refine sqa ((a_move_d (lq rfl) rfl).bool (Option.some.inj hb79)) ?_
       refine q10 (.d (db a1)) ?_
       refine q84 (.d (db (!a1))) ?_
       refine q12 ?_
       refine sq_nil ?_
       refine ifM rfl hy3 (fun _ hy3 => ?_) (fun _ hy3 => ?_)
       ·
        refine avc_sq <| q9 ?_
        refine q0 ?_
        obtain ⟨t85, ht85, hy3⟩ := bE hy3
        refine q57 S33 ht85 ?_
        obtain ⟨r13_7, hr13_7, hy3⟩ := bE hy3
        refine sq_b rfl (m_store (en := eI) (l := r13_6) (i := v7) (v := t85) (off := 0) O3 rfl rfl rfl ht85 rfl (by decide) hr13_7 rfl rfl) ?_
        refine sq_nil ?_
        cases hy3
        exact out_mk (wc)
       ·
        refine avc_skip ?_
        cases hy3
        exact out_mk (wc)
     ·
      refine avc_sq <| q0 ?_
      refine q2 ?_
      refine q1 ?_
      refine sq_nil ?_
      cases hsy2
      exact wc
    ·
     refine avc_exit ?_
     cases hsy2
     intro q; cases q
     exact out_mk (wc)
   ·
    refine avc_sq <| q0 ?_
    refine q2 ?_
    refine q1 ?_
    refine sq_nil ?_
    cases hsy1
    exact wc
  ·
   refine avc_exit ?_
   cases hsy1
   intro q; cases q
   exact out_mk (wc)
 ·
  refine avc_sq2 <| avc_sq <| q9 ?_
  refine q13 ?_
  refine sq_nil ?_
  cases h
  refine avc_ret ?_
  exact ret_1 rfl
theorem ref21_Check_c  {a0}  {r} (h : ref21_Check a0 = some r) : Contract Tryz.prog 39 [(eNorm.dv a0)] [(di r)] := by
 refine contract_of Tryz.func39 (by kernel_rfl) rfl (lq rfl) (lq rfl) fun w0 I0 hI0 hG0 => ?_
 unfold ref21_Check at h
 refine avc_sq2 <| avc_sq <| q28 ?_
 refine q1 ?_
 refine sq_nil <| avc_sq2 <| avc_sq2 <| avc_sq <| q7 L28_0 ?_
 refine q8 O22 ?_
 obtain ⟨t16, ht16, h⟩ := bE h
 refine q6 (ref20_Check_c ht16) ?_
 refine q1 ?_
 refine sq_nil <| avc_sq2 <| avc_sq <| q0 ?_
 refine q27 ?_
 refine sq_nil ?_
 refine ifM rfl h (fun _ h => ?_) (fun _ h => ?_)
 ·
  refine avc_sq2 <| avc_sq <| q0 ?_
  refine q1 ?_
  refine sq_nil ?_
  cases h
  refine avc_ret ?_
  exact ret_1 rfl
 ·
  refine avc_skip <| avc_sq2 <| avc_sq2 <| avc_sq <| q7 L28_1 ?_
  refine q8 O23 ?_
  obtain ⟨t22, ht22, h⟩ := bE h
  refine q6 (ref11_Check_c ht22) ?_
  refine q1 ?_
  refine sq_nil <| avc_sq2 <| avc_sq <| q0 ?_
  refine q27 ?_
  refine sq_nil ?_
  refine ifM rfl h (fun _ h => ?_) (fun _ h => ?_)
  ·
   refine avc_sq2 <| avc_sq <| q0 ?_
   refine q1 ?_
   refine sq_nil ?_
   cases h
   refine avc_ret ?_
   exact ret_1 rfl
  ·
   refine avc_skip <| avc_sq2 <| avc_sq2 <| avc_sq <| q7 L28_2 ?_
   refine q70 G26 ?_
   obtain ⟨t28, ht28, h⟩ := bE h
   refine q6 (ref02_Valid_c ht28) ?_
   refine q22 ?_
   refine sq_nil ?_
   refine ifM rfl h (fun _ h => ?_) (fun _ h => ?_)
   ·
    refine avc_sq2 <| avc_sq <| q1 ?_
    refine sq_nil ?_
    cases h
    refine avc_ret ?_
    exact ret_1 rfl
   ·
    refine avc_skip <| avc_sq2 <| avc_sq <| q7 L28_1 ?_
    refine q8 O23 ?_
    refine q1 ?_
    refine sq_nil <| avc_sq2 <| avc_sq2 <| avc_sq <| q1 ?_
    refine sq_nil <| avc_block ?_
    obtain ⟨y1, hy1, h⟩ := bE h
    refine avc_tail2 y1 (.exit 0) (fun y1 => ⟨[(1, .d (.pt (eNorm.cells a0))), (5, .d (dsl eMapping a0.Decomp))], []⟩) .ret (fun y1 => ⟨[(2, .d (di y1))], []⟩) ?_ ?_ ?_
    ·
     refine avc_loopM (fun x => ⟨[(1, .d (.pt (eNorm.cells a0))), (5, .d (dsl eMapping a0.Decomp)), (6, .d (di x))], []⟩) hy1 (wc) ?_
     rintro v6 sy1 hsy1
     replace hsy1 : ref21_Check_L0 a0 v6 = some sy1 := hsy1
     unfold ref21_Check_L0 at hsy1
     refine avc_sq2 <| avc_sq2 <| avc_sq <| q0 ?_
     refine q0 ?_
     refine q5 S23 ?_
     refine q3 ?_
     refine sq_nil ?_
     refine ifM rfl hsy1 (fun _ hsy1 => ?_) (fun _ hsy1 => ?_)
     ·
      refine avc_skip <| avc_sq2 <| avc_block <| avc_sq2 <| avc_sq <| q0 ?_
      refine q0 ?_
      refine q0 ?_
      obtain ⟨t41, ht41, hsy1⟩ := bE hsy1
      refine q11 S23 ht41 ?_
      refine q34 L103_0 ?_
      refine sqa (m_loadE (en := eMapping) (l := a0.Decomp) (i := v6) (v := t41) (off := 0) (lq rfl) O3 rfl ht41 rfl) ?_
      obtain ⟨t44, ht44, hsy1⟩ := bE hsy1
      refine q6 (ref21_find_c ht44) ?_
      refine q0 ?_
      refine q3 ?_
      refine sq_nil ?_
      refine ifM rfl hsy1 (fun _ hsy1 => ?_) (fun _ hsy1 => ?_)
      ·
       refine avc_sq2 <| avc_sq <| q1 ?_
       refine sq_nil <| avc_ret ?_
       cases hsy1
       intro q; cases q
       exact ⟨rfl, wc⟩
      ·
       refine avc_skip <| avc_sq <| q0 ?_
       refine q2 ?_
       refine q1 ?_
       refine sq_nil ?_
       cases hsy1
       exact wc
     ·
      refine avc_exit ?_
      cases hsy1
      intro q; cases q
      exact ⟨rfl, wc⟩
    ·
     rintro y1 rfl
     replace h := eL h
     refine avc_sq2 <| avc_sq2 <| avc_sq <| q1 ?_
     refine sq_nil <| avc_block ?_
     obtain ⟨y2, hy2, h⟩ := bE h
     refine avc_tail2 y2 (.exit 2) (fun y2 => ⟨[(1, .d (.pt (eNorm.cells a0))), (5, .d (dsl eMapping a0.Decomp))], []⟩) .ret (fun y2 => ⟨[(2, .d (di y2))], []⟩) ?_ ?_ ?_
     ·
      refine avc_loopM (fun x => ⟨[(1, .d (.pt (eNorm.cells a0))), (5, .d (dsl eMapping a0.Decomp)), (7, .d (di x))], []⟩) hy2 (wc) ?_
      rintro v7 sy2 hsy2
      replace hsy2 : ref21_Check_L1 a0 v7 = some sy2 := hsy2
      unfold ref21_Check_L1 at hsy2
      refine avc_sq2 <| avc_sq2 <| avc_sq <| q0 ?_
      refine q0 ?_
      refine q5 S23 ?_
      refine q3 ?_
      refine sq_nil ?_
      refine ifM rfl hsy2 (fun _ hsy2 => ?_) (fun _ hsy2 => ?_)
      ·
       refine avc_skip <| avc_sq2 <| avc_block <| avc_sq2 <| avc_sq <| q0 ?_
       refine q0 ?_
       obtain ⟨t55, ht55, hsy2⟩ := bE hsy2
       refine q11 S23 ht55 ?_
       refine q34 L103_2 ?_
       refine sqa (m_loadE (en := eMapping) (l := a0.Decomp) (i := v7) (v := t55) (off := 2) (lq rfl) O9 rfl ht55 rfl) ?_
       refine sqa (m_seql (a := t55.Tag) (b := []) (lq rfl) rfl rfl) ?_
       obtain ⟨b59, hb59, hsy2⟩ := bE hsy2
       refine sqa ((a_move_d (lq rfl) rfl).bool (Option.some.inj hb59)) ?_
       refine q10 (.d (dsl eMapping a0.Decomp)) ?_
       refine q10 (.d (di v7)) ?_
       obtain ⟨t62, ht62, hsy2⟩ := bE hsy2
       refine q64 (.ip (eMapping.all a0.Decomp) (v7.toNat * eMapping.size)) S23 ht62 ?_
       refine q97 (.ip (eMapping.all a0.Decomp) (v7.toNat * eMapping.size + 1)) L103_1 ?_
       refine sqt (.d (dsl eI t62.To)) rfl (fun hb => by subst hb; exact m_loadE (en := eMapping) (l := a0.Decomp) (i := v7) (v := t62) (off := 1) (lq rfl) O33 rfl ht62 rfl) ?_
       refine q88 (.d (di (t62.To.length : Int))) S33 ?_
       refine q106 (.d (db (!decide ((t62.To.length : Int) = 1)))) ?_
       refine q12 ?_
       obtain ⟨b68, hb68, hsy2⟩ := bE hsy2
       refine sqa ((a_move_d (lq rfl) rfl).bool (Option.some.inj hb68)) ?_
       refine q10 (.d (dsl eMapping a0.Decomp)) ?_
       refine q10 (.d (di v7)) ?_
       obtain ⟨t71, ht71, hsy2⟩ := bE hsy2
       refine q64 (.ip (eMapping.all a0.Decomp) (v7.toNat * eMapping.size)) S23 ht71 ?_
       refine q97 (.ip (eMapping.all a0.Decomp) (v7.toNat * eMapping.size + 1)) L103_1 ?_
       refine sqt (.d (dsl eI t71.To)) rfl (fun hb => by subst hb; exact m_loadE (en := eMapping) (l := a0.Decomp) (i := v7) (v := t71) (off := 1) (lq rfl) O33 rfl ht71 rfl) ?_
       refine q88 (.d (di (t71.To.length : Int))) S33 ?_
       refine q106 (.d (db (!decide ((t71.To.length : Int) = 2)))) ?_
       refine q12 ?_
       refine sq_nil ?_
       refine ifM rfl hsy2 (fun _ hsy2 => ?_) (fun _ hsy2 => ?_)
       ·
        refine avc_sq2 <| avc_sq <| q1 ?_
        refine sq_nil <| avc_ret ?_
        cases hsy2
        intro q; cases q
        exact ⟨rfl, wc⟩
       ·
        refine avc_skip <| avc_sq <| q0 ?_
        refine q2 ?_
        refine q1 ?_
        refine sq_nil ?_
        cases hsy2
        exact wc
      ·
       refine avc_exit ?_
       cases hsy2
       intro q; cases q
       exact ⟨rfl, wc⟩
     ·
      rintro y2 rfl
      replace h := eL h
      refine avc_sq2 <| avc_sq2 <| avc_sq <| q1 ?_
      refine sq_nil <| avc_block ?_
      obtain ⟨y3, hy3, h⟩ := bE h
      refine avc_tail2 y3 (.exit 4) (fun y3 => ⟨[(5, .d (dsl eMapping a0.Decomp))], []⟩) .ret (fun y3 => ⟨[(2, .d (di y3))], []⟩) ?_ ?_ ?_
      ·
       refine avc_loopM (fun x => ⟨[(1, .d (.pt (eNorm.cells a0))), (5, .d (dsl eMapping a0.Decomp)), (8, .d (di x))], []⟩) hy3 (wc) ?_
       rintro v8 sy3 hsy3
       replace hsy3 : ref21_Check_L2 a0 v8 = some sy3 := hsy3
       unfold ref21_Check_L2 at hsy3
       refine avc_sq2 <| avc_sq2 <| avc_sq <| q0 ?_
       refine q0 ?_
       refine q5 S23 ?_
       refine q3 ?_
       refine sq_nil ?_
       refine ifM rfl hsy3 (fun _ hsy3 => ?_) (fun _ hsy3 => ?_)
       ·
        refine avc_skip <| avc_sq2 <| avc_block <| avc_sq2 ?_
        refine avc_drawA MX rfl ?_
        refine q4 ?_
        refine q4 ?_
        obtain ⟨t85, ht85, hsy3⟩ := bE hsy3
        refine q17 S23 ht85 ?_
        refine q35 L103_0 ?_
        refine q110 O3 ht85 ?_
        obtain ⟨t88, ht88, hsy3⟩ := bE hsy3
        refine q20 (ref19_Kind_c ht88) ?_
        refine daa (a_neq (lq rfl) rfl rfl) ?_
        obtain ⟨b90, hb90, hsy3⟩ := bE hsy3
        refine daa ((a_move_d (lq rfl) rfl).bool (Option.some.inj hb90)) ?_
        refine q36 (.d (dsl eMapping a0.Decomp)) ?_
        refine q36 (.d (di v8)) ?_
        obtain ⟨t93, ht93, hsy3⟩ := bE hsy3
        refine q59 (.ip (eMapping.all a0.Decomp) (v8.toNat * eMapping.size)) S23 ht93 ?_
        refine q60 (.ip (eMapping.all a0.Decomp) (v8.toNat * eMapping.size + 2)) L103_2 ?_
        refine daf (.d (ds t93.Tag)) rfl (fun hb => by subst hb; exact m_loadE (en := eMapping) (l := a0.Decomp) (i := v8) (v := t93) (off := 2) (lq rfl) O9 rfl ht93 rfl) ?_
        refine daf (.d (db (!(t93.Tag == [])))) rfl (fun hb => by subst hb; exact m_sneq (a := t93.Tag) (b := []) (lq rfl) rfl rfl) ?_
        obtain ⟨b97, hb97, hsy3⟩ := bE hsy3
        refine daf (.d (db b97)) rfl (fun hb => by subst hb; exact (a_move_d (lq rfl) rfl).bool (Option.some.inj hb97)) ?_
        refine da_g2 (x := .ip (eNorm.cells a0) (0 + 0)) rfl rfl rfl (lq rfl) (lq rfl) rfl (fun hb => by obtain ⟨hb, hb1⟩ := and_split hb; obtain rfl := gF hb; obtain rfl : b97 = true := hb1; exact m_fieldPt (lq rfl) L28_0 rfl) ?_
        refine da_g2 (x := .d (dsl eSpan a0.Classes)) rfl rfl rfl (lq rfl) (lq rfl) rfl (fun hb => by obtain ⟨hb, hb1⟩ := and_split hb; obtain rfl := gF hb; obtain rfl : b97 = true := hb1; exact a_load_ip (lq rfl) O22 rfl rfl) ?_
        refine da_g2 (x := .d (dsl eMapping a0.Decomp)) rfl rfl rfl (lq rfl) (lq rfl) rfl (fun hb => by obtain ⟨hb, hb1⟩ := and_split hb; obtain rfl := gF hb; obtain rfl : b97 = true := hb1; exact a_move_d (lq rfl) rfl) ?_
        refine da_g2 (x := .d (di v8)) rfl rfl rfl (lq rfl) (lq rfl) rfl (fun hb => by obtain ⟨hb, hb1⟩ := and_split hb; obtain rfl := gF hb; obtain rfl : b97 = true := hb1; exact a_move_d (lq rfl) rfl) ?_
        obtain ⟨t102, ht102, hsy3⟩ := bE hsy3
        refine da_g2 (x := .ip (eMapping.all a0.Decomp) (v8.toNat * eMapping.size)) rfl rfl rfl (lq rfl) (lq rfl) rfl (fun hb => by obtain ⟨hb, hb1⟩ := and_split hb; obtain rfl := gF hb; obtain rfl : b97 = true := hb1; exact m_index (en := eMapping) (lq rfl) S23 rfl rfl ht102) ?_
        refine da_g2 (x := .ip (eMapping.all a0.Decomp) (v8.toNat * eMapping.size + 0)) rfl rfl rfl (lq rfl) (lq rfl) rfl (fun hb => by obtain ⟨hb, hb1⟩ := and_split hb; obtain rfl := gF hb; obtain rfl : b97 = true := hb1; exact a_fieldAddr_ip (lq rfl) L103_0 rfl) ?_
        refine da_g2 (x := .d (di t102.From)) rfl rfl rfl (lq rfl) (lq rfl) rfl (fun hb => by obtain ⟨hb, hb1⟩ := and_split hb; obtain rfl := gF hb; obtain rfl : b97 = true := hb1; exact m_loadE (en := eMapping) (l := a0.Decomp) (i := v8) (v := t102) (off := 0) (lq rfl) O3 rfl ht102 rfl) ?_
        obtain ⟨t105, ht105, hsy3⟩ := bE hsy3
        refine da_g2 (x := .d (di t105)) rfl rfl rfl (lq rfl) (lq rfl) rfl (fun hb => by obtain ⟨hb, hb1⟩ := and_split hb; obtain rfl := gF hb; obtain rfl : b97 = true := hb1; exact a_call (lq rfl) rfl (ref20_Class_c ht105)) ?_
        refine da_g2 (x := .d (db (!decide (t105 = 0)))) rfl rfl rfl (lq rfl) (lq rfl) rfl (fun hb => by obtain ⟨hb, hb1⟩ := and_split hb; obtain rfl := gF hb; obtain rfl : b97 = true := hb1; exact a_neq (lq rfl) rfl rfl) ?_
        refine daf (.d (db (b97 && (!decide (t105 = 0))))) rfl (fun hb => by subst hb; exact a_pick_and (lq rfl) rfl rfl) ?_
        refine q76 ?_
        refine da_nil ?_
        refine ifM rfl hsy3 (fun _ hsy3 => ?_) (fun _ hsy3 => ?_)
        ·
         refine avc_sq2 <| avc_sq <| q1 ?_
         refine sq_nil <| avc_ret ?_
         cases hsy3
         intro q; cases q
         exact ⟨rfl, wc⟩
        ·
         refine avc_skip <| avc_sq <| q0 ?_
         refine q2 ?_
         refine q1 ?_
         refine sq_nil ?_
         cases hsy3
         exact wc
       ·
        refine avc_exit ?_
        cases hsy3
        intro q; cases q
        exact ⟨rfl, wc⟩
      ·
       rintro y3 rfl
       replace h := eL h
       refine avc_sq2 <| avc_sq <| q0 ?_
       obtain ⟨t110, ht110, h⟩ := bE h
       refine q6 (ref21_ends_c ht110) ?_
       refine q1 ?_
       refine sq_nil <| avc_sq2 <| avc_sq2 <| avc_sq <| q1 ?_
       refine sq_nil <| avc_block ?_
       obtain ⟨y4, hy4, h⟩ := bE h
       refine avc_tail2 y4 (.exit 6) (fun y4 => ⟨[(5, .d (dsl eMapping a0.Decomp))], []⟩) .ret (fun y4 => ⟨[(2, .d (di y4))], []⟩) ?_ ?_ ?_
       ·
        refine avc_loopM (fun x => ⟨[(5, .d (dsl eMapping a0.Decomp)), (9, .d (dsl eB t110)), (10, .d (di x))], []⟩) hy4 (wc) ?_
        rintro v10 sy4 hsy4
        replace hsy4 : ref21_Check_L3 a0 t110 v10 = some sy4 := hsy4
        unfold ref21_Check_L3 at hsy4
        refine avc_sq2 <| avc_sq2 <| avc_sq <| q0 ?_
        refine q0 ?_
        refine q5 S23 ?_
        refine q3 ?_
        refine sq_nil ?_
        refine ifM rfl hsy4 (fun _ hsy4 => ?_) (fun _ hsy4 => ?_)
        ·
         refine avc_skip <| avc_sq2 <| avc_block <| avc_sq2 <| avc_sq <| q0 ?_
         refine q0 ?_
         obtain ⟨t119, ht119, hsy4⟩ := bE hsy4
         refine q11 S104 ht119 ?_
         refine sqa (m_loadE (en := eB) (l := t110) (i := v10) (v := t119) (off := 0) (lq rfl) O4 rfl ht119 rfl) ?_
         refine q22 ?_
         refine sq_nil ?_
         refine ifM rfl hsy4 (fun _ hsy4 => ?_) (fun _ hsy4 => ?_)
         ·
          refine avc_sq2 <| avc_sq <| q1 ?_
          refine sq_nil <| avc_ret ?_
          cases hsy4
          intro q; cases q
          exact ⟨rfl, wc⟩
         ·
          refine avc_skip <| avc_sq <| q0 ?_
          refine q2 ?_
          refine q1 ?_
          refine sq_nil ?_
          cases hsy4
          exact wc
        ·
         refine avc_exit ?_
         cases hsy4
         intro q; cases q
         exact ⟨rfl, wc⟩
       ·
        rintro y4 rfl
        replace h := eL h
        refine avc_sq2 <| avc_sq <| q0 ?_
        obtain ⟨t123, ht123, h⟩ := bE h
        refine q6 (ref21_lengths_c ht123) ?_
        refine q0 ?_
        obtain ⟨t125, ht125, h⟩ := bE h
        refine q6 (ref21_lengths_c ht125) ?_
        refine q1 ?_
        refine q1 ?_
        refine sq_nil <| avc_sq2 <| avc_sq2 <| avc_sq <| q1 ?_
        refine sq_nil <| avc_block ?_
        obtain ⟨y5, hy5, h⟩ := bE h
        refine avc_tail2 y5 (.exit 8) (fun y5 => ⟨[], []⟩) .ret (fun y5 => ⟨[(2, .d (di y5))], []⟩) ?_ ?_ ?_
        ·
         refine avc_loopM (fun x => ⟨[(5, .d (dsl eMapping a0.Decomp)), (11, .d (dsl eI t123)), (12, .d (dsl eI t125)), (13, .d (di x))], []⟩) hy5 (wc) ?_
         rintro v13 sy5 hsy5
         replace hsy5 : ref21_Check_L4 a0 t123 t125 v13 = some sy5 := hsy5
         unfold ref21_Check_L4 at hsy5
         refine avc_sq2 <| avc_sq2 <| avc_sq <| q0 ?_
         refine q0 ?_
         refine q5 S23 ?_
         refine q3 ?_
         refine sq_nil ?_
         refine ifM rfl hsy5 (fun _ hsy5 => ?_) (fun _ hsy5 => ?_)
         ·
          refine avc_skip <| avc_sq2 <| avc_block <| avc_sq2 <| avc_sq <| q0 ?_
          refine q0 ?_
          obtain ⟨t134, ht134, hsy5⟩ := bE hsy5
          refine q11 S33 ht134 ?_
          refine q29 O3 ht134 ?_
          refine q37 ?_
          obtain ⟨b137, hb137, hsy5⟩ := bE hsy5
          refine sqa ((a_move_d (lq rfl) rfl).bool (Option.some.inj hb137)) ?_
          refine q32 (.d (dsl eI t125)) ?_
          refine q32 (.d (di v13)) ?_
          obtain ⟨t140, ht140, hsy5⟩ := bE hsy5
          refine q100 (.ip (eI.all t125) (v13.toNat * eI.size)) S33 ht140 ?_
          refine sqf (.d (di t140)) rfl (fun hb => by subst hb; exact m_loadE (en := eI) (l := t125) (i := v13) (v := t140) (off := 0) (lq rfl) O3 rfl ht140 rfl) ?_
          refine q46 (.d (db (decide (64 < t140)))) ?_
          refine q15 ?_
          refine sq_nil ?_
          refine ifM rfl hsy5 (fun _ hsy5 => ?_) (fun _ hsy5 => ?_)
          ·
           refine avc_sq2 <| avc_sq <| q1 ?_
           refine sq_nil <| avc_ret ?_
           cases hsy5
           intro q; cases q
           exact ⟨rfl, wc⟩
          ·
           refine avc_skip <| avc_sq <| q0 ?_
           refine q2 ?_
           refine q1 ?_
           refine sq_nil ?_
           cases hsy5
           exact wc
         ·
          refine avc_exit ?_
          cases hsy5
          intro q; cases q
          exact ⟨rfl, wc⟩
        ·
         rintro y5 rfl
         replace h := eL h
         refine avc_sq2 <| avc_sq <| q1 ?_
         refine sq_nil ?_
         cases h
         refine avc_ret ?_
         exact ret_1 rfl
        ·
         rintro y5 rfl
         replace h := eR h
         cases h
         exact ret_1 rfl
       ·
        rintro y4 rfl
        replace h := eR h
        cases h
        exact ret_1 rfl
      ·
       rintro y3 rfl
       replace h := eR h
       cases h
       exact ret_1 rfl
     ·
      rintro y2 rfl
      replace h := eR h
      cases h
      exact ret_1 rfl
    ·
     rintro y1 rfl
     replace h := eR h
     cases h
     exact ret_1 rfl
theorem ref21_Data_c  {a0}  {r} (h : ref21_Data a0 = some r) : Contract Tryz.prog 16 [(eNorm.dv a0)] [(eNorm.dv r)] := by
 refine contract_of Tryz.func16 (by kernel_rfl) rfl (lq rfl) (lq rfl) fun w0 I0 hI0 hG0 => ?_
 unfold ref21_Data at h
 refine avc_sq2 <| avc_sq <| q28 ?_
 refine q131 ?_
 refine sq_nil <| avc_sq2 <| avc_sq2 <| avc_sq <| q16 G28 ?_
 obtain ⟨t4, ht4, h⟩ := bE h
 refine q6 (ref21_Check_c ht4) ?_
 refine q27 ?_
 refine sq_nil ?_
 refine ifM rfl h (fun _ h => ?_) (fun _ h => ?_)
 ·
  refine avc_sq2 <| avc_sq ?_
  refine sqa ((m_build (lq rfl) B28 rfl rfl).nils (bs := eNorm.cells ({ Classes := [], Decomp := [], Excluded := (({ Ranges := [] }) : Set) } : Norm)) (nlN (nlN (nlN nl0)))) ?_
  refine q14 G28 ?_
  refine sq_nil ?_
  cases h
  refine avc_ret ?_
  exact ret_cellA rfl rfl G28 rfl
 ·
  refine avc_skip <| avc_sq2 <| avc_sq <| q16 G28 ?_
  refine q14 G28 ?_
  refine sq_nil ?_
  cases h
  refine avc_ret ?_
  exact ret_cellA rfl rfl G28 rfl
theorem ref43_find_c  {a0} {a1}  {r} (h : ref43_find a0 a1 = some r) : Contract Tryz.prog 34 [(eCollation.dv a0), (dsl eI a1)] [(dsl eElement r.1), (db r.2)] := by
 refine contract_of Tryz.func34 (by kernel_rfl) rfl (lq rfl) (lq rfl) fun w0 I0 hI0 hG0 => ?_
 unfold ref43_find at h
 refine avc_sq2 <| avc_sq <| q41 ?_
 refine q1 ?_
 refine q1 ?_
 refine sq_nil <| avc_sq2 <| avc_sq2 <| avc_sq <| q1 ?_
 refine sq_nil <| avc_block ?_
 obtain ⟨y1, hy1, h⟩ := bE h
 refine avc_tail2 y1 (.exit 0) (fun y1 => ⟨[], []⟩) .ret (fun y1 => ⟨[(4, .row 22), (5, .d (db y1.1))], [(22, .row 63 eElement.size false (eElement.all y1.2))]⟩) ?_ ?_ ?_
 ·
  refine avc_loopM (fun x => ⟨[(1, .d (dsl eI a1)), (2, .d (.pt (eCollation.cells a0))), (6, .d (di x))], []⟩) hy1 (wc) ?_
  rintro v6 sy1 hsy1
  replace hsy1 : ref43_find_L0 a0 a1 v6 = some sy1 := hsy1
  unfold ref43_find_L0 at hsy1
  refine avc_sq2 <| avc_sq2 <| avc_sq <| q0 ?_
  refine q7 L32_0 ?_
  refine q8 O29 ?_
  refine q5 S29 ?_
  refine q3 ?_
  refine sq_nil ?_
  refine ifM rfl hsy1 (fun _ hsy1 => ?_) (fun _ hsy1 => ?_)
  ·
   refine avc_skip <| avc_sq2 <| avc_block <| avc_sq2 <| avc_sq <| q7 L32_0 ?_
   refine q8 O29 ?_
   refine q0 ?_
   obtain ⟨t17, ht17, hsy1⟩ := bE hsy1
   refine q11 S29 ht17 ?_
   refine q34 L45_0 ?_
   refine sqa (m_loadE (en := eEntry) (l := a0.Entries) (i := v6) (v := t17) (off := 0) (lq rfl) O33 rfl ht17 rfl) ?_
   refine q0 ?_
   obtain ⟨t21, ht21, hsy1⟩ := bE hsy1
   refine q6 (ref01_Equal_c ht21) ?_
   refine sq_nil ?_
   refine ifM rfl hsy1 (fun _ hsy1 => ?_) (fun _ hsy1 => ?_)
   ·
    refine avc_sq2 <| avc_sq <| q61 S38 ?_
    refine q7 L32_0 ?_
    refine q8 O29 ?_
    refine q0 ?_
    obtain ⟨t26, ht26, hsy1⟩ := bE hsy1
    refine q11 S29 ht26 ?_
    refine q34 L45_1 ?_
    refine sqa (m_loadE (en := eEntry) (l := a0.Entries) (i := v6) (v := t26) (off := 1) (lq rfl) O38 rfl ht26 rfl) ?_
    obtain ⟨r22_2, hr22_2, hsy1⟩ := bE hsy1
    refine sq_b rfl (m_append (en := eElement) (l := []) (m := t26.Elements) (lq rfl) S38 rfl rfl rfl hr22_2 (by decide) (by decide) rfl rfl) ?_
    refine q13 ?_
    refine q1 ?_
    refine sq_nil <| avc_ret ?_
    cases hsy1
    intro q; cases q
    exact ⟨rfl, wc⟩
   ·
    refine avc_skip <| avc_sq <| q0 ?_
    refine q2 ?_
    refine q1 ?_
    refine sq_nil ?_
    cases hsy1
    exact wc
  ·
   refine avc_exit ?_
   cases hsy1
   intro q; cases q
   exact ⟨rfl, wc⟩
 ·
  rintro y1 rfl
  replace h := eL h
  refine avc_sq2 <| avc_sq <| q1 ?_
  refine q1 ?_
  refine sq_nil ?_
  refine avc_weak (weak_nil (t := 4) 1004 63 eElement.size (lq rfl) (lq rfl) rfl rfl) ?_
  cases h
  refine avc_ret ?_
  exact ret_two rfl rfl
 ·
  rintro y1 rfl
  replace h := eR h
  cases h
  exact ret_two rfl rfl
theorem ref20_Starter_c  {a0} {a1}  {r} (h : ref20_Starter a0 a1 = some r) : Contract Tryz.prog 15 [(dsl eSpan a0), (di a1)] [(db r)] := by
 refine contract_of Tryz.func15 (by kernel_rfl) rfl (lq rfl) (lq rfl) fun w0 I0 hI0 hG0 => ?_
 unfold ref20_Starter at h
 refine avc_sq2 <| avc_sq <| q1 ?_
 refine sq_nil <| avc_sq2 <| avc_sq <| q0 ?_
 refine q0 ?_
 obtain ⟨t7, ht7, h⟩ := bE h
 refine q6 (ref20_Class_c ht7) ?_
 refine q39 ?_
 refine q1 ?_
 refine sq_nil ?_
 cases h
 refine avc_ret ?_
 exact ret_1 rfl
theorem ref43_join_c  {a0} {a1}  {r} (h : ref43_join a0 a1 = some r) : Contract Tryz.prog 57 [(dsl eI a0), (di a1)] [(dsl eI r)] := by
 refine contract_of Tryz.func57 (by kernel_rfl) rfl (lq rfl) (lq rfl) fun w0 I0 hI0 hG0 => ?_
 unfold ref43_join at h
 refine avc_sq2 <| avc_sq <| q1 ?_
 refine sq_nil <| avc_sq2 <| avc_sq <| q61 S33 ?_
 refine q0 ?_
 obtain ⟨r5_1, hr5_1, h⟩ := bE h
 refine sq_b rfl (m_append (en := eI) (l := []) (m := a0) (lq rfl) S33 rfl rfl rfl hr5_1 (by decide) (by decide) rfl rfl) ?_
 refine q0 ?_
 refine q31 S33 ?_
 obtain ⟨r5_2, hr5_2, h⟩ := bE h
 refine sq_b rfl (m_append (en := eI) (l := r5_1) (m := [a1]) (lq rfl) S33 rfl rfl rfl hr5_2 (by decide) (by decide) rfl rfl) ?_
 refine q13 ?_
 refine sq_nil ?_
 cases h
 refine avc_ret ?_
 exact ret_1 rfl
theorem ref43_Matched_c  {a0} {a1} {a2}  {r} (h : ref43_Matched a0 a1 a2 = some r) : Contract Tryz.prog 32 [(dsl eSpan a0), (eCollation.dv a1), (dsl eI a2)] [(dsl eI r.1), (dsl eI r.2.1), (db r.2.2)] := by
 refine contract_of Tryz.func32 (by kernel_rfl) rfl (lq rfl) (lq rfl) fun w0 I0 hI0 hG0 => ?_
 unfold ref43_Matched at h
 refine avc_sq2 <| avc_sq <| q41 ?_
 refine q1 ?_
 refine q1 ?_
 refine q1 ?_
 refine sq_nil <| avc_sq2 <| avc_sq <| q1 ?_
 refine sq_nil <| avc_sq2 <| avc_sq2 <| avc_sq <| q1 ?_
 refine sq_nil <| avc_block ?_
 obtain ⟨y1, hy1, h⟩ := bE h
 refine avc_tail (e := (.exit 0)) (S2 := ⟨[(0, .d (dsl eSpan a0)), (2, .d (dsl eI a2)), (4, .d (.pt (eCollation.cells a1))), (9, .d (di y1))], []⟩) ?_ ?_
 ·
  refine avc_loopM (fun x => ⟨[(0, .d (dsl eSpan a0)), (2, .d (dsl eI a2)), (4, .d (.pt (eCollation.cells a1))), (9, .d (di x.1)), (10, .d (di x.2))], []⟩) hy1 (wc) ?_
  rintro ⟨v9, v10⟩ sy1 hsy1
  replace hsy1 : ref43_Matched_L0 a2 a1 v9 v10 = some sy1 := hsy1
  unfold ref43_Matched_L0 at hsy1
  refine avc_sq2 <| avc_sq2 <| avc_sq <| q0 ?_
  refine q0 ?_
  refine q5 S33 ?_
  refine q53 ?_
  refine sq_nil ?_
  refine ifM rfl hsy1 (fun _ hsy1 => ?_) (fun _ hsy1 => ?_)
  ·
   refine avc_skip <| avc_sq2 ?_
   obtain ⟨y2, hy2, hsy1⟩ := bE hsy1
   refine avc_tail (e := .normal) (S2 := ⟨[(0, .d (dsl eSpan a0)), (2, .d (dsl eI a2)), (4, .d (.pt (eCollation.cells a1))), (9, .d (di y2)), (10, .d (di v10))], []⟩) ?_ ?_
   ·
    refine avc_block <| avc_sq2 ?_
    refine avc_drawA MX rfl ?_
    refine q52 G32 ?_
    refine q4 ?_
    refine q4 ?_
    obtain ⟨t30, ht30, hy2⟩ := bE hy2
    refine daa (m_sliceH (en := eI) (lq rfl) S33 rfl rfl ht30) ?_
    obtain ⟨t31, ht31, hy2⟩ := bE hy2
    refine q20 (ref43_find_c ht31) ?_
    refine q130 ?_
    refine q68 ?_
    refine q68 ?_
    refine q26 ?_
    refine q26 ?_
    refine da_nil <| avc_sq2 <| avc_sq <| q0 ?_
    refine sq_nil ?_
    refine ifM rfl hy2 (fun _ hy2 => ?_) (fun _ hy2 => ?_)
    ·
     refine avc_sq <| q0 ?_
     refine q1 ?_
     refine sq_nil ?_
     cases hy2
     exact out_mk (wc)
    ·
     refine avc_skip ?_
     cases hy2
     exact out_mk (wc)
   ·
    refine avc_sq <| q0 ?_
    refine q2 ?_
    refine q1 ?_
    refine sq_nil ?_
    cases hsy1
    exact wc
  ·
   refine avc_exit ?_
   cases hsy1
   intro q; cases q
   exact out_mk (wc)
 ·
  refine avc_sq2 <| avc_sq2 <| avc_sq <| q0 ?_
  refine q39 ?_
  refine sq_nil ?_
  refine ifM rfl h (fun _ h => ?_) (fun _ h => ?_)
  ·
   refine avc_sq2 ?_
   refine avc_drawA MX rfl ?_
   refine q4 ?_
   obtain ⟨t39, ht39, h⟩ := bE h
   refine daa (m_sliceH (en := eI) (lq rfl) S33 rfl rfl ht39) ?_
   refine q4 ?_
   obtain ⟨t41, ht41, h⟩ := bE h
   refine daa (m_sliceL (en := eI) (lq rfl) S33 rfl rfl ht41) ?_
   refine q26 ?_
   refine q26 ?_
   refine q26 ?_
   refine da_nil ?_
   cases h
   refine avc_ret ?_
   exact ret_three rfl rfl rfl
  ·
   refine avc_skip <| avc_sq2 <| avc_sq <| q61 S33 ?_
   refine q0 ?_
   refine q0 ?_
   obtain ⟨t45, ht45, h⟩ := bE h
   refine sqa (m_sliceH (en := eI) (lq rfl) S33 rfl rfl ht45) ?_
   obtain ⟨r42_3, hr42_3, h⟩ := bE h
   refine sq_b rfl (m_append (en := eI) (l := []) (m := t45) (lq rfl) S33 rfl rfl rfl hr42_3 (by decide) (by decide) rfl rfl) ?_
   refine q13 ?_
   refine sq_nil ?_
   refine avc_weak (weak_row_d (t := 13) (lq rfl) rfl rfl) ?_
   refine avc_sq2 <| avc_sq <| q1 ?_
   refine sq_nil ?_
   refine avc_weak (weak_nil (t := 14) 1014 3 eI.size (lq rfl) (lq rfl) rfl rfl) ?_
   refine avc_sq2 <| avc_sq <| q1 ?_
   refine sq_nil <| avc_sq2 <| avc_sq <| q0 ?_
   refine q1 ?_
   refine sq_nil <| avc_sq2 <| avc_block ?_
   obtain ⟨y4, hy4, h⟩ := bE h
   refine avc_tail (e := (.exit 2)) (S2 := ⟨[(2, .d (dsl eI a2)), (13, .d (dsl eI y4.1)), (14, .row 1014), (16, .d (di y4.2.1))], [(1014, .row 3 eI.size false (eI.all y4.2.2))]⟩) ?_ ?_
   ·
    refine avc_loopM (fun x => ⟨[(0, .d (dsl eSpan a0)), (2, .d (dsl eI a2)), (4, .d (.pt (eCollation.cells a1))), (13, .d (dsl eI x.1)), (14, .row 1014), (15, .d (di x.2.1)), (16, .d (di x.2.2.1))], [(1014, .row 3 eI.size false (eI.all x.2.2.2))]⟩) hy4 (wc) ?_
    rintro ⟨v13, v15, v16, r1014⟩ sy4 hsy4
    replace hsy4 : ref43_Matched_L1 a2 a0 a1 v13 v15 v16 r1014 = some sy4 := hsy4
    unfold ref43_Matched_L1 at hsy4
    refine avc_sq2 <| avc_sq2 <| avc_sq <| q0 ?_
    refine q0 ?_
    refine q5 S33 ?_
    refine q3 ?_
    obtain ⟨b52, hb52, hsy4⟩ := bE hsy4
    refine sqa ((a_move_d (lq rfl) rfl).bool (Option.some.inj hb52)) ?_
    refine q10 (.d (dsl eSpan a0)) ?_
    refine q10 (.d (dsl eI a2)) ?_
    refine q10 (.d (di v16)) ?_
    obtain ⟨t56, ht56, hsy4⟩ := bE hsy4
    refine q64 (.ip (eI.all a2) (v16.toNat * eI.size)) S33 ht56 ?_
    refine sqt (.d (di t56)) rfl (fun hb => by subst hb; exact m_loadE (en := eI) (l := a2) (i := v16) (v := t56) (off := 0) (lq rfl) O3 rfl ht56 rfl) ?_
    obtain ⟨t58, ht58, hsy4⟩ := bE hsy4
    refine sqt (.d (db t58)) rfl (fun hb => by subst hb; exact a_call (lq rfl) rfl (ref20_Starter_c ht58)) ?_
    refine q84 (.d (db (!t58))) ?_
    refine q12 ?_
    refine sq_nil ?_
    refine ifM rfl hsy4 (fun _ hsy4 => ?_) (fun _ hsy4 => ?_)
    ·
     refine avc_skip <| avc_block <| avc_sq2 <| avc_sq <| q0 ?_
     refine q0 ?_
     refine q0 ?_
     obtain ⟨t64, ht64, hsy4⟩ := bE hsy4
     refine q11 S33 ht64 ?_
     refine q29 O3 ht64 ?_
     obtain ⟨t66, ht66, hsy4⟩ := bE hsy4
     refine q6 (ref20_Class_c ht66) ?_
     refine q1 ?_
     refine sq_nil <| avc_sq2 ?_
     refine avc_drawA MX rfl ?_
     refine q52 G32 ?_
     refine q4 ?_
     refine q4 ?_
     refine q4 ?_
     obtain ⟨t72, ht72, hsy4⟩ := bE hsy4
     refine q17 S33 ht72 ?_
     refine q51 O3 ht72 ?_
     obtain ⟨t74, ht74, hsy4⟩ := bE hsy4
     refine q20 (ref43_join_c ht74) ?_
     obtain ⟨t75, ht75, hsy4⟩ := bE hsy4
     refine q20 (ref43_find_c ht75) ?_
     refine q130 ?_
     refine q68 ?_
     refine q68 ?_
     refine q26 ?_
     refine q26 ?_
     refine da_nil <| avc_sq2 <| avc_sq2 <| avc_sq <| q0 ?_
     obtain ⟨b79, hb79, hsy4⟩ := bE hsy4
     refine sqa ((a_move_d (lq rfl) rfl).bool (Option.some.inj hb79)) ?_
     refine q10 (.d (di t66)) ?_
     refine q10 (.d (di v15)) ?_
     refine sqt (.d (db (decide (v15 < t66)))) rfl (fun hb => by subst hb; exact a_gtr (lq rfl) rfl rfl) ?_
     refine q12 ?_
     refine sq_nil ?_
     obtain ⟨y5, hy5, hsy4⟩ := bE hsy4
     refine avc_tail (e := .normal) (S2 := ⟨[(0, .d (dsl eSpan a0)), (2, .d (dsl eI a2)), (4, .d (.pt (eCollation.cells a1))), (13, .d (dsl eI y5.1)), (14, .row 1014), (15, .d (di y5.2.1)), (16, .d (di v16))], [(1014, .row 3 eI.size false (eI.all y5.2.2))]⟩) ?_ ?_
     ·
      refine ifM rfl hy5 (fun _ hy5 => ?_) (fun _ hy5 => ?_)
      ·
       refine avc_sq <| q0 ?_
       refine q0 ?_
       refine q0 ?_
       obtain ⟨t87, ht87, hy5⟩ := bE hy5
       refine q11 S33 ht87 ?_
       refine q29 O3 ht87 ?_
       obtain ⟨t89, ht89, hy5⟩ := bE hy5
       refine q6 (ref43_join_c ht89) ?_
       refine q1 ?_
       refine sq_nil ?_
       cases hy5
       exact out_mk (wc)
      ·
       refine avc_sq2 <| avc_sq <| q9 ?_
       refine q0 ?_
       refine q0 ?_
       obtain ⟨t93, ht93, hy5⟩ := bE hy5
       refine q11 S33 ht93 ?_
       refine q29 O3 ht93 ?_
       refine q31 S33 ?_
       obtain ⟨r1014_6, hr1014_6, hy5⟩ := bE hy5
       refine sq_b rfl (m_append (en := eI) (l := r1014) (m := [t93]) (lq rfl) S33 rfl rfl rfl hr1014_6 (by decide) (by decide) rfl rfl) ?_
       refine q13 ?_
       refine sq_nil <| avc_sq <| q0 ?_
       refine q0 ?_
       refine q129 ?_
       refine q1 ?_
       refine sq_nil ?_
       cases hy5
       exact out_mk (wc)
     ·
      refine avc_sq <| q0 ?_
      refine q2 ?_
      refine q1 ?_
      refine sq_nil ?_
      cases hsy4
      exact wc
    ·
     refine avc_exit ?_
     cases hsy4
     intro q; cases q
     exact out_mk (wc)
   ·
    refine avc_sq2 <| avc_sq <| q0 ?_
    refine q9 ?_
    refine q0 ?_
    refine q0 ?_
    obtain ⟨t106, ht106, h⟩ := bE h
    refine sqa (m_sliceL (en := eI) (lq rfl) S33 rfl rfl ht106) ?_
    obtain ⟨r1014_7, hr1014_7, h⟩ := bE h
    refine sq_b rfl (m_append (en := eI) (l := y4.2.2) (m := t106) (lq rfl) S33 rfl rfl rfl hr1014_7 (by decide) (by decide) rfl rfl) ?_
    refine q1 ?_
    refine q13 ?_
    refine q1 ?_
    refine sq_nil ?_
    cases h
    refine avc_ret ?_
    exact ret_three rfl rfl rfl
theorem ref43_Implicit_c  {a0} {a1}  {r} (h : ref43_Implicit a0 a1 = some r) : Contract Tryz.prog 33 [(eCollation.dv a0), (di a1)] [(dsl eElement r)] := by
 refine contract_of Tryz.func33 (by kernel_rfl) rfl (lq rfl) (lq rfl) fun w0 I0 hI0 hG0 => ?_
 unfold ref43_Implicit at h
 refine avc_sq2 <| avc_sq <| q41 ?_
 refine q1 ?_
 refine sq_nil <| avc_sq2 <| avc_sq2 <| avc_sq <| q0 ?_
 obtain ⟨t7, ht7, h⟩ := bE h
 refine q6 (ref01_Valid_c ht7) ?_
 refine q22 ?_
 refine sq_nil ?_
 refine ifM rfl h (fun _ h => ?_) (fun _ h => ?_)
 ·
  refine avc_sq2 <| avc_sq <| q1 ?_
  refine sq_nil ?_
  refine avc_weak (weak_nil_d (t := 4) eElement.size (lq rfl) rfl) ?_
  cases h
  refine avc_ret ?_
  exact ret_1 rfl
 ·
  refine avc_skip <| avc_sq2 <| avc_sq <| q16 G32 ?_
  obtain ⟨t10, ht10, h⟩ := bE h
  refine q6 (ref43_Data_c ht10) ?_
  refine q114 ?_
  refine q14 G32 ?_
  refine sq_nil ?_
  refine avc_weak (weak_freeze (t := 5) (lq rfl) rfl rfl rfl) ?_
  refine avc_sq2 <| avc_sq <| q7 L32_2 ?_
  refine q8 O3 ?_
  refine q0 ?_
  obtain ⟨t14, ht14, h⟩ := bE h
  refine q87 ht14 ?_
  refine q2 ?_
  refine q7 L32_3 ?_
  refine q8 O3 ?_
  refine q7 L32_4 ?_
  refine q8 O3 ?_
  refine q44 B63 ?_
  refine q0 ?_
  obtain ⟨t22, ht22, h⟩ := bE h
  refine q67 ht22 ?_
  refine q2 ?_
  refine q44 B63 ?_
  refine q31 S38 ?_
  refine q1 ?_
  refine sq_nil ?_
  cases h
  refine avc_ret ?_
  exact ret_1 rfl
theorem ref43_Step_c  {a0} {a1} {a2}  {r} (h : ref43_Step a0 a1 a2 = some r) : Contract Tryz.prog 10 [(eNorm.dv a0), (eCollation.dv a1), (dsl eI a2)] [(di r.1), (dsl eI r.2.1), (dsl eElement r.2.2)] := by
 refine contract_of Tryz.func10 (by kernel_rfl) rfl (lq rfl) (lq rfl) fun w0 I0 hI0 hG0 => ?_
 unfold ref43_Step at h
 refine avc_sq2 <| avc_sq <| q28 ?_
 refine q41 ?_
 refine q1 ?_
 refine q1 ?_
 refine q1 ?_
 refine sq_nil <| avc_sq2 <| avc_sq2 <| avc_sq <| q0 ?_
 refine q5 S33 ?_
 refine q39 ?_
 refine sq_nil ?_
 refine ifM rfl h (fun _ h => ?_) (fun _ h => ?_)
 ·
  refine avc_sq2 <| avc_sq <| q1 ?_
  refine q1 ?_
  refine q1 ?_
  refine sq_nil ?_
  refine avc_weak (weak_nil (t := 7) 1007 3 eI.size (lq rfl) (lq rfl) rfl rfl) ?_
  refine avc_weak (weak_nil_d (t := 8) eElement.size (lq rfl) rfl) ?_
  cases h
  refine avc_ret ?_
  exact ret_three rfl rfl rfl
 ·
  refine avc_skip <| avc_sq2 <| avc_sq <| q16 G32 ?_
  obtain ⟨t19, ht19, h⟩ := bE h
  refine q6 (ref43_Data_c ht19) ?_
  refine q114 ?_
  refine q14 G32 ?_
  refine sq_nil ?_
  refine avc_weak (weak_freeze (t := 9) (lq rfl) rfl rfl rfl) ?_
  refine avc_sq2 ?_
  refine avc_drawA MX rfl ?_
  refine q52 G28 ?_
  obtain ⟨t22, ht22, h⟩ := bE h
  refine q20 (ref21_Data_c ht22) ?_
  refine daa (a_field (lq rfl) L28_0 O22 rfl rfl) ?_
  refine q52 G32 ?_
  refine q4 ?_
  obtain ⟨t26, ht26, h⟩ := bE h
  refine q20 (ref43_Matched_c ht26) ?_
  refine q130 ?_
  refine q68 ?_
  refine q68 ?_
  refine q68 ?_
  refine q26 ?_
  refine q26 ?_
  refine q26 ?_
  refine da_nil <| avc_sq2 <| avc_sq <| q61 S33 ?_
  refine q0 ?_
  obtain ⟨r30_1, hr30_1, h⟩ := bE h
  refine sq_b rfl (m_append (en := eI) (l := []) (m := t26.2.1) (lq rfl) S33 rfl rfl rfl hr30_1 (by decide) (by decide) rfl rfl) ?_
  refine q13 ?_
  refine sq_nil <| avc_sq2 <| avc_sq2 <| avc_sq <| q0 ?_
  refine q22 ?_
  refine sq_nil ?_
  refine ifM rfl h (fun _ h => ?_) (fun _ h => ?_)
  ·
   refine avc_sq2 ?_
   refine avc_drawA MX rfl ?_
   refine q58 ?_
   refine q52 G32 ?_
   refine q4 ?_
   obtain ⟨t38, ht38, h⟩ := bE h
   refine q17 S33 ht38 ?_
   refine q51 O3 ht38 ?_
   obtain ⟨t40, ht40, h⟩ := bE h
   refine q20 (ref43_Implicit_c ht40) ?_
   refine q26 ?_
   refine daa (a_assign_row (lq rfl) rfl) ?_
   refine q26 ?_
   refine da_nil ?_
   cases h
   refine avc_ret ?_
   exact ret_three rfl rfl rfl
  ·
   refine avc_skip <| avc_sq2 <| avc_sq <| q16 G32 ?_
   refine q0 ?_
   obtain ⟨t44, ht44, h⟩ := bE h
   refine q6 (ref43_find_c ht44) ?_
   refine q43 ?_
   refine q18 ?_
   refine q18 ?_
   refine q1 ?_
   refine q1 ?_
   refine sq_nil <| avc_sq2 <| avc_sq <| q0 ?_
   refine q5 S33 ?_
   refine q9 ?_
   refine q0 ?_
   refine q1 ?_
   refine q13 ?_
   refine q1 ?_
   refine sq_nil ?_
   cases h
   refine avc_ret ?_
   exact ret_three rfl rfl rfl
set_option maxRecDepth 40000 in
theorem law43_ColltableSteps_c  {a0}  {r} (h : law43_ColltableSteps a0 = some r) : Contract Tryz.prog 3 [(eUnicodetextlaw43_Case.dv a0)] [(db r)] := by
 refine contract_of Tryz.func3 (by kernel_rfl) rfl (lq rfl) (lq rfl) fun w0 I0 hI0 hG0 => ?_
 unfold law43_ColltableSteps at h
 refine avc_sq2 <| avc_sq <| q117 ?_
 refine q1 ?_
 refine sq_nil <| avc_sq2 <| avc_sq2 <| avc_sq <| q16 G35 ?_
 obtain ⟨t10, ht10, h⟩ := bE h
 refine q6 (law43_few_c ht10) ?_
 refine q22 ?_
 refine sq_nil ?_
 refine ifM rfl h (fun _ h => ?_) (fun _ h => ?_)
 ·
  refine avc_sq2 <| avc_sq ?_
  obtain ⟨t12, ht12, h⟩ := bE h
  refine q6 (law43_alive_c ht12) ?_
  refine q1 ?_
  refine sq_nil ?_
  cases h
  refine avc_ret ?_
  exact ret_1 rfl
 ·
  refine avc_skip <| avc_sq2 <| avc_sq <| q7 L35_0 ?_
  refine q70 G28 ?_
  refine q7 L35_1 ?_
  refine q70 G32 ?_
  refine q7 L35_2 ?_
  refine q8 O33 ?_
  obtain ⟨t20, ht20, h⟩ := bE h
  refine q6 (colltable_Step_c ht20) ?_
  refine q43 ?_
  refine q18 ?_
  refine q18 ?_
  refine q18 ?_
  refine q1 ?_
  refine q1 ?_
  refine q1 ?_
  refine sq_nil <| avc_sq2 <| avc_sq <| q7 L35_0 ?_
  refine q70 G28 ?_
  refine q7 L35_1 ?_
  refine q70 G32 ?_
  refine q7 L35_2 ?_
  refine q8 O33 ?_
  obtain ⟨t31, ht31, h⟩ := bE h
  refine q6 (ref43_Step_c ht31) ?_
  refine q43 ?_
  refine q18 ?_
  refine q18 ?_
  refine q18 ?_
  refine q1 ?_
  refine q1 ?_
  refine q1 ?_
  refine sq_nil <| avc_sq2 <| avc_sq <| q0 ?_
  refine q0 ?_
  refine q39 ?_
  obtain ⟨b38, hb38, h⟩ := bE h
  refine sqa ((a_move_d (lq rfl) rfl).bool (Option.some.inj hb38)) ?_
  refine q10 (.d (dsl eI t20.2.1)) ?_
  refine q10 (.d (dsl eI t31.2.1)) ?_
  obtain ⟨t41, ht41, h⟩ := bE h
  refine sqt (.d (db t41)) rfl (fun hb => by subst hb; exact a_call (lq rfl) rfl (ref01_Equal_c ht41)) ?_
  refine q12 ?_
  obtain ⟨b43, hb43, h⟩ := bE h
  refine sqa ((a_move_d (lq rfl) rfl).bool (Option.some.inj hb43)) ?_
  refine q10 (.d (dsl eElement t20.2.2)) ?_
  refine q10 (.d (dsl eElement t31.2.2)) ?_
  obtain ⟨t46, ht46, h⟩ := bE h
  refine sqt (.d (db t46)) rfl (fun hb => by subst hb; exact a_call (lq rfl) rfl (ref43_Same_c ht46)) ?_
  refine q12 ?_
  obtain ⟨b48, hb48, h⟩ := bE h
  refine sqa ((a_move_d (lq rfl) rfl).bool (Option.some.inj hb48)) ?_
  obtain ⟨t49, ht49, h⟩ := bE h
  refine sqt (.d (db t49)) rfl (fun hb => by subst hb; exact a_call (lq rfl) rfl (law43_alive_c ht49)) ?_
  refine q12 ?_
  refine q1 ?_
  refine sq_nil ?_
  cases h
  refine avc_ret ?_
  exact ret_1 rfl
end Go.Proofs.YtgeaoceiacdadaaGreatDoor.Walk


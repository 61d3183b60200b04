/- Each function of the program answers as its plain counterpart does, where that answers. Conditions: none. -/
import Derived.Test.YtgeaoceiacdadaaDoorMir
import Derived.Test.YtgeaoceiacdadaaDoorProg
import Derived.Test.YtgeaoceiacdadaaDoorShelfD
import Derived.Shelf.SlSortCmp.NoneTotal
import Derived.Test.YtgeaoceiacdadaaDoorWk1
set_option linter.unusedSimpArgs false
set_option linter.unusedVariables false
set_option linter.unnecessarySimpa false
namespace Go.Proofs.YtgeaoceiacdadaaDoor.Walk
open Go.AV Go.M Go.RowKit Go.Proofs
theorem ref43_Check_c  {a0 : Collation}  {r : Int} (h : ref43_Check a0 = some r) : Contract Tryd.prog 10 [(eCollation.dv a0)] [(di r)] := by
 refine contract_of Tryd.func10 (by kernel_rfl) rfl (lq rfl) (lq rfl) fun w0 I0 hI0 hG0 => ?_
 unfold ref43_Check at h
 refine avc_sq2 <| avc_sq ?_
 refine sqa (m_box (size := 5) (lq rfl) rfl rfl) ?_
 refine sqa (a_assign_d (lq rfl) rfl) ?_
 refine sq_nil <| avc_sq2 <| avc_sq2 <| avc_sq ?_
 refine sqa (m_fieldPt (lq rfl) L25_2 rfl) ?_
 refine sqa (a_load_ip (lq rfl) O3 rfl rfl) ?_
 refine sqa (a_lss (lq rfl) rfl rfl) ?_
 obtain ⟨b9, hb9, h'⟩ := bE h; clear h
 refine sqa ((a_move_d (lq rfl) rfl).bool (Option.some.inj hb9)) ?_
 refine sq_g (x := .ip (eCollation.cells a0) (0 + 2)) rfl rfl rfl (lq rfl) (lq rfl) rfl (fun hb => by obtain rfl := gF hb; exact m_fieldPt (lq rfl) L25_2 rfl) ?_
 refine sq_g (x := .d (di a0.Base)) rfl rfl rfl (lq rfl) (lq rfl) rfl (fun hb => by obtain rfl := gF hb; exact a_load_ip (lq rfl) O3 rfl rfl) ?_
 refine sq_g (x := .d (db (decide (65502 < a0.Base)))) rfl rfl rfl (lq rfl) (lq rfl) rfl (fun hb => by obtain rfl := gF hb; exact a_gtr (lq rfl) rfl rfl) ?_
 refine sqa (a_pick_or (lq rfl) rfl rfl) ?_
 obtain ⟨b14, hb14, h⟩ := bE h'; clear h'
 refine sqa ((a_move_d (lq rfl) rfl).bool (Option.some.inj hb14)) ?_
 refine sq_g (x := .ip (eCollation.cells a0) (0 + 3)) rfl rfl rfl (lq rfl) (lq rfl) rfl (fun hb => by obtain rfl := gF hb; exact m_fieldPt (lq rfl) L25_3 rfl) ?_
 refine sq_g (x := .d (di a0.Second)) rfl rfl rfl (lq rfl) (lq rfl) rfl (fun hb => by obtain rfl := gF hb; exact a_load_ip (lq rfl) O3 rfl rfl) ?_
 obtain ⟨t17, ht17, h'⟩ := bE h; clear h
 refine sq_g (x := .d (db t17)) rfl rfl rfl (lq rfl) (lq rfl) rfl (fun hb => by obtain rfl := gF hb; exact a_call (lq rfl) rfl (ref43_weight_c ht17)) ?_
 refine sq_g (x := .d (db (!t17))) rfl rfl rfl (lq rfl) (lq rfl) rfl (fun hb => by obtain rfl := gF hb; exact a_not (lq rfl) rfl) ?_
 refine sqa (a_pick_or (lq rfl) rfl rfl) ?_
 obtain ⟨b20, hb20, h⟩ := bE h'; clear h'
 refine sqa ((a_move_d (lq rfl) rfl).bool (Option.some.inj hb20)) ?_
 refine sq_g (x := .ip (eCollation.cells a0) (0 + 4)) rfl rfl rfl (lq rfl) (lq rfl) rfl (fun hb => by obtain rfl := gF hb; exact m_fieldPt (lq rfl) L25_4 rfl) ?_
 refine sq_g (x := .d (di a0.Third)) rfl rfl rfl (lq rfl) (lq rfl) rfl (fun hb => by obtain rfl := gF hb; exact a_load_ip (lq rfl) O3 rfl rfl) ?_
 obtain ⟨t23, ht23, h'⟩ := bE h; clear h
 refine sq_g (x := .d (db t23)) rfl rfl rfl (lq rfl) (lq rfl) rfl (fun hb => by obtain rfl := gF hb; exact a_call (lq rfl) rfl (ref43_weight_c ht23)) ?_
 refine sq_g (x := .d (db (!t23))) rfl rfl rfl (lq rfl) (lq rfl) rfl (fun hb => by obtain rfl := gF hb; exact a_not (lq rfl) rfl) ?_
 refine sqa (a_pick_or (lq rfl) rfl rfl) ?_
 refine sq_nil ?_
 refine avc_if rfl ⟨fun c1 => ?_, fun c1 => ?_⟩
 ·
  replace h' := cT c1 h'
  refine avc_sq2 <| avc_sq ?_
  refine sqa (a_assign_d (lq rfl) rfl) ?_
  refine sq_nil ?_
  cases h'
  refine avc_ret ?_
  exact ret_1 rfl
 ·
  replace h' := cF c1 h'
  refine avc_skip <| avc_sq2 <| avc_sq2 <| avc_sq ?_
  refine sqa (m_loadPt (lq rfl) G25 rfl rfl) ?_
  obtain ⟨t27, ht27, h⟩ := bE h'; clear h'
  refine sqa (a_call (lq rfl) rfl (ref43_groups_c ht27)) ?_
  refine sqa (a_assign_d (lq rfl) rfl) ?_
  refine sq_nil <| avc_sq2 <| avc_sq ?_
  refine sqa (a_move_d (lq rfl) rfl) ?_
  refine sqa (a_neq (lq rfl) rfl rfl) ?_
  refine sq_nil ?_
  refine avc_if rfl ⟨fun c2 => ?_, fun c2 => ?_⟩
  ·
   replace h := cT c2 h
   refine avc_sq2 <| avc_sq ?_
   refine sqa (a_move_d (lq rfl) rfl) ?_
   refine sqa (a_assign_d (lq rfl) rfl) ?_
   refine sq_nil ?_
   cases h
   refine avc_ret ?_
   exact ret_1 rfl
  ·
   replace h := cF c2 h
   refine avc_skip <| avc_sq2 <| avc_sq2 <| avc_sq ?_
   refine sqa (a_assign_d (lq rfl) rfl) ?_
   refine sq_nil <| avc_block ?_
   obtain ⟨y1, hy1, h'⟩ := bE h; clear h
   rcases y1 with y1 | y1
   ·
    replace h' := eL h'
    refine avc_tail (e := .exit 0) (S2 := ⟨[], []⟩) ?_ ?_
    ·
     refine avc_loopM (fun x => ⟨[(1, .d (.pt (eCollation.cells a0))), (4, .d (di x))], []⟩) hy1 (weak_cov ⟨rfl, rfl, trivial⟩ trivial) ?_
     rintro v4 sy1 hsy1
     replace hsy1 : ref43_Check_L0 a0 v4 = some sy1 := hsy1
     unfold ref43_Check_L0 at hsy1
     refine avc_sq2 <| avc_sq2 <| avc_sq ?_
     refine sqa (a_move_d (lq rfl) rfl) ?_
     refine sqa (m_fieldPt (lq rfl) L25_0 rfl) ?_
     refine sqa (a_load_ip (lq rfl) O22 rfl rfl) ?_
     refine sqa (m_len (en := eEntry) (l := a0.Entries) (lq rfl) S22 rfl) ?_
     refine sqa (a_lss (lq rfl) rfl rfl) ?_
     refine sq_nil ?_
     refine avc_if rfl ⟨fun c3 => ?_, fun c3 => ?_⟩
     ·
      replace hsy1 := cT c3 hsy1
      refine avc_skip <| avc_sq2 <| avc_block <| avc_sq2 <| avc_sq ?_
      refine sqa (m_loadPt (lq rfl) G25 rfl rfl) ?_
      refine sqa (a_move_d (lq rfl) rfl) ?_
      obtain ⟨t40, ht40, hsy1'⟩ := bE hsy1; clear hsy1
      refine sqa (a_call (lq rfl) rfl (ref43_entry_c ht40)) ?_
      refine sqa (a_assign_d (lq rfl) rfl) ?_
      refine sq_nil <| avc_sq2 <| avc_sq ?_
      refine sqa (a_move_d (lq rfl) rfl) ?_
      refine sqa (a_neq (lq rfl) rfl rfl) ?_
      refine sq_nil ?_
      refine avc_if rfl ⟨fun c4 => ?_, fun c4 => ?_⟩
      ·
       replace hsy1' := cT c4 hsy1'
       refine avc_sq2 <| avc_sq ?_
       refine sqa (a_move_d (lq rfl) rfl) ?_
       refine sqa (a_assign_d (lq rfl) rfl) ?_
       refine sq_nil ?_
       refine avc_ret ?_
       cases hsy1'
       intro q; cases q
      ·
       replace hsy1' := cF c4 hsy1'
       refine avc_skip <| avc_sq ?_
       refine sqa (a_move_d (lq rfl) rfl) ?_
       refine sqa (m_add (lq rfl) rfl rfl) ?_
       refine sqa (a_assign_d (lq rfl) rfl) ?_
       refine sq_nil ?_
       cases hsy1'
       exact weak_cov ⟨rfl, rfl, trivial⟩ trivial
     ·
      replace hsy1 := cF c3 hsy1
      refine avc_exit ?_
      cases hsy1
      intro q; cases q
      exact out_mk (weak_cov trivial trivial)
    ·
     refine avc_sq2 <| avc_sq ?_
     refine sqa (a_assign_d (lq rfl) rfl) ?_
     refine sq_nil ?_
     cases h'
     refine avc_ret ?_
     exact ret_1 rfl
   ·
    replace h' := eR h'
    refine avc_tail (e := .ret) (S2 := ⟨[(2, .d (di y1))], []⟩) ?_ ?_
    ·
     refine avc_loopM (fun x => ⟨[(1, .d (.pt (eCollation.cells a0))), (4, .d (di x))], []⟩) hy1 (weak_cov ⟨rfl, rfl, trivial⟩ trivial) ?_
     rintro v4 sy1 hsy1
     replace hsy1 : ref43_Check_L0 a0 v4 = some sy1 := hsy1
     unfold ref43_Check_L0 at hsy1
     refine avc_sq2 <| avc_sq2 <| avc_sq ?_
     refine sqa (a_move_d (lq rfl) rfl) ?_
     refine sqa (m_fieldPt (lq rfl) L25_0 rfl) ?_
     refine sqa (a_load_ip (lq rfl) O22 rfl rfl) ?_
     refine sqa (m_len (en := eEntry) (l := a0.Entries) (lq rfl) S22 rfl) ?_
     refine sqa (a_lss (lq rfl) rfl rfl) ?_
     refine sq_nil ?_
     refine avc_if rfl ⟨fun c3 => ?_, fun c3 => ?_⟩
     ·
      replace hsy1 := cT c3 hsy1
      refine avc_skip <| avc_sq2 <| avc_block <| avc_sq2 <| avc_sq ?_
      refine sqa (m_loadPt (lq rfl) G25 rfl rfl) ?_
      refine sqa (a_move_d (lq rfl) rfl) ?_
      obtain ⟨t40, ht40, hsy1'⟩ := bE hsy1; clear hsy1
      refine sqa (a_call (lq rfl) rfl (ref43_entry_c ht40)) ?_
      refine sqa (a_assign_d (lq rfl) rfl) ?_
      refine sq_nil <| avc_sq2 <| avc_sq ?_
      refine sqa (a_move_d (lq rfl) rfl) ?_
      refine sqa (a_neq (lq rfl) rfl rfl) ?_
      refine sq_nil ?_
      refine avc_if rfl ⟨fun c4 => ?_, fun c4 => ?_⟩
      ·
       replace hsy1' := cT c4 hsy1'
       refine avc_sq2 <| avc_sq ?_
       refine sqa (a_move_d (lq rfl) rfl) ?_
       refine sqa (a_assign_d (lq rfl) rfl) ?_
       refine sq_nil ?_
       refine avc_ret ?_
       cases hsy1'
       intro q; cases q
       exact out_mk (weak_cov ⟨rfl, trivial⟩ trivial)
      ·
       replace hsy1' := cF c4 hsy1'
       refine avc_skip <| avc_sq ?_
       refine sqa (a_move_d (lq rfl) rfl) ?_
       refine sqa (m_add (lq rfl) rfl rfl) ?_
       refine sqa (a_assign_d (lq rfl) rfl) ?_
       refine sq_nil ?_
       cases hsy1'
       exact weak_cov ⟨rfl, rfl, trivial⟩ trivial
     ·
      replace hsy1 := cF c3 hsy1
      refine avc_exit ?_
      cases hsy1
      intro q; cases q
    ·
     cases h'
     exact ret_1 rfl

theorem slices_Clone_int_int_g {a0 r : (List Int)} (h : slices_Clone_int_int a0 = some r) : GC Tryd.prog 38 [.d (dsl eI a0)] [] [] [.row 5] [(5, .row 3 eI.size false (eI.all r))] := by
 unfold slices_Clone_int_int at h
 cases a0 with
 | nil =>
  refine gc_empty (by decide) fun B c => ?_
  refine gc_of Tryd.func38 (by kernel_rfl) rfl (lq rfl) (lq rfl) fun w0 I0 hG0 p0 => ?_
  refine avc_sq2 <| avc_sq ?_
  refine sqa (a_assign_d (lq rfl) rfl) ?_
  refine sq_nil <| avc_sq2 <| avc_sq2 <| avc_sq ?_
  refine sqa (a_move_d (lq rfl) rfl) ?_
  refine sqa (a_eqnil_v (lq rfl) Tryd.underlying30 rfl) ?_
  refine sq_nil ?_
  refine avc_if rfl ⟨fun c1 => ?_, fun c1 => ?_⟩
  ·
   obtain ⟨rfl, _⟩ := app_some h
   refine avc_sq2 <| avc_sq ?_
   refine sqa (a_assign_d (lq rfl) rfl) ?_
   refine sq_nil ?_
   refine avc_weak (weak_nil (t := 2) 5 3 eI.size (lq rfl) (lq rfl) rfl rfl) ?_
   refine avc_ret ?_
   exact ⟨⟨_, _, rfl, rfl, rfl⟩, rfl, trivial⟩
  ·
   refine avc_skip <| avc_sq2 <| avc_sq ?_
   refine sq_b rfl (step_buildSlice (lq rfl) S30 rfl rfl rfl rfl (by decide) rfl) ?_
   refine sqa (a_move_d (lq rfl) rfl) ?_
   refine sq_weak (weak_empty_d (t := 6) eI.size (lq rfl) rfl) ?_ (by simp)
   refine sq_b rfl (m_append (en := eI) (l := []) (m := []) (lq rfl) S30 rfl rfl rfl h (by decide) (by decide) rfl rfl) ?_
   refine sqa (a_assign_row (lq rfl) rfl) ?_
   refine sq_nil ?_
   refine avc_ret ?_
   exact ⟨⟨_, _, rfl, rfl, rfl⟩, rfl, trivial⟩
 | cons x l =>
  refine gc_of Tryd.func38 (by kernel_rfl) rfl (lq rfl) (lq rfl) fun w0 I0 hG0 p0 => ?_
  refine avc_sq2 <| avc_sq ?_
  refine sqa (a_assign_d (lq rfl) rfl) ?_
  refine sq_nil <| avc_sq2 <| avc_sq2 <| avc_sq ?_
  refine sqa (a_move_d (lq rfl) rfl) ?_
  refine sqa (a_eqnil (lq rfl) Tryd.underlying30 rfl (all_ne (by decide))) ?_
  refine sq_nil ?_
  refine avc_if rfl ⟨fun c1 => (by cases c1), fun c1 => ?_⟩
  refine avc_skip <| avc_sq2 <| avc_sq ?_
  refine sq_b rfl (step_buildSlice (lq rfl) S30 rfl rfl rfl rfl (by decide) rfl) ?_
  refine sqa (a_move_d (lq rfl) rfl) ?_
  refine sq_b rfl (m_append (en := eI) (l := []) (m := x :: l) (lq rfl) S30 rfl rfl rfl h (by decide) (by decide) rfl rfl) ?_
  refine sqa (a_assign_row (lq rfl) rfl) ?_
  refine sq_nil ?_
  refine avc_ret ?_
  exact ⟨⟨_, _, rfl, rfl, rfl⟩, rfl, trivial⟩

theorem colltable_keyOf_c  {a0 : (List Int)}  {r : A9Int} (h : colltable_keyOf a0 = some r) : Contract Tryd.prog 51 [(dsl eI a0)] [(eA9Int.dv r)] := by
 refine contract_of Tryd.func51 (by kernel_rfl) rfl (lq rfl) (lq rfl) fun w0 I0 hI0 hG0 => ?_
 unfold colltable_keyOf at h
 refine avc_sq2 <| avc_sq ?_
 refine sq_b rfl (step_alloc (zs := [(.int IntKind.i64 (0)), (.int IntKind.i64 (0)), (.int IntKind.i64 (0)), (.int IntKind.i64 (0)), (.int IntKind.i64 (0)), (.int IntKind.i64 (0)), (.int IntKind.i64 (0)), (.int IntKind.i64 (0)), (.int IntKind.i64 (0))]) (lq rfl) (by kernel_rfl) rfl rfl) ?_
 refine sq_nil <| avc_sq2 <| avc_sq ?_
 refine sqa (a_move_d (lq rfl) rfl) ?_
 refine sqa (m_len (en := eI) (l := a0) (lq rfl) S30 rfl) ?_
 refine sqa (m_abuild (lq rfl) A89 rfl rfl) ?_
 refine sq_b rfl (step_alloc (zs := [(.int IntKind.i64 (0)), (.int IntKind.i64 (0)), (.int IntKind.i64 (0)), (.int IntKind.i64 (0)), (.int IntKind.i64 (0)), (.int IntKind.i64 (0)), (.int IntKind.i64 (0)), (.int IntKind.i64 (0)), (.int IntKind.i64 (0))]) (lq rfl) (by kernel_rfl) rfl rfl) ?_
 refine sq_b rfl (s_store_boxA G89 rfl rfl rfl rfl rfl rfl) ?_
 refine sq_nil <| avc_sq2 <| avc_sq ?_
 refine sqa (a_slice_arr 1 (lq rfl) A89 rfl (by decide)) ?_
 refine sqa (a_move_d (lq rfl) rfl) ?_
 refine sq_b rfl (m_copy8 (l := a0) (lq rfl) S30 rfl rfl rfl rfl) ?_
 refine sq_nil <| avc_sq2 <| avc_sq ?_
 refine sqa ((a_load_boxA (lq rfl) G89 rfl rfl rfl rfl).data rfl) ?_
 refine sq_b rfl (s_store_boxA G89 rfl rfl rfl rfl rfl rfl) ?_
 refine sq_nil ?_
 cases h
 refine avc_ret ?_
 exact ret_cellA rfl rfl G89 rfl

theorem colltable_made_g  {a0 : Collation}  {r : Colltable_table} (h : colltable_made a0 = some r) : GC Tryd.prog 30 [.d (eCollation.dv a0)] [] [] [.ptr 13 0] [(13, .box 87 [.d (dsl eEntry r.c.Entries), .d (dsl eGroup r.c.Groups), .d (di r.c.Base), .d (di r.c.Second), .d (di r.c.Third), .row 11, .d (di r.longest), .d (dsl eSpan r.classes), .d (di r.top)]), (11, .map (mapE kA9Int (eL eElement) r.entries))] := by
 refine gc_of Tryd.func30 (by kernel_rfl) rfl (lq rfl) (lq rfl) fun w0 I0 hG0 p0 => ?_
 unfold colltable_made at h
 refine avc_sq2 <| avc_sq ?_
 refine sq_b rfl (s_box_agg (lq rfl) rfl rfl) ?_
 refine sqa (a_assign_d (lq rfl) rfl) ?_
 refine sq_nil <| avc_sq2 <| avc_sq2 <| avc_sq ?_
 refine sqa ((a_load_boxA (lq rfl) G25 rfl rfl rfl rfl).data rfl) ?_
 obtain ⟨t7, ht7, h'⟩ := bE h; clear h
 refine sqa (a_call (lq rfl) rfl (colltable_Check_c ht7)) ?_
 refine sqa (a_neq (lq rfl) rfl rfl) ?_
 refine sq_nil ?_
 obtain ⟨y1, hy1, h⟩ := bE h'; clear h'
 refine avc_tail (e := .normal) (S2 := ⟨[(1, .ptr 1 0)], [(1, .box 25 [.d (dsl eEntry y1.1), .d (dsl eGroup y1.2.1), .d (di y1.2.2.1), .d (di y1.2.2.2.1), .d (di y1.2.2.2.2)])]⟩) ?_ ?_
 ·
  refine avc_if rfl ⟨fun c1 => ?_, fun c1 => ?_⟩
  ·
   replace hy1 := cT c1 hy1
   refine avc_sq ?_
   refine sqa ((m_build (lq rfl) B25 rfl rfl).nils (bs := eCollation.cells ({ Entries := [], Groups := [], Base := 64448, Second := 32, Third := 2 } : Collation)) (nlN (nlN (nlE (nlE (nlE nl0)))))) ?_
   refine sq_b rfl (s_store_boxA G25 rfl rfl rfl rfl rfl rfl) ?_
   refine sq_nil ?_
   cases hy1
   exact out_mk (weak_cov ⟨rfl, trivial⟩ ⟨rfl, trivial⟩)
  ·
   replace hy1 := cF c1 hy1
   refine avc_skip ?_
   cases hy1
   exact out_mk (weak_cov ⟨rfl, trivial⟩ ⟨rfl, trivial⟩)
 ·
  refine avc_sq2 <| avc_sq ?_
  refine sqa ((a_load_boxA (lq rfl) G25 rfl rfl rfl rfl).data rfl) ?_
  refine sq_b rfl (m_makeMap (lq rfl) rfl) ?_
  refine sqa (m_buildR [(0, .tmp 10)] 1 (.tmp 11) (lq rfl) B87 rfl rfl rfl rfl rfl rfl) ?_
  refine sq_b rfl (s_box_aggc (lq rfl) rfl rfl) ?_
  refine sqa (a_assign_ptr (lq rfl) rfl) ?_
  refine sq_nil <| avc_sq2 <| avc_sq2 <| avc_sq ?_
  refine sqa (a_fieldAddr_ptr (lq rfl) L25_0 rfl) ?_
  refine sqa (a_load_box (lq rfl) O22 rfl rfl rfl) ?_
  refine sqa (m_len (en := eEntry) (l := y1.1) (lq rfl) S22 rfl) ?_
  refine sqa (a_move_d (lq rfl) rfl) ?_
  refine sq_nil <| avc_block ?_
  obtain ⟨y2, hy2, h'⟩ := bE h; clear h
  refine avc_tail (e := .exit 0) (S2 := ⟨[(3, .ptr 13 0)], [(11, .map (mapE kA9Int (eL eElement) y2.1)), (13, .box 87 [.d (dsl eEntry (({ Entries := y1.1, Groups := y1.2.1, Base := y1.2.2.1, Second := y1.2.2.2.1, Third := y1.2.2.2.2 } : Collation).Entries)), .d (dsl eGroup (({ Entries := y1.1, Groups := y1.2.1, Base := y1.2.2.1, Second := y1.2.2.2.1, Third := y1.2.2.2.2 } : Collation).Groups)), .d (di (({ Entries := y1.1, Groups := y1.2.1, Base := y1.2.2.1, Second := y1.2.2.2.1, Third := y1.2.2.2.2 } : Collation).Base)), .d (di (({ Entries := y1.1, Groups := y1.2.1, Base := y1.2.2.1, Second := y1.2.2.2.1, Third := y1.2.2.2.2 } : Collation).Second)), .d (di (({ Entries := y1.1, Groups := y1.2.1, Base := y1.2.2.1, Second := y1.2.2.2.1, Third := y1.2.2.2.2 } : Collation).Third)), .row 11, .d (di y2.2), .d (.v (.slice none 0 0)), .d (di 0)])]⟩) ?_ ?_
  ·
   refine avc_loopM (fun x => ⟨[(3, .ptr 13 0), (15, .d (dsl eEntry y1.1)), (16, .d (di (y1.1.length : Int))), (17, .d (di x.1))], [(11, .map (mapE kA9Int (eL eElement) x.2.1)), (13, .box 87 [.d (dsl eEntry (({ Entries := y1.1, Groups := y1.2.1, Base := y1.2.2.1, Second := y1.2.2.2.1, Third := y1.2.2.2.2 } : Collation).Entries)), .d (dsl eGroup (({ Entries := y1.1, Groups := y1.2.1, Base := y1.2.2.1, Second := y1.2.2.2.1, Third := y1.2.2.2.2 } : Collation).Groups)), .d (di (({ Entries := y1.1, Groups := y1.2.1, Base := y1.2.2.1, Second := y1.2.2.2.1, Third := y1.2.2.2.2 } : Collation).Base)), .d (di (({ Entries := y1.1, Groups := y1.2.1, Base := y1.2.2.1, Second := y1.2.2.2.1, Third := y1.2.2.2.2 } : Collation).Second)), .d (di (({ Entries := y1.1, Groups := y1.2.1, Base := y1.2.2.1, Second := y1.2.2.2.1, Third := y1.2.2.2.2 } : Collation).Third)), .row 11, .d (di x.2.2), .d (.v (.slice none 0 0)), .d (di 0)])]⟩) hy2 (weak_cov ⟨rfl, rfl, rfl, rfl, trivial⟩ ⟨rfl, rfl, trivial⟩) ?_
   rintro ⟨v17, r11, k13_6⟩ sy2 hsy2
   replace hsy2 : colltable_made_L0 y1 v17 r11 k13_6 = some sy2 := hsy2
   unfold colltable_made_L0 at hsy2
   refine avc_sq2 <| avc_sq ?_
   refine sqa (a_lss (lq rfl) rfl rfl) ?_
   refine sq_nil <| avc_sq2 ?_
   refine avc_if rfl ⟨fun c2 => ?_, fun c2 => ?_⟩
   ·
    replace hsy2 := cT c2 hsy2
    refine avc_skip <| avc_sq2 <| avc_block <| avc_sq2 <| avc_sq ?_
    obtain ⟨t19, ht19, hsy2'⟩ := bE hsy2; clear hsy2
    refine sqa (m_index (en := eEntry) (lq rfl) S22 rfl rfl ht19) ?_
    refine sqa (m_loadEA (en := eEntry) (l := y1.1) (i := v17) (v := t19) (off := 0) (lq rfl) G55 rfl ht19 rfl rfl (by decide)) ?_
    refine sq_b rfl (step_alloc (zs := [(.slice none 0 0), (.slice none 0 0)]) (lq rfl) (by kernel_rfl) rfl rfl) ?_
    refine sq_b rfl (s_store_boxA G55 rfl rfl rfl rfl rfl rfl) ?_
    refine sq_nil ?_
    refine avc_weak (weak_freeze (t := 5) (lq rfl) rfl rfl rfl) ?_
    refine avc_sq2 ?_
    refine avc_draw 9 MX rfl ?_
    refine daa (a_move_ptr (lq rfl) rfl) ?_
    refine daa (a_nil_ptr (lq rfl) rfl) ?_
    refine daa (a_fieldAddr_ptr (lq rfl) L87_1 rfl) ?_
    refine daa (a_load_box (lq rfl) O85 rfl rfl rfl) ?_
    refine daa (m_fieldPt (lq rfl) L55_0 rfl) ?_
    refine daa (a_load_ip (lq rfl) O30 rfl rfl) ?_
    obtain ⟨t27, ht27, hsy2⟩ := bE hsy2'; clear hsy2'
    refine daa (a_call (lq rfl) rfl (colltable_keyOf_c ht27)) ?_
    refine daa (m_fieldPt (lq rfl) L55_1 rfl) ?_
    refine daa (a_load_ip (lq rfl) O31 rfl rfl) ?_
    refine da_nil ?_
    refine sq_b rfl (m_mapUpdateK (kv := kA9Int) (ev := (eL eElement)) (mp := r11) (k := t27) (v := t19.Elements) M85 K89 rfl rfl rfl (kAgg rfl) rfl rfl rfl) ?_
    refine sq_nil ?_
    refine avc_draw 11 MX rfl ?_
    refine daa (a_move_ptr (lq rfl) rfl) ?_
    refine daa (a_move_ptr (lq rfl) rfl) ?_
    refine daa (a_nil_ptr (lq rfl) rfl) ?_
    refine daa (a_fieldAddr_ptr (lq rfl) L87_2 rfl) ?_
    refine daa (a_load_box (lq rfl) O3 rfl rfl rfl) ?_
    refine daa (m_fieldPt (lq rfl) L55_0 rfl) ?_
    refine daa (a_load_ip (lq rfl) O30 rfl rfl) ?_
    refine daa (m_len (en := eI) (l := t19.Codes) (lq rfl) S30 rfl) ?_
    refine daa (a_max (lq rfl) rfl rfl) ?_
    refine daa (a_nil_ptr (lq rfl) rfl) ?_
    refine daa (a_fieldAddr_ptr (lq rfl) L87_2 rfl) ?_
    refine da_nil ?_
    refine sq_b rfl (s_store_box_d O3 rfl rfl (lq rfl) rfl rfl rfl) ?_
    refine sq_nil <| avc_sq ?_
    refine sqa (m_add (lq rfl) rfl rfl) ?_
    refine sqa (a_move_d (lq rfl) rfl) ?_
    refine sq_nil ?_
    cases hsy2
    exact weak_cov ⟨rfl, rfl, rfl, rfl, trivial⟩ ⟨rfl, rfl, trivial⟩
   ·
    replace hsy2 := cF c2 hsy2
    refine avc_exit ?_
    cases hsy2
    intro q; cases q
    exact out_mk (weak_cov ⟨rfl, trivial⟩ ⟨rfl, rfl, trivial⟩)
  ·
   refine avc_sq2 <| avc_sq ?_
   refine sqa (a_move_ptr (lq rfl) rfl) ?_
   refine sqa (a_assign_ptr (lq rfl) rfl) ?_
   refine sq_nil ?_
   refine avc_weak (weak_nilbox_d (bid := 13) (off := 7) eSpan.size rfl rfl) ?_
   cases h'
   refine avc_ret ?_
   exact ⟨⟨_, _, rfl, rfl, rfl⟩, ⟨rfl, rfl, trivial⟩⟩

set_option maxHeartbeats 8000000 in
theorem ordering_Check_c  {a0 : (List Span)}  {r : Int} (h : ordering_Check a0 = some r) : Contract Tryd.prog 66 [(dsl eSpan a0)] [(di r)] := by
 refine contract_of Tryd.func66 (by kernel_rfl) rfl (lq rfl) (lq rfl) fun w0 I0 hI0 hG0 => ?_
 unfold ordering_Check at h
 refine avc_sq2 <| avc_sq ?_
 refine sqa (a_assign_d (lq rfl) rfl) ?_
 refine sq_nil <| avc_sq2 <| avc_sq2 <| avc_sq ?_
 refine sqa (a_move_d (lq rfl) rfl) ?_
 refine sqa (m_len (en := eSpan) (l := a0) (lq rfl) S37 rfl) ?_
 refine sqa (a_move_d (lq rfl) rfl) ?_
 refine sq_nil <| avc_block ?_
 obtain ⟨y1, hy1, h'⟩ := bE h; clear h
 rcases y1 with y1 | y1
 ·
  replace h' := eL h'
  refine avc_tail (e := .exit 0) (S2 := ⟨[(0, .d (dsl eSpan a0))], []⟩) ?_ ?_
  ·
   refine avc_loopM (fun x => ⟨[(0, .d (dsl eSpan a0)), (12, .d (dsl eSpan a0)), (13, .d (di (a0.length : Int))), (14, .d (di x))], []⟩) hy1 (weak_cov ⟨rfl, rfl, rfl, rfl, trivial⟩ trivial) ?_
   rintro v14 sy1 hsy1
   replace hsy1 : ordering_Check_L0 a0 v14 = some sy1 := hsy1
   unfold ordering_Check_L0 at hsy1
   refine avc_sq2 <| avc_sq ?_
   refine sqa (a_lss (lq rfl) rfl rfl) ?_
   refine sq_nil <| avc_sq2 ?_
   refine avc_if rfl ⟨fun c1 => ?_, fun c1 => ?_⟩
   ·
    replace hsy1 := cT c1 hsy1
    refine avc_skip <| avc_sq2 <| avc_block <| avc_sq2 <| avc_sq ?_
    obtain ⟨t16, ht16, hsy1'⟩ := bE hsy1; clear hsy1
    refine sqa (m_index (en := eSpan) (lq rfl) S37 rfl rfl ht16) ?_
    refine sqa (m_loadEA (en := eSpan) (l := a0) (i := v14) (v := t16) (off := 0) (lq rfl) G61 rfl ht16 rfl rfl (by decide)) ?_
    refine sq_b rfl (step_alloc (zs := [(.int IntKind.i64 (0)), (.int IntKind.i64 (0)), (.int IntKind.i64 (0))]) (lq rfl) (by kernel_rfl) rfl rfl) ?_
    refine sq_b rfl (s_store_boxA G61 rfl rfl rfl rfl rfl rfl) ?_
    refine sq_nil ?_
    refine avc_weak (weak_freeze (t := 4) (lq rfl) rfl rfl rfl) ?_
    refine avc_sq2 <| avc_sq ?_
    refine sqa (m_fieldPt (lq rfl) L61_0 rfl) ?_
    refine sqa (a_load_ip (lq rfl) O3 rfl rfl) ?_
    refine sqa (a_lss (lq rfl) rfl rfl) ?_
    obtain ⟨b21, hb21, hsy1⟩ := bE hsy1'; clear hsy1'
    refine sqa ((a_move_d (lq rfl) rfl).bool (Option.some.inj hb21)) ?_
    refine sq_g (x := .ip (eSpan.cells t16) (0 + 1)) rfl rfl rfl (lq rfl) (lq rfl) rfl (fun hb => by obtain rfl := gF hb; exact m_fieldPt (lq rfl) L61_1 rfl) ?_
    refine sq_g (x := .d (di t16.Hi)) rfl rfl rfl (lq rfl) (lq rfl) rfl (fun hb => by obtain rfl := gF hb; exact a_load_ip (lq rfl) O3 rfl rfl) ?_
    refine sq_g (x := .d (db (decide (1114111 < t16.Hi)))) rfl rfl rfl (lq rfl) (lq rfl) rfl (fun hb => by obtain rfl := gF hb; exact a_gtr (lq rfl) rfl rfl) ?_
    refine sqa (a_pick_or (lq rfl) rfl rfl) ?_
    obtain ⟨b26, hb26, hsy1'⟩ := bE hsy1; clear hsy1
    refine sqa ((a_move_d (lq rfl) rfl).bool (Option.some.inj hb26)) ?_
    refine sq_g (x := .ip (eSpan.cells t16) (0 + 0)) rfl rfl rfl (lq rfl) (lq rfl) rfl (fun hb => by obtain rfl := gF hb; exact m_fieldPt (lq rfl) L61_0 rfl) ?_
    refine sq_g (x := .d (di t16.Lo)) rfl rfl rfl (lq rfl) (lq rfl) rfl (fun hb => by obtain rfl := gF hb; exact a_load_ip (lq rfl) O3 rfl rfl) ?_
    refine sq_g (x := .ip (eSpan.cells t16) (0 + 1)) rfl rfl rfl (lq rfl) (lq rfl) rfl (fun hb => by obtain rfl := gF hb; exact m_fieldPt (lq rfl) L61_1 rfl) ?_
    refine sq_g (x := .d (di t16.Hi)) rfl rfl rfl (lq rfl) (lq rfl) rfl (fun hb => by obtain rfl := gF hb; exact a_load_ip (lq rfl) O3 rfl rfl) ?_
    refine sq_g (x := .d (db (decide (t16.Hi < t16.Lo)))) rfl rfl rfl (lq rfl) (lq rfl) rfl (fun hb => by obtain rfl := gF hb; exact a_gtr (lq rfl) rfl rfl) ?_
    refine sqa (a_pick_or (lq rfl) rfl rfl) ?_
    obtain ⟨b33, hb33, hsy1⟩ := bE hsy1'; clear hsy1'
    refine sqa ((a_move_d (lq rfl) rfl).bool (Option.some.inj hb33)) ?_
    refine sq_g (x := .ip (eSpan.cells t16) (0 + 2)) rfl rfl rfl (lq rfl) (lq rfl) rfl (fun hb => by obtain rfl := gF hb; exact m_fieldPt (lq rfl) L61_2 rfl) ?_
    refine sq_g (x := .d (di t16.Value)) rfl rfl rfl (lq rfl) (lq rfl) rfl (fun hb => by obtain rfl := gF hb; exact a_load_ip (lq rfl) O3 rfl rfl) ?_
    refine sq_g (x := .d (db (decide (t16.Value < 1)))) rfl rfl rfl (lq rfl) (lq rfl) rfl (fun hb => by obtain rfl := gF hb; exact a_lss (lq rfl) rfl rfl) ?_
    refine sqa (a_pick_or (lq rfl) rfl rfl) ?_
    obtain ⟨b38, hb38, hsy1'⟩ := bE hsy1; clear hsy1
    refine sqa ((a_move_d (lq rfl) rfl).bool (Option.some.inj hb38)) ?_
    refine sq_g (x := .ip (eSpan.cells t16) (0 + 2)) rfl rfl rfl (lq rfl) (lq rfl) rfl (fun hb => by obtain rfl := gF hb; exact m_fieldPt (lq rfl) L61_2 rfl) ?_
    refine sq_g (x := .d (di t16.Value)) rfl rfl rfl (lq rfl) (lq rfl) rfl (fun hb => by obtain rfl := gF hb; exact a_load_ip (lq rfl) O3 rfl rfl) ?_
    refine sq_g (x := .d (db (decide (254 < t16.Value)))) rfl rfl rfl (lq rfl) (lq rfl) rfl (fun hb => by obtain rfl := gF hb; exact a_gtr (lq rfl) rfl rfl) ?_
    refine sqa (a_pick_or (lq rfl) rfl rfl) ?_
    refine sq_nil ?_
    refine avc_if rfl ⟨fun c2 => ?_, fun c2 => ?_⟩
    ·
     replace hsy1' := cT c2 hsy1'
     refine avc_sq2 <| avc_sq ?_
     refine sqa (a_assign_d (lq rfl) rfl) ?_
     refine sq_nil ?_
     refine avc_ret ?_
     cases hsy1'
     intro q; cases q
    ·
     replace hsy1' := cF c2 hsy1'
     refine avc_skip <| avc_sq ?_
     refine sqa (m_add (lq rfl) rfl rfl) ?_
     refine sqa (a_move_d (lq rfl) rfl) ?_
     refine sq_nil ?_
     cases hsy1'
     exact weak_cov ⟨rfl, rfl, rfl, rfl, trivial⟩ trivial
   ·
    replace hsy1 := cF c1 hsy1
    refine avc_exit ?_
    cases hsy1
    intro q; cases q
    exact out_mk (weak_cov ⟨rfl, trivial⟩ trivial)
  ·
   refine avc_sq2 <| avc_sq2 <| avc_sq ?_
   refine sqa (a_assign_d (lq rfl) rfl) ?_
   refine sq_nil <| avc_block ?_
   obtain ⟨y2, hy2, h⟩ := bE h'; clear h'
   rcases y2 with y2 | y2
   ·
    replace h := eL h
    refine avc_tail (e := .exit 2) (S2 := ⟨[(0, .d (dsl eSpan a0))], []⟩) ?_ ?_
    ·
     refine avc_loopM (fun x => ⟨[(0, .d (dsl eSpan a0)), (5, .d (di x))], []⟩) hy2 (weak_cov ⟨rfl, rfl, trivial⟩ trivial) ?_
     rintro v5 sy2 hsy2
     replace hsy2 : ordering_Check_L1 a0 v5 = some sy2 := hsy2
     unfold ordering_Check_L1 at hsy2
     refine avc_sq2 <| avc_sq2 <| avc_sq ?_
     refine sqa (a_move_d (lq rfl) rfl) ?_
     refine sqa (a_move_d (lq rfl) rfl) ?_
     refine sqa (m_len (en := eSpan) (l := a0) (lq rfl) S37 rfl) ?_
     refine sqa (a_lss (lq rfl) rfl rfl) ?_
     refine sq_nil ?_
     refine avc_if rfl ⟨fun c3 => ?_, fun c3 => ?_⟩
     ·
      replace hsy2 := cT c3 hsy2
      refine avc_skip <| avc_sq2 <| avc_block <| avc_sq2 ?_
      obtain ⟨t53, ht53, hsy2'⟩ := bE hsy2; clear hsy2
      obtain ⟨t57, ht57, hsy2⟩ := bE hsy2'; clear hsy2'
      refine avc_tail (e := .normal) (S2 := ⟨[(0, .d (dsl eSpan a0)), (5, .d (di v5)), (6, .ptr 6 0), (7, .ptr 7 0)], [(6, .box 61 [.d (di t53.Lo), .d (di t53.Hi), .d (di t53.Value)]), (7, .box 61 [.d (di t57.Lo), .d (di t57.Hi), .d (di t57.Value)])]⟩) ?_ ?_
      ·
       refine avc_any MX ?_
       refine any_move (i := 0) rfl (lq rfl) rfl rfl rfl rfl ?_
       refine any_move (i := 1) rfl (lq rfl) rfl rfl rfl rfl ?_
       refine any_sub (i := 2) rfl (lq rfl) rfl rfl rfl rfl rfl rfl ?_
       refine any_index (en := eSpan) (i := 3) rfl (lq rfl) S37 rfl rfl ht53 rfl rfl rfl rfl ?_
       refine any_move (i := 5) rfl (lq rfl) rfl rfl rfl rfl ?_
       refine any_move (i := 6) rfl (lq rfl) rfl rfl rfl rfl ?_
       refine any_index (en := eSpan) (i := 7) rfl (lq rfl) S37 rfl rfl ht57 rfl rfl rfl rfl ?_
       refine any_n [4, 8, 9, 10] (by kernel_rfl) rfl ?_
       refine any_a (i := 4) rfl rfl (m_loadEA (en := eSpan) (l := a0) (i := (wi (v5 - 1))) (v := t53) (off := 0) (lq rfl) G61 rfl ht53 rfl rfl (by decide)) ?_ ?_
       ·
        refine any_n [8, 9, 10] (by kernel_rfl) rfl ?_
        refine any_a (i := 8) rfl rfl (m_loadEA (en := eSpan) (l := a0) (i := v5) (v := t57) (off := 0) (lq rfl) G61 rfl ht57 rfl rfl (by decide)) ?_ ?_
        ·
         refine any_n [9, 10] (by kernel_rfl) rfl ?_
         refine any_b (i := 9) rfl rfl (step_alloc (zs := [(.int IntKind.i64 (0)), (.int IntKind.i64 (0)), (.int IntKind.i64 (0))]) (lq rfl) (by kernel_rfl) rfl rfl) ?_ ?_
         ·
          refine any_n [10] (by kernel_rfl) rfl ?_
          refine any_b (i := 10) rfl rfl (step_alloc (zs := [(.int IntKind.i64 (0)), (.int IntKind.i64 (0)), (.int IntKind.i64 (0))]) (lq rfl) (by kernel_rfl) rfl rfl) ?_ ?_
          ·
           refine any_n [11] (by kernel_rfl) rfl ?_
           refine any_b (i := 11) rfl rfl (s_store_boxA G61 rfl rfl rfl rfl rfl rfl) ?_ ?_
           ·
            refine any_n [12] (by kernel_rfl) rfl ?_
            refine any_b (i := 12) rfl rfl (s_store_boxA G61 rfl rfl rfl rfl rfl rfl) ?_ ?_
            ·
             exact any_end rfl (out_mk (weak_cov ⟨rfl, rfl, rfl, rfl, trivial⟩ ⟨rfl, rfl, trivial⟩))
            ·
             exact any_nil
           ·
            exact any_nil
          ·
           exact any_nil
         refine any_b (i := 10) rfl rfl (step_alloc (zs := [(.int IntKind.i64 (0)), (.int IntKind.i64 (0)), (.int IntKind.i64 (0))]) (lq rfl) (by kernel_rfl) rfl rfl) ?_ ?_
         ·
          refine any_n [9] (by kernel_rfl) rfl ?_
          refine any_b (i := 9) rfl rfl (step_alloc (zs := [(.int IntKind.i64 (0)), (.int IntKind.i64 (0)), (.int IntKind.i64 (0))]) (lq rfl) (by kernel_rfl) rfl rfl) ?_ ?_
          ·
           refine any_n [11] (by kernel_rfl) rfl ?_
           refine any_b (i := 11) rfl rfl (s_store_boxA G61 rfl rfl rfl rfl rfl rfl) ?_ ?_
           ·
            refine any_n [12] (by kernel_rfl) rfl ?_
            refine any_b (i := 12) rfl rfl (s_store_boxA G61 rfl rfl rfl rfl rfl rfl) ?_ ?_
            ·
             exact any_end rfl (out_mk (weak_cov ⟨rfl, rfl, rfl, rfl, trivial⟩ ⟨rfl, rfl, trivial⟩))
            ·
             exact any_nil
           ·
            exact any_nil
          ·
           exact any_nil
         exact any_nil
        refine any_b (i := 9) rfl rfl (step_alloc (zs := [(.int IntKind.i64 (0)), (.int IntKind.i64 (0)), (.int IntKind.i64 (0))]) (lq rfl) (by kernel_rfl) rfl rfl) ?_ ?_
        ·
         refine any_n [8, 10] (by kernel_rfl) rfl ?_
         refine any_a (i := 8) rfl rfl (m_loadEA (en := eSpan) (l := a0) (i := v5) (v := t57) (off := 0) (lq rfl) G61 rfl ht57 rfl rfl (by decide)) ?_ ?_
         ·
          refine any_n [10] (by kernel_rfl) rfl ?_
          refine any_b (i := 10) rfl rfl (step_alloc (zs := [(.int IntKind.i64 (0)), (.int IntKind.i64 (0)), (.int IntKind.i64 (0))]) (lq rfl) (by kernel_rfl) rfl rfl) ?_ ?_
          ·
           refine any_n [11] (by kernel_rfl) rfl ?_
           refine any_b (i := 11) rfl rfl (s_store_boxA G61 rfl rfl rfl rfl rfl rfl) ?_ ?_
           ·
            refine any_n [12] (by kernel_rfl) rfl ?_
            refine any_b (i := 12) rfl rfl (s_store_boxA G61 rfl rfl rfl rfl rfl rfl) ?_ ?_
            ·
             exact any_end rfl (out_mk (weak_cov ⟨rfl, rfl, rfl, rfl, trivial⟩ ⟨rfl, rfl, trivial⟩))
            ·
             exact any_nil
           ·
            exact any_nil
          ·
           exact any_nil
         refine any_b (i := 10) rfl rfl (step_alloc (zs := [(.int IntKind.i64 (0)), (.int IntKind.i64 (0)), (.int IntKind.i64 (0))]) (lq rfl) (by kernel_rfl) rfl rfl) ?_ ?_
         ·
          refine any_n [8, 11] (by kernel_rfl) rfl ?_
          refine any_a (i := 8) rfl rfl (m_loadEA (en := eSpan) (l := a0) (i := v5) (v := t57) (off := 0) (lq rfl) G61 rfl ht57 rfl rfl (by decide)) ?_ ?_
          ·
           refine any_n [11] (by kernel_rfl) rfl ?_
           refine any_b (i := 11) rfl rfl (s_store_boxA G61 rfl rfl rfl rfl rfl rfl) ?_ ?_
           ·
            refine any_n [12] (by kernel_rfl) rfl ?_
            refine any_b (i := 12) rfl rfl (s_store_boxA G61 rfl rfl rfl rfl rfl rfl) ?_ ?_
            ·
             exact any_end rfl (out_mk (weak_cov ⟨rfl, rfl, rfl, rfl, trivial⟩ ⟨rfl, rfl, trivial⟩))
            ·
             exact any_nil
           ·
            exact any_nil
          refine any_b (i := 11) rfl rfl (s_store_boxA G61 rfl rfl rfl rfl rfl rfl) ?_ ?_
          ·
           refine any_n [8] (by kernel_rfl) rfl ?_
           refine any_a (i := 8) rfl rfl (m_loadEA (en := eSpan) (l := a0) (i := v5) (v := t57) (off := 0) (lq rfl) G61 rfl ht57 rfl rfl (by decide)) ?_ ?_
           ·
            refine any_n [12] (by kernel_rfl) rfl ?_
            refine any_b (i := 12) rfl rfl (s_store_boxA G61 rfl rfl rfl rfl rfl rfl) ?_ ?_
            ·
             exact any_end rfl (out_mk (weak_cov ⟨rfl, rfl, rfl, rfl, trivial⟩ ⟨rfl, rfl, trivial⟩))
            ·
             exact any_nil
           ·
            exact any_nil
          exact any_nil
         exact any_nil
        refine any_b (i := 10) rfl rfl (step_alloc (zs := [(.int IntKind.i64 (0)), (.int IntKind.i64 (0)), (.int IntKind.i64 (0))]) (lq rfl) (by kernel_rfl) rfl rfl) ?_ ?_
        ·
         refine any_n [8, 9] (by kernel_rfl) rfl ?_
         refine any_a (i := 8) rfl rfl (m_loadEA (en := eSpan) (l := a0) (i := v5) (v := t57) (off := 0) (lq rfl) G61 rfl ht57 rfl rfl (by decide)) ?_ ?_
         ·
          refine any_n [9] (by kernel_rfl) rfl ?_
          refine any_b (i := 9) rfl rfl (step_alloc (zs := [(.int IntKind.i64 (0)), (.int IntKind.i64 (0)), (.int IntKind.i64 (0))]) (lq rfl) (by kernel_rfl) rfl rfl) ?_ ?_
          ·
           refine any_n [11] (by kernel_rfl) rfl ?_
           refine any_b (i := 11) rfl rfl (s_store_boxA G61 rfl rfl rfl rfl rfl rfl) ?_ ?_
           ·
            refine any_n [12] (by kernel_rfl) rfl ?_
            refine any_b (i := 12) rfl rfl (s_store_boxA G61 rfl rfl rfl rfl rfl rfl) ?_ ?_
            ·
             exact any_end rfl (out_mk (weak_cov ⟨rfl, rfl, rfl, rfl, trivial⟩ ⟨rfl, rfl, trivial⟩))
            ·
             exact any_nil
           ·
            exact any_nil
          ·
           exact any_nil
         refine any_b (i := 9) rfl rfl (step_alloc (zs := [(.int IntKind.i64 (0)), (.int IntKind.i64 (0)), (.int IntKind.i64 (0))]) (lq rfl) (by kernel_rfl) rfl rfl) ?_ ?_
         ·
          refine any_n [8, 11] (by kernel_rfl) rfl ?_
          refine any_a (i := 8) rfl rfl (m_loadEA (en := eSpan) (l := a0) (i := v5) (v := t57) (off := 0) (lq rfl) G61 rfl ht57 rfl rfl (by decide)) ?_ ?_
          ·
           refine any_n [11] (by kernel_rfl) rfl ?_
           refine any_b (i := 11) rfl rfl (s_store_boxA G61 rfl rfl rfl rfl rfl rfl) ?_ ?_
           ·
            refine any_n [12] (by kernel_rfl) rfl ?_
            refine any_b (i := 12) rfl rfl (s_store_boxA G61 rfl rfl rfl rfl rfl rfl) ?_ ?_
            ·
             exact any_end rfl (out_mk (weak_cov ⟨rfl, rfl, rfl, rfl, trivial⟩ ⟨rfl, rfl, trivial⟩))
            ·
             exact any_nil
           ·
            exact any_nil
          refine any_b (i := 11) rfl rfl (s_store_boxA G61 rfl rfl rfl rfl rfl rfl) ?_ ?_
          ·
           refine any_n [8] (by kernel_rfl) rfl ?_
           refine any_a (i := 8) rfl rfl (m_loadEA (en := eSpan) (l := a0) (i := v5) (v := t57) (off := 0) (lq rfl) G61 rfl ht57 rfl rfl (by decide)) ?_ ?_
           ·
            refine any_n [12] (by kernel_rfl) rfl ?_
            refine any_b (i := 12) rfl rfl (s_store_boxA G61 rfl rfl rfl rfl rfl rfl) ?_ ?_
            ·
             exact any_end rfl (out_mk (weak_cov ⟨rfl, rfl, rfl, rfl, trivial⟩ ⟨rfl, rfl, trivial⟩))
            ·
             exact any_nil
           ·
            exact any_nil
          exact any_nil
         exact any_nil
        exact any_nil
       refine any_a (i := 8) rfl rfl (m_loadEA (en := eSpan) (l := a0) (i := v5) (v := t57) (off := 0) (lq rfl) G61 rfl ht57 rfl rfl (by decide)) ?_ ?_
       ·
        refine any_n [4, 9, 10] (by kernel_rfl) rfl ?_
        refine any_a (i := 4) rfl rfl (m_loadEA (en := eSpan) (l := a0) (i := (wi (v5 - 1))) (v := t53) (off := 0) (lq rfl) G61 rfl ht53 rfl rfl (by decide)) ?_ ?_
        ·
         refine any_n [9, 10] (by kernel_rfl) rfl ?_
         refine any_b (i := 9) rfl rfl (step_alloc (zs := [(.int IntKind.i64 (0)), (.int IntKind.i64 (0)), (.int IntKind.i64 (0))]) (lq rfl) (by kernel_rfl) rfl rfl) ?_ ?_
         ·
          refine any_n [10] (by kernel_rfl) rfl ?_
          refine any_b (i := 10) rfl rfl (step_alloc (zs := [(.int IntKind.i64 (0)), (.int IntKind.i64 (0)), (.int IntKind.i64 (0))]) (lq rfl) (by kernel_rfl) rfl rfl) ?_ ?_
          ·
           refine any_n [11] (by kernel_rfl) rfl ?_
           refine any_b (i := 11) rfl rfl (s_store_boxA G61 rfl rfl rfl rfl rfl rfl) ?_ ?_
           ·
            refine any_n [12] (by kernel_rfl) rfl ?_
            refine any_b (i := 12) rfl rfl (s_store_boxA G61 rfl rfl rfl rfl rfl rfl) ?_ ?_
            ·
             exact any_end rfl (out_mk (weak_cov ⟨rfl, rfl, rfl, rfl, trivial⟩ ⟨rfl, rfl, trivial⟩))
            ·
             exact any_nil
           ·
            exact any_nil
          ·
           exact any_nil
         refine any_b (i := 10) rfl rfl (step_alloc (zs := [(.int IntKind.i64 (0)), (.int IntKind.i64 (0)), (.int IntKind.i64 (0))]) (lq rfl) (by kernel_rfl) rfl rfl) ?_ ?_
         ·
          refine any_n [9] (by kernel_rfl) rfl ?_
          refine any_b (i := 9) rfl rfl (step_alloc (zs := [(.int IntKind.i64 (0)), (.int IntKind.i64 (0)), (.int IntKind.i64 (0))]) (lq rfl) (by kernel_rfl) rfl rfl) ?_ ?_
          ·
           refine any_n [11] (by kernel_rfl) rfl ?_
           refine any_b (i := 11) rfl rfl (s_store_boxA G61 rfl rfl rfl rfl rfl rfl) ?_ ?_
           ·
            refine any_n [12] (by kernel_rfl) rfl ?_
            refine any_b (i := 12) rfl rfl (s_store_boxA G61 rfl rfl rfl rfl rfl rfl) ?_ ?_
            ·
             exact any_end rfl (out_mk (weak_cov ⟨rfl, rfl, rfl, rfl, trivial⟩ ⟨rfl, rfl, trivial⟩))
            ·
             exact any_nil
           ·
            exact any_nil
          ·
           exact any_nil
         exact any_nil
        refine any_b (i := 9) rfl rfl (step_alloc (zs := [(.int IntKind.i64 (0)), (.int IntKind.i64 (0)), (.int IntKind.i64 (0))]) (lq rfl) (by kernel_rfl) rfl rfl) ?_ ?_
        ·
         refine any_n [4, 10] (by kernel_rfl) rfl ?_
         refine any_a (i := 4) rfl rfl (m_loadEA (en := eSpan) (l := a0) (i := (wi (v5 - 1))) (v := t53) (off := 0) (lq rfl) G61 rfl ht53 rfl rfl (by decide)) ?_ ?_
         ·
          refine any_n [10] (by kernel_rfl) rfl ?_
          refine any_b (i := 10) rfl rfl (step_alloc (zs := [(.int IntKind.i64 (0)), (.int IntKind.i64 (0)), (.int IntKind.i64 (0))]) (lq rfl) (by kernel_rfl) rfl rfl) ?_ ?_
          ·
           refine any_n [11] (by kernel_rfl) rfl ?_
           refine any_b (i := 11) rfl rfl (s_store_boxA G61 rfl rfl rfl rfl rfl rfl) ?_ ?_
           ·
            refine any_n [12] (by kernel_rfl) rfl ?_
            refine any_b (i := 12) rfl rfl (s_store_boxA G61 rfl rfl rfl rfl rfl rfl) ?_ ?_
            ·
             exact any_end rfl (out_mk (weak_cov ⟨rfl, rfl, rfl, rfl, trivial⟩ ⟨rfl, rfl, trivial⟩))
            ·
             exact any_nil
           ·
            exact any_nil
          ·
           exact any_nil
         refine any_b (i := 10) rfl rfl (step_alloc (zs := [(.int IntKind.i64 (0)), (.int IntKind.i64 (0)), (.int IntKind.i64 (0))]) (lq rfl) (by kernel_rfl) rfl rfl) ?_ ?_
         ·
          refine any_n [4] (by kernel_rfl) rfl ?_
          refine any_a (i := 4) rfl rfl (m_loadEA (en := eSpan) (l := a0) (i := (wi (v5 - 1))) (v := t53) (off := 0) (lq rfl) G61 rfl ht53 rfl rfl (by decide)) ?_ ?_
          ·
           refine any_n [11] (by kernel_rfl) rfl ?_
           refine any_b (i := 11) rfl rfl (s_store_boxA G61 rfl rfl rfl rfl rfl rfl) ?_ ?_
           ·
            refine any_n [12] (by kernel_rfl) rfl ?_
            refine any_b (i := 12) rfl rfl (s_store_boxA G61 rfl rfl rfl rfl rfl rfl) ?_ ?_
            ·
             exact any_end rfl (out_mk (weak_cov ⟨rfl, rfl, rfl, rfl, trivial⟩ ⟨rfl, rfl, trivial⟩))
            ·
             exact any_nil
           ·
            exact any_nil
          ·
           exact any_nil
         exact any_nil
        refine any_b (i := 10) rfl rfl (step_alloc (zs := [(.int IntKind.i64 (0)), (.int IntKind.i64 (0)), (.int IntKind.i64 (0))]) (lq rfl) (by kernel_rfl) rfl rfl) ?_ ?_
        ·
         refine any_n [4, 9] (by kernel_rfl) rfl ?_
         refine any_a (i := 4) rfl rfl (m_loadEA (en := eSpan) (l := a0) (i := (wi (v5 - 1))) (v := t53) (off := 0) (lq rfl) G61 rfl ht53 rfl rfl (by decide)) ?_ ?_
         ·
          refine any_n [9] (by kernel_rfl) rfl ?_
          refine any_b (i := 9) rfl rfl (step_alloc (zs := [(.int IntKind.i64 (0)), (.int IntKind.i64 (0)), (.int IntKind.i64 (0))]) (lq rfl) (by kernel_rfl) rfl rfl) ?_ ?_
          ·
           refine any_n [11] (by kernel_rfl) rfl ?_
           refine any_b (i := 11) rfl rfl (s_store_boxA G61 rfl rfl rfl rfl rfl rfl) ?_ ?_
           ·
            refine any_n [12] (by kernel_rfl) rfl ?_
            refine any_b (i := 12) rfl rfl (s_store_boxA G61 rfl rfl rfl rfl rfl rfl) ?_ ?_
            ·
             exact any_end rfl (out_mk (weak_cov ⟨rfl, rfl, rfl, rfl, trivial⟩ ⟨rfl, rfl, trivial⟩))
            ·
             exact any_nil
           ·
            exact any_nil
          ·
           exact any_nil
         refine any_b (i := 9) rfl rfl (step_alloc (zs := [(.int IntKind.i64 (0)), (.int IntKind.i64 (0)), (.int IntKind.i64 (0))]) (lq rfl) (by kernel_rfl) rfl rfl) ?_ ?_
         ·
          refine any_n [4] (by kernel_rfl) rfl ?_
          refine any_a (i := 4) rfl rfl (m_loadEA (en := eSpan) (l := a0) (i := (wi (v5 - 1))) (v := t53) (off := 0) (lq rfl) G61 rfl ht53 rfl rfl (by decide)) ?_ ?_
          ·
           refine any_n [11] (by kernel_rfl) rfl ?_
           refine any_b (i := 11) rfl rfl (s_store_boxA G61 rfl rfl rfl rfl rfl rfl) ?_ ?_
           ·
            refine any_n [12] (by kernel_rfl) rfl ?_
            refine any_b (i := 12) rfl rfl (s_store_boxA G61 rfl rfl rfl rfl rfl rfl) ?_ ?_
            ·
             exact any_end rfl (out_mk (weak_cov ⟨rfl, rfl, rfl, rfl, trivial⟩ ⟨rfl, rfl, trivial⟩))
            ·
             exact any_nil
           ·
            exact any_nil
          ·
           exact any_nil
         exact any_nil
        exact any_nil
       refine any_b (i := 9) rfl rfl (step_alloc (zs := [(.int IntKind.i64 (0)), (.int IntKind.i64 (0)), (.int IntKind.i64 (0))]) (lq rfl) (by kernel_rfl) rfl rfl) ?_ ?_
       ·
        refine any_n [4, 8, 10] (by kernel_rfl) rfl ?_
        refine any_a (i := 4) rfl rfl (m_loadEA (en := eSpan) (l := a0) (i := (wi (v5 - 1))) (v := t53) (off := 0) (lq rfl) G61 rfl ht53 rfl rfl (by decide)) ?_ ?_
        ·
         refine any_n [8, 10] (by kernel_rfl) rfl ?_
         refine any_a (i := 8) rfl rfl (m_loadEA (en := eSpan) (l := a0) (i := v5) (v := t57) (off := 0) (lq rfl) G61 rfl ht57 rfl rfl (by decide)) ?_ ?_
         ·
          refine any_n [10] (by kernel_rfl) rfl ?_
          refine any_b (i := 10) rfl rfl (step_alloc (zs := [(.int IntKind.i64 (0)), (.int IntKind.i64 (0)), (.int IntKind.i64 (0))]) (lq rfl) (by kernel_rfl) rfl rfl) ?_ ?_
          ·
           refine any_n [11] (by kernel_rfl) rfl ?_
           refine any_b (i := 11) rfl rfl (s_store_boxA G61 rfl rfl rfl rfl rfl rfl) ?_ ?_
           ·
            refine any_n [12] (by kernel_rfl) rfl ?_
            refine any_b (i := 12) rfl rfl (s_store_boxA G61 rfl rfl rfl rfl rfl rfl) ?_ ?_
            ·
             exact any_end rfl (out_mk (weak_cov ⟨rfl, rfl, rfl, rfl, trivial⟩ ⟨rfl, rfl, trivial⟩))
            ·
             exact any_nil
           ·
            exact any_nil
          ·
           exact any_nil
         refine any_b (i := 10) rfl rfl (step_alloc (zs := [(.int IntKind.i64 (0)), (.int IntKind.i64 (0)), (.int IntKind.i64 (0))]) (lq rfl) (by kernel_rfl) rfl rfl) ?_ ?_
         ·
          refine any_n [8, 11] (by kernel_rfl) rfl ?_
          refine any_a (i := 8) rfl rfl (m_loadEA (en := eSpan) (l := a0) (i := v5) (v := t57) (off := 0) (lq rfl) G61 rfl ht57 rfl rfl (by decide)) ?_ ?_
          ·
           refine any_n [11] (by kernel_rfl) rfl ?_
           refine any_b (i := 11) rfl rfl (s_store_boxA G61 rfl rfl rfl rfl rfl rfl) ?_ ?_
           ·
            refine any_n [12] (by kernel_rfl) rfl ?_
            refine any_b (i := 12) rfl rfl (s_store_boxA G61 rfl rfl rfl rfl rfl rfl) ?_ ?_
            ·
             exact any_end rfl (out_mk (weak_cov ⟨rfl, rfl, rfl, rfl, trivial⟩ ⟨rfl, rfl, trivial⟩))
            ·
             exact any_nil
           ·
            exact any_nil
          refine any_b (i := 11) rfl rfl (s_store_boxA G61 rfl rfl rfl rfl rfl rfl) ?_ ?_
          ·
           refine any_n [8] (by kernel_rfl) rfl ?_
           refine any_a (i := 8) rfl rfl (m_loadEA (en := eSpan) (l := a0) (i := v5) (v := t57) (off := 0) (lq rfl) G61 rfl ht57 rfl rfl (by decide)) ?_ ?_
           ·
            refine any_n [12] (by kernel_rfl) rfl ?_
            refine any_b (i := 12) rfl rfl (s_store_boxA G61 rfl rfl rfl rfl rfl rfl) ?_ ?_
            ·
             exact any_end rfl (out_mk (weak_cov ⟨rfl, rfl, rfl, rfl, trivial⟩ ⟨rfl, rfl, trivial⟩))
            ·
             exact any_nil
           ·
            exact any_nil
          exact any_nil
         exact any_nil
        refine any_a (i := 8) rfl rfl (m_loadEA (en := eSpan) (l := a0) (i := v5) (v := t57) (off := 0) (lq rfl) G61 rfl ht57 rfl rfl (by decide)) ?_ ?_
        ·
         refine any_n [4, 10] (by kernel_rfl) rfl ?_
         refine any_a (i := 4) rfl rfl (m_loadEA (en := eSpan) (l := a0) (i := (wi (v5 - 1))) (v := t53) (off := 0) (lq rfl) G61 rfl ht53 rfl rfl (by decide)) ?_ ?_
         ·
          refine any_n [10] (by kernel_rfl) rfl ?_
          refine any_b (i := 10) rfl rfl (step_alloc (zs := [(.int IntKind.i64 (0)), (.int IntKind.i64 (0)), (.int IntKind.i64 (0))]) (lq rfl) (by kernel_rfl) rfl rfl) ?_ ?_
          ·
           refine any_n [11] (by kernel_rfl) rfl ?_
           refine any_b (i := 11) rfl rfl (s_store_boxA G61 rfl rfl rfl rfl rfl rfl) ?_ ?_
           ·
            refine any_n [12] (by kernel_rfl) rfl ?_
            refine any_b (i := 12) rfl rfl (s_store_boxA G61 rfl rfl rfl rfl rfl rfl) ?_ ?_
            ·
             exact any_end rfl (out_mk (weak_cov ⟨rfl, rfl, rfl, rfl, trivial⟩ ⟨rfl, rfl, trivial⟩))
            ·
             exact any_nil
           ·
            exact any_nil
          ·
           exact any_nil
         refine any_b (i := 10) rfl rfl (step_alloc (zs := [(.int IntKind.i64 (0)), (.int IntKind.i64 (0)), (.int IntKind.i64 (0))]) (lq rfl) (by kernel_rfl) rfl rfl) ?_ ?_
         ·
          refine any_n [4] (by kernel_rfl) rfl ?_
          refine any_a (i := 4) rfl rfl (m_loadEA (en := eSpan) (l := a0) (i := (wi (v5 - 1))) (v := t53) (off := 0) (lq rfl) G61 rfl ht53 rfl rfl (by decide)) ?_ ?_
          ·
           refine any_n [11] (by kernel_rfl) rfl ?_
           refine any_b (i := 11) rfl rfl (s_store_boxA G61 rfl rfl rfl rfl rfl rfl) ?_ ?_
           ·
            refine any_n [12] (by kernel_rfl) rfl ?_
            refine any_b (i := 12) rfl rfl (s_store_boxA G61 rfl rfl rfl rfl rfl rfl) ?_ ?_
            ·
             exact any_end rfl (out_mk (weak_cov ⟨rfl, rfl, rfl, rfl, trivial⟩ ⟨rfl, rfl, trivial⟩))
            ·
             exact any_nil
           ·
            exact any_nil
          ·
           exact any_nil
         exact any_nil
        refine any_b (i := 10) rfl rfl (step_alloc (zs := [(.int IntKind.i64 (0)), (.int IntKind.i64 (0)), (.int IntKind.i64 (0))]) (lq rfl) (by kernel_rfl) rfl rfl) ?_ ?_
        ·
         refine any_n [4, 8] (by kernel_rfl) rfl ?_
         refine any_a (i := 4) rfl rfl (m_loadEA (en := eSpan) (l := a0) (i := (wi (v5 - 1))) (v := t53) (off := 0) (lq rfl) G61 rfl ht53 rfl rfl (by decide)) ?_ ?_
         ·
          refine any_n [8, 11] (by kernel_rfl) rfl ?_
          refine any_a (i := 8) rfl rfl (m_loadEA (en := eSpan) (l := a0) (i := v5) (v := t57) (off := 0) (lq rfl) G61 rfl ht57 rfl rfl (by decide)) ?_ ?_
          ·
           refine any_n [11] (by kernel_rfl) rfl ?_
           refine any_b (i := 11) rfl rfl (s_store_boxA G61 rfl rfl rfl rfl rfl rfl) ?_ ?_
           ·
            refine any_n [12] (by kernel_rfl) rfl ?_
            refine any_b (i := 12) rfl rfl (s_store_boxA G61 rfl rfl rfl rfl rfl rfl) ?_ ?_
            ·
             exact any_end rfl (out_mk (weak_cov ⟨rfl, rfl, rfl, rfl, trivial⟩ ⟨rfl, rfl, trivial⟩))
            ·
             exact any_nil
           ·
            exact any_nil
          refine any_b (i := 11) rfl rfl (s_store_boxA G61 rfl rfl rfl rfl rfl rfl) ?_ ?_
          ·
           refine any_n [8] (by kernel_rfl) rfl ?_
           refine any_a (i := 8) rfl rfl (m_loadEA (en := eSpan) (l := a0) (i := v5) (v := t57) (off := 0) (lq rfl) G61 rfl ht57 rfl rfl (by decide)) ?_ ?_
           ·
            refine any_n [12] (by kernel_rfl) rfl ?_
            refine any_b (i := 12) rfl rfl (s_store_boxA G61 rfl rfl rfl rfl rfl rfl) ?_ ?_
            ·
             exact any_end rfl (out_mk (weak_cov ⟨rfl, rfl, rfl, rfl, trivial⟩ ⟨rfl, rfl, trivial⟩))
            ·
             exact any_nil
           ·
            exact any_nil
          exact any_nil
         refine any_a (i := 8) rfl rfl (m_loadEA (en := eSpan) (l := a0) (i := v5) (v := t57) (off := 0) (lq rfl) G61 rfl ht57 rfl rfl (by decide)) ?_ ?_
         ·
          refine any_n [4] (by kernel_rfl) rfl ?_
          refine any_a (i := 4) rfl rfl (m_loadEA (en := eSpan) (l := a0) (i := (wi (v5 - 1))) (v := t53) (off := 0) (lq rfl) G61 rfl ht53 rfl rfl (by decide)) ?_ ?_
          ·
           refine any_n [11] (by kernel_rfl) rfl ?_
           refine any_b (i := 11) rfl rfl (s_store_boxA G61 rfl rfl rfl rfl rfl rfl) ?_ ?_
           ·
            refine any_n [12] (by kernel_rfl) rfl ?_
            refine any_b (i := 12) rfl rfl (s_store_boxA G61 rfl rfl rfl rfl rfl rfl) ?_ ?_
            ·
             exact any_end rfl (out_mk (weak_cov ⟨rfl, rfl, rfl, rfl, trivial⟩ ⟨rfl, rfl, trivial⟩))
            ·
             exact any_nil
           ·
            exact any_nil
          ·
           exact any_nil
         exact any_nil
        exact any_nil
       refine any_b (i := 10) rfl rfl (step_alloc (zs := [(.int IntKind.i64 (0)), (.int IntKind.i64 (0)), (.int IntKind.i64 (0))]) (lq rfl) (by kernel_rfl) rfl rfl) ?_ ?_
       ·
        refine any_n [4, 8, 9] (by kernel_rfl) rfl ?_
        refine any_a (i := 4) rfl rfl (m_loadEA (en := eSpan) (l := a0) (i := (wi (v5 - 1))) (v := t53) (off := 0) (lq rfl) G61 rfl ht53 rfl rfl (by decide)) ?_ ?_
        ·
         refine any_n [8, 9] (by kernel_rfl) rfl ?_
         refine any_a (i := 8) rfl rfl (m_loadEA (en := eSpan) (l := a0) (i := v5) (v := t57) (off := 0) (lq rfl) G61 rfl ht57 rfl rfl (by decide)) ?_ ?_
         ·
          refine any_n [9] (by kernel_rfl) rfl ?_
          refine any_b (i := 9) rfl rfl (step_alloc (zs := [(.int IntKind.i64 (0)), (.int IntKind.i64 (0)), (.int IntKind.i64 (0))]) (lq rfl) (by kernel_rfl) rfl rfl) ?_ ?_
          ·
           refine any_n [11] (by kernel_rfl) rfl ?_
           refine any_b (i := 11) rfl rfl (s_store_boxA G61 rfl rfl rfl rfl rfl rfl) ?_ ?_
           ·
            refine any_n [12] (by kernel_rfl) rfl ?_
            refine any_b (i := 12) rfl rfl (s_store_boxA G61 rfl rfl rfl rfl rfl rfl) ?_ ?_
            ·
             exact any_end rfl (out_mk (weak_cov ⟨rfl, rfl, rfl, rfl, trivial⟩ ⟨rfl, rfl, trivial⟩))
            ·
             exact any_nil
           ·
            exact any_nil
          ·
           exact any_nil
         refine any_b (i := 9) rfl rfl (step_alloc (zs := [(.int IntKind.i64 (0)), (.int IntKind.i64 (0)), (.int IntKind.i64 (0))]) (lq rfl) (by kernel_rfl) rfl rfl) ?_ ?_
         ·
          refine any_n [8, 11] (by kernel_rfl) rfl ?_
          refine any_a (i := 8) rfl rfl (m_loadEA (en := eSpan) (l := a0) (i := v5) (v := t57) (off := 0) (lq rfl) G61 rfl ht57 rfl rfl (by decide)) ?_ ?_
          ·
           refine any_n [11] (by kernel_rfl) rfl ?_
           refine any_b (i := 11) rfl rfl (s_store_boxA G61 rfl rfl rfl rfl rfl rfl) ?_ ?_
           ·
            refine any_n [12] (by kernel_rfl) rfl ?_
            refine any_b (i := 12) rfl rfl (s_store_boxA G61 rfl rfl rfl rfl rfl rfl) ?_ ?_
            ·
             exact any_end rfl (out_mk (weak_cov ⟨rfl, rfl, rfl, rfl, trivial⟩ ⟨rfl, rfl, trivial⟩))
            ·
             exact any_nil
           ·
            exact any_nil
          refine any_b (i := 11) rfl rfl (s_store_boxA G61 rfl rfl rfl rfl rfl rfl) ?_ ?_
          ·
           refine any_n [8] (by kernel_rfl) rfl ?_
           refine any_a (i := 8) rfl rfl (m_loadEA (en := eSpan) (l := a0) (i := v5) (v := t57) (off := 0) (lq rfl) G61 rfl ht57 rfl rfl (by decide)) ?_ ?_
           ·
            refine any_n [12] (by kernel_rfl) rfl ?_
            refine any_b (i := 12) rfl rfl (s_store_boxA G61 rfl rfl rfl rfl rfl rfl) ?_ ?_
            ·
             exact any_end rfl (out_mk (weak_cov ⟨rfl, rfl, rfl, rfl, trivial⟩ ⟨rfl, rfl, trivial⟩))
            ·
             exact any_nil
           ·
            exact any_nil
          exact any_nil
         exact any_nil
        refine any_a (i := 8) rfl rfl (m_loadEA (en := eSpan) (l := a0) (i := v5) (v := t57) (off := 0) (lq rfl) G61 rfl ht57 rfl rfl (by decide)) ?_ ?_
        ·
         refine any_n [4, 9] (by kernel_rfl) rfl ?_
         refine any_a (i := 4) rfl rfl (m_loadEA (en := eSpan) (l := a0) (i := (wi (v5 - 1))) (v := t53) (off := 0) (lq rfl) G61 rfl ht53 rfl rfl (by decide)) ?_ ?_
         ·
          refine any_n [9] (by kernel_rfl) rfl ?_
          refine any_b (i := 9) rfl rfl (step_alloc (zs := [(.int IntKind.i64 (0)), (.int IntKind.i64 (0)), (.int IntKind.i64 (0))]) (lq rfl) (by kernel_rfl) rfl rfl) ?_ ?_
          ·
           refine any_n [11] (by kernel_rfl) rfl ?_
           refine any_b (i := 11) rfl rfl (s_store_boxA G61 rfl rfl rfl rfl rfl rfl) ?_ ?_
           ·
            refine any_n [12] (by kernel_rfl) rfl ?_
            refine any_b (i := 12) rfl rfl (s_store_boxA G61 rfl rfl rfl rfl rfl rfl) ?_ ?_
            ·
             exact any_end rfl (out_mk (weak_cov ⟨rfl, rfl, rfl, rfl, trivial⟩ ⟨rfl, rfl, trivial⟩))
            ·
             exact any_nil
           ·
            exact any_nil
          ·
           exact any_nil
         refine any_b (i := 9) rfl rfl (step_alloc (zs := [(.int IntKind.i64 (0)), (.int IntKind.i64 (0)), (.int IntKind.i64 (0))]) (lq rfl) (by kernel_rfl) rfl rfl) ?_ ?_
         ·
          refine any_n [4] (by kernel_rfl) rfl ?_
          refine any_a (i := 4) rfl rfl (m_loadEA (en := eSpan) (l := a0) (i := (wi (v5 - 1))) (v := t53) (off := 0) (lq rfl) G61 rfl ht53 rfl rfl (by decide)) ?_ ?_
          ·
           refine any_n [11] (by kernel_rfl) rfl ?_
           refine any_b (i := 11) rfl rfl (s_store_boxA G61 rfl rfl rfl rfl rfl rfl) ?_ ?_
           ·
            refine any_n [12] (by kernel_rfl) rfl ?_
            refine any_b (i := 12) rfl rfl (s_store_boxA G61 rfl rfl rfl rfl rfl rfl) ?_ ?_
            ·
             exact any_end rfl (out_mk (weak_cov ⟨rfl, rfl, rfl, rfl, trivial⟩ ⟨rfl, rfl, trivial⟩))
            ·
             exact any_nil
           ·
            exact any_nil
          ·
           exact any_nil
         exact any_nil
        refine any_b (i := 9) rfl rfl (step_alloc (zs := [(.int IntKind.i64 (0)), (.int IntKind.i64 (0)), (.int IntKind.i64 (0))]) (lq rfl) (by kernel_rfl) rfl rfl) ?_ ?_
        ·
         refine any_n [4, 8] (by kernel_rfl) rfl ?_
         refine any_a (i := 4) rfl rfl (m_loadEA (en := eSpan) (l := a0) (i := (wi (v5 - 1))) (v := t53) (off := 0) (lq rfl) G61 rfl ht53 rfl rfl (by decide)) ?_ ?_
         ·
          refine any_n [8, 11] (by kernel_rfl) rfl ?_
          refine any_a (i := 8) rfl rfl (m_loadEA (en := eSpan) (l := a0) (i := v5) (v := t57) (off := 0) (lq rfl) G61 rfl ht57 rfl rfl (by decide)) ?_ ?_
          ·
           refine any_n [11] (by kernel_rfl) rfl ?_
           refine any_b (i := 11) rfl rfl (s_store_boxA G61 rfl rfl rfl rfl rfl rfl) ?_ ?_
           ·
            refine any_n [12] (by kernel_rfl) rfl ?_
            refine any_b (i := 12) rfl rfl (s_store_boxA G61 rfl rfl rfl rfl rfl rfl) ?_ ?_
            ·
             exact any_end rfl (out_mk (weak_cov ⟨rfl, rfl, rfl, rfl, trivial⟩ ⟨rfl, rfl, trivial⟩))
            ·
             exact any_nil
           ·
            exact any_nil
          refine any_b (i := 11) rfl rfl (s_store_boxA G61 rfl rfl rfl rfl rfl rfl) ?_ ?_
          ·
           refine any_n [8] (by kernel_rfl) rfl ?_
           refine any_a (i := 8) rfl rfl (m_loadEA (en := eSpan) (l := a0) (i := v5) (v := t57) (off := 0) (lq rfl) G61 rfl ht57 rfl rfl (by decide)) ?_ ?_
           ·
            refine any_n [12] (by kernel_rfl) rfl ?_
            refine any_b (i := 12) rfl rfl (s_store_boxA G61 rfl rfl rfl rfl rfl rfl) ?_ ?_
            ·
             exact any_end rfl (out_mk (weak_cov ⟨rfl, rfl, rfl, rfl, trivial⟩ ⟨rfl, rfl, trivial⟩))
            ·
             exact any_nil
           ·
            exact any_nil
          exact any_nil
         refine any_a (i := 8) rfl rfl (m_loadEA (en := eSpan) (l := a0) (i := v5) (v := t57) (off := 0) (lq rfl) G61 rfl ht57 rfl rfl (by decide)) ?_ ?_
         ·
          refine any_n [4] (by kernel_rfl) rfl ?_
          refine any_a (i := 4) rfl rfl (m_loadEA (en := eSpan) (l := a0) (i := (wi (v5 - 1))) (v := t53) (off := 0) (lq rfl) G61 rfl ht53 rfl rfl (by decide)) ?_ ?_
          ·
           refine any_n [11] (by kernel_rfl) rfl ?_
           refine any_b (i := 11) rfl rfl (s_store_boxA G61 rfl rfl rfl rfl rfl rfl) ?_ ?_
           ·
            refine any_n [12] (by kernel_rfl) rfl ?_
            refine any_b (i := 12) rfl rfl (s_store_boxA G61 rfl rfl rfl rfl rfl rfl) ?_ ?_
            ·
             exact any_end rfl (out_mk (weak_cov ⟨rfl, rfl, rfl, rfl, trivial⟩ ⟨rfl, rfl, trivial⟩))
            ·
             exact any_nil
           ·
            exact any_nil
          ·
           exact any_nil
         exact any_nil
        exact any_nil
       exact any_nil
      refine avc_weak (weak_freeze (t := 6) (lq rfl) rfl rfl rfl) ?_
      refine avc_weak (weak_freeze (t := 7) (lq rfl) rfl rfl rfl) ?_
      refine avc_sq2 <| avc_sq ?_
      refine sqa (m_fieldPt (lq rfl) L61_0 rfl) ?_
      refine sqa (a_load_ip (lq rfl) O3 rfl rfl) ?_
      refine sqa (m_fieldPt (lq rfl) L61_1 rfl) ?_
      refine sqa (a_load_ip (lq rfl) O3 rfl rfl) ?_
      refine sqa (a_leq (lq rfl) rfl rfl) ?_
      obtain ⟨b64, hb64, hsy2'⟩ := bE hsy2; clear hsy2
      refine sqa ((a_move_d (lq rfl) rfl).bool (Option.some.inj hb64)) ?_
      refine sq_g (x := .ip (eSpan.cells t57) (0 + 0)) rfl rfl rfl (lq rfl) (lq rfl) rfl (fun hb => by obtain rfl := gF hb; exact m_fieldPt (lq rfl) L61_0 rfl) ?_
      refine sq_g (x := .d (di t57.Lo)) rfl rfl rfl (lq rfl) (lq rfl) rfl (fun hb => by obtain rfl := gF hb; exact a_load_ip (lq rfl) O3 rfl rfl) ?_
      refine sq_g (x := .ip (eSpan.cells t53) (0 + 1)) rfl rfl rfl (lq rfl) (lq rfl) rfl (fun hb => by obtain rfl := gF hb; exact m_fieldPt (lq rfl) L61_1 rfl) ?_
      refine sq_g (x := .d (di t53.Hi)) rfl rfl rfl (lq rfl) (lq rfl) rfl (fun hb => by obtain rfl := gF hb; exact a_load_ip (lq rfl) O3 rfl rfl) ?_
      refine sq_g (x := .d (di (wi (t53.Hi + 1)))) rfl rfl rfl (lq rfl) (lq rfl) rfl (fun hb => by obtain rfl := gF hb; exact m_add (lq rfl) rfl rfl) ?_
      refine sq_g (x := .d (db (decide (t57.Lo = (wi (t53.Hi + 1)))))) rfl rfl rfl (lq rfl) (lq rfl) rfl (fun hb => by obtain rfl := gF hb; exact a_eql (lq rfl) rfl rfl) ?_
      obtain ⟨b71, hb71, hsy2⟩ := bE hsy2'; clear hsy2'
      refine sq_g (x := .d (db b71)) rfl rfl rfl (lq rfl) (lq rfl) rfl (fun hb => by obtain rfl := gF hb; exact (a_move_d (lq rfl) rfl).bool (Option.some.inj hb71)) ?_
      refine sq_g2 (x := .ip (eSpan.cells t57) (0 + 2)) rfl rfl rfl (lq rfl) (lq rfl) rfl (fun hb => by obtain ⟨hb, hb1⟩ := and_split hb; obtain rfl := gF hb; obtain rfl : b71 = true := hb1; exact m_fieldPt (lq rfl) L61_2 rfl) ?_
      refine sq_g2 (x := .d (di t57.Value)) rfl rfl rfl (lq rfl) (lq rfl) rfl (fun hb => by obtain ⟨hb, hb1⟩ := and_split hb; obtain rfl := gF hb; obtain rfl : b71 = true := hb1; exact a_load_ip (lq rfl) O3 rfl rfl) ?_
      refine sq_g2 (x := .ip (eSpan.cells t53) (0 + 2)) rfl rfl rfl (lq rfl) (lq rfl) rfl (fun hb => by obtain ⟨hb, hb1⟩ := and_split hb; obtain rfl := gF hb; obtain rfl : b71 = true := hb1; exact m_fieldPt (lq rfl) L61_2 rfl) ?_
      refine sq_g2 (x := .d (di t53.Value)) rfl rfl rfl (lq rfl) (lq rfl) rfl (fun hb => by obtain ⟨hb, hb1⟩ := and_split hb; obtain rfl := gF hb; obtain rfl : b71 = true := hb1; exact a_load_ip (lq rfl) O3 rfl rfl) ?_
      refine sq_g2 (x := .d (db (decide (t57.Value = t53.Value)))) rfl rfl rfl (lq rfl) (lq rfl) rfl (fun hb => by obtain ⟨hb, hb1⟩ := and_split hb; obtain rfl := gF hb; obtain rfl : b71 = true := hb1; exact a_eql (lq rfl) rfl rfl) ?_
      refine sq_g (x := .d (db (b71 && (decide (t57.Value = t53.Value))))) rfl rfl rfl (lq rfl) (lq rfl) rfl (fun hb => by obtain rfl := gF hb; exact a_pick_and (lq rfl) rfl rfl) ?_
      refine sqa (a_pick_or (lq rfl) rfl rfl) ?_
      refine sq_nil ?_
      refine avc_if rfl ⟨fun c4 => ?_, fun c4 => ?_⟩
      ·
       replace hsy2 := cT c4 hsy2
       refine avc_sq2 <| avc_sq ?_
       refine sqa (a_assign_d (lq rfl) rfl) ?_
       refine sq_nil ?_
       refine avc_ret ?_
       cases hsy2
       intro q; cases q
      ·
       replace hsy2 := cF c4 hsy2
       refine avc_skip <| avc_sq ?_
       refine sqa (a_move_d (lq rfl) rfl) ?_
       refine sqa (m_add (lq rfl) rfl rfl) ?_
       refine sqa (a_assign_d (lq rfl) rfl) ?_
       refine sq_nil ?_
       cases hsy2
       exact weak_cov ⟨rfl, rfl, trivial⟩ trivial
     ·
      replace hsy2 := cF c3 hsy2
      refine avc_exit ?_
      cases hsy2
      intro q; cases q
      exact out_mk (weak_cov ⟨rfl, trivial⟩ trivial)
    ·
     refine avc_sq2 <| avc_sq2 <| avc_sq ?_
     refine sqa (a_move_d (lq rfl) rfl) ?_
     refine sqa (m_len (en := eSpan) (l := a0) (lq rfl) S37 rfl) ?_
     refine sqa (a_move_d (lq rfl) rfl) ?_
     refine sq_nil <| avc_block ?_
     obtain ⟨y3, hy3, h'⟩ := bE h; clear h
     rcases y3 with y3 | y3
     ·
      replace h' := eL h'
      refine avc_tail (e := .exit 4) (S2 := ⟨[], []⟩) ?_ ?_
      ·
       refine avc_loopM (fun x => ⟨[(79, .d (dsl eSpan a0)), (80, .d (di (a0.length : Int))), (81, .d (di x))], []⟩) hy3 (weak_cov ⟨rfl, rfl, rfl, trivial⟩ trivial) ?_
       rintro v81 sy3 hsy3
       replace hsy3 : ordering_Check_L2 a0 v81 = some sy3 := hsy3
       unfold ordering_Check_L2 at hsy3
       refine avc_sq2 <| avc_sq ?_
       refine sqa (a_lss (lq rfl) rfl rfl) ?_
       refine sq_nil <| avc_sq2 ?_
       refine avc_if rfl ⟨fun c5 => ?_, fun c5 => ?_⟩
       ·
        replace hsy3 := cT c5 hsy3
        refine avc_skip <| avc_sq2 <| avc_block <| avc_sq2 <| avc_sq ?_
        obtain ⟨t83, ht83, hsy3'⟩ := bE hsy3; clear hsy3
        refine sqa (m_index (en := eSpan) (lq rfl) S37 rfl rfl ht83) ?_
        refine sqa (m_loadEA (en := eSpan) (l := a0) (i := v81) (v := t83) (off := 0) (lq rfl) G61 rfl ht83 rfl rfl (by decide)) ?_
        refine sq_b rfl (step_alloc (zs := [(.int IntKind.i64 (0)), (.int IntKind.i64 (0)), (.int IntKind.i64 (0))]) (lq rfl) (by kernel_rfl) rfl rfl) ?_
        refine sq_b rfl (s_store_boxA G61 rfl rfl rfl rfl rfl rfl) ?_
        refine sq_nil ?_
        refine avc_weak (weak_freeze (t := 9) (lq rfl) rfl rfl rfl) ?_
        refine avc_sq2 <| avc_sq ?_
        obtain ⟨t85, ht85, hsy3⟩ := bE hsy3'; clear hsy3'
        refine sqa ((m_loadG (zs := [.int .i64 4352, .int .i64 4370, .int .i64 4449, .int .i64 4469, .int .i64 4520, .int .i64 4546, .int .i64 44032, .int .i64 55203]) (lq rfl) G123 Z0 rfl rfl).data (b := eA4Range.dv t85) (congrArg eA4Range.dv (Option.some.inj ht85))) ?_
        refine sqa (a_move_d (lq rfl) rfl) ?_
        refine sq_nil <| avc_block ?_
        obtain ⟨y4, hy4, hsy3'⟩ := bE hsy3; clear hsy3
        rcases y4 with y4 | y4
        ·
         replace hsy3' := eL hsy3'
         refine avc_tail (e := .exit 6) (S2 := ⟨[(79, .d (dsl eSpan a0)), (80, .d (di (a0.length : Int))), (81, .d (di v81))], []⟩) ?_ ?_
         ·
          refine avc_loopM (fun x => ⟨[(9, .d (.pt (eSpan.cells t83))), (79, .d (dsl eSpan a0)), (80, .d (di (a0.length : Int))), (81, .d (di v81)), (85, .d (eA4Range.dv t85)), (86, .d (di x))], []⟩) hy4 (weak_cov ⟨rfl, rfl, rfl, rfl, rfl, rfl, trivial⟩ trivial) ?_
          rintro v86 sy4 hsy4
          replace hsy4 : ordering_Check_L3 t85 t83 v86 = some sy4 := hsy4
          unfold ordering_Check_L3 at hsy4
          refine avc_sq2 <| avc_sq ?_
          refine sqa (a_lss (lq rfl) rfl rfl) ?_
          refine sq_nil <| avc_sq2 ?_
          refine avc_if rfl ⟨fun c6 => ?_, fun c6 => ?_⟩
          ·
           replace hsy4 := cT c6 hsy4
           refine avc_skip <| avc_sq2 <| avc_block <| avc_sq2 <| avc_sq ?_
           obtain ⟨t88, ht88, hsy4'⟩ := bE hsy4; clear hsy4
           refine sqa (m_aindexA (en := eRange) (l := [t85.x0, t85.x1, t85.x2, t85.x3]) (lq rfl) A123 G104 (fun _ => rfl) rfl rfl rfl ht88) ?_
           refine sq_b rfl (step_alloc (zs := [(.int IntKind.i64 (0)), (.int IntKind.i64 (0))]) (lq rfl) (by kernel_rfl) rfl rfl) ?_
           refine sq_b rfl (s_store_boxA G104 rfl rfl rfl rfl rfl rfl) ?_
           refine sq_nil ?_
           refine avc_weak (weak_freeze (t := 11) (lq rfl) rfl rfl rfl) ?_
           refine avc_sq2 <| avc_sq ?_
           refine sqa (m_fieldPt (lq rfl) L61_0 rfl) ?_
           refine sqa (a_load_ip (lq rfl) O3 rfl rfl) ?_
           refine sqa (m_fieldPt (lq rfl) L104_1 rfl) ?_
           refine sqa (a_load_ip (lq rfl) O3 rfl rfl) ?_
           refine sqa (a_leq (lq rfl) rfl rfl) ?_
           obtain ⟨b94, hb94, hsy4⟩ := bE hsy4'; clear hsy4'
           refine sqa ((a_move_d (lq rfl) rfl).bool (Option.some.inj hb94)) ?_
           refine sq_g (x := .ip (eRange.cells t88) (0 + 0)) rfl rfl rfl (lq rfl) (lq rfl) rfl (fun hb => by obtain rfl : b94 = true := hb; exact m_fieldPt (lq rfl) L104_0 rfl) ?_
           refine sq_g (x := .d (di t88.Lo)) rfl rfl rfl (lq rfl) (lq rfl) rfl (fun hb => by obtain rfl : b94 = true := hb; exact a_load_ip (lq rfl) O3 rfl rfl) ?_
           refine sq_g (x := .ip (eSpan.cells t83) (0 + 1)) rfl rfl rfl (lq rfl) (lq rfl) rfl (fun hb => by obtain rfl : b94 = true := hb; exact m_fieldPt (lq rfl) L61_1 rfl) ?_
           refine sq_g (x := .d (di t83.Hi)) rfl rfl rfl (lq rfl) (lq rfl) rfl (fun hb => by obtain rfl : b94 = true := hb; exact a_load_ip (lq rfl) O3 rfl rfl) ?_
           refine sq_g (x := .d (db (decide (t88.Lo ≤ t83.Hi)))) rfl rfl rfl (lq rfl) (lq rfl) rfl (fun hb => by obtain rfl : b94 = true := hb; exact a_leq (lq rfl) rfl rfl) ?_
           refine sqa (a_pick_and (lq rfl) rfl rfl) ?_
           refine sq_nil ?_
           refine avc_if rfl ⟨fun c7 => ?_, fun c7 => ?_⟩
           ·
            replace hsy4 := cT c7 hsy4
            refine avc_sq2 <| avc_sq ?_
            refine sqa (a_assign_d (lq rfl) rfl) ?_
            refine sq_nil ?_
            refine avc_ret ?_
            cases hsy4
            intro q; cases q
           ·
            replace hsy4 := cF c7 hsy4
            refine avc_skip <| avc_sq ?_
            refine sqa (m_add (lq rfl) rfl rfl) ?_
            refine sqa (a_move_d (lq rfl) rfl) ?_
            refine sq_nil ?_
            cases hsy4
            exact weak_cov ⟨rfl, rfl, rfl, rfl, rfl, rfl, trivial⟩ trivial
          ·
           replace hsy4 := cF c6 hsy4
           refine avc_exit ?_
           cases hsy4
           intro q; cases q
           exact out_mk (weak_cov ⟨rfl, rfl, rfl, trivial⟩ trivial)
         ·
          refine avc_sq ?_
          refine sqa (m_add (lq rfl) rfl rfl) ?_
          refine sqa (a_move_d (lq rfl) rfl) ?_
          refine sq_nil ?_
          cases hsy3'
          exact weak_cov ⟨rfl, rfl, rfl, trivial⟩ trivial
        ·
         replace hsy3' := eR hsy3'
         refine avc_tail (e := .ret) (S2 := ⟨[(2, .d (di y4))], []⟩) ?_ ?_
         ·
          refine avc_loopM (fun x => ⟨[(9, .d (.pt (eSpan.cells t83))), (79, .d (dsl eSpan a0)), (80, .d (di (a0.length : Int))), (81, .d (di v81)), (85, .d (eA4Range.dv t85)), (86, .d (di x))], []⟩) hy4 (weak_cov ⟨rfl, rfl, rfl, rfl, rfl, rfl, trivial⟩ trivial) ?_
          rintro v86 sy4 hsy4
          replace hsy4 : ordering_Check_L3 t85 t83 v86 = some sy4 := hsy4
          unfold ordering_Check_L3 at hsy4
          refine avc_sq2 <| avc_sq ?_
          refine sqa (a_lss (lq rfl) rfl rfl) ?_
          refine sq_nil <| avc_sq2 ?_
          refine avc_if rfl ⟨fun c6 => ?_, fun c6 => ?_⟩
          ·
           replace hsy4 := cT c6 hsy4
           refine avc_skip <| avc_sq2 <| avc_block <| avc_sq2 <| avc_sq ?_
           obtain ⟨t88, ht88, hsy4'⟩ := bE hsy4; clear hsy4
           refine sqa (m_aindexA (en := eRange) (l := [t85.x0, t85.x1, t85.x2, t85.x3]) (lq rfl) A123 G104 (fun _ => rfl) rfl rfl rfl ht88) ?_
           refine sq_b rfl (step_alloc (zs := [(.int IntKind.i64 (0)), (.int IntKind.i64 (0))]) (lq rfl) (by kernel_rfl) rfl rfl) ?_
           refine sq_b rfl (s_store_boxA G104 rfl rfl rfl rfl rfl rfl) ?_
           refine sq_nil ?_
           refine avc_weak (weak_freeze (t := 11) (lq rfl) rfl rfl rfl) ?_
           refine avc_sq2 <| avc_sq ?_
           refine sqa (m_fieldPt (lq rfl) L61_0 rfl) ?_
           refine sqa (a_load_ip (lq rfl) O3 rfl rfl) ?_
           refine sqa (m_fieldPt (lq rfl) L104_1 rfl) ?_
           refine sqa (a_load_ip (lq rfl) O3 rfl rfl) ?_
           refine sqa (a_leq (lq rfl) rfl rfl) ?_
           obtain ⟨b94, hb94, hsy4⟩ := bE hsy4'; clear hsy4'
           refine sqa ((a_move_d (lq rfl) rfl).bool (Option.some.inj hb94)) ?_
           refine sq_g (x := .ip (eRange.cells t88) (0 + 0)) rfl rfl rfl (lq rfl) (lq rfl) rfl (fun hb => by obtain rfl : b94 = true := hb; exact m_fieldPt (lq rfl) L104_0 rfl) ?_
           refine sq_g (x := .d (di t88.Lo)) rfl rfl rfl (lq rfl) (lq rfl) rfl (fun hb => by obtain rfl : b94 = true := hb; exact a_load_ip (lq rfl) O3 rfl rfl) ?_
           refine sq_g (x := .ip (eSpan.cells t83) (0 + 1)) rfl rfl rfl (lq rfl) (lq rfl) rfl (fun hb => by obtain rfl : b94 = true := hb; exact m_fieldPt (lq rfl) L61_1 rfl) ?_
           refine sq_g (x := .d (di t83.Hi)) rfl rfl rfl (lq rfl) (lq rfl) rfl (fun hb => by obtain rfl : b94 = true := hb; exact a_load_ip (lq rfl) O3 rfl rfl) ?_
           refine sq_g (x := .d (db (decide (t88.Lo ≤ t83.Hi)))) rfl rfl rfl (lq rfl) (lq rfl) rfl (fun hb => by obtain rfl : b94 = true := hb; exact a_leq (lq rfl) rfl rfl) ?_
           refine sqa (a_pick_and (lq rfl) rfl rfl) ?_
           refine sq_nil ?_
           refine avc_if rfl ⟨fun c7 => ?_, fun c7 => ?_⟩
           ·
            replace hsy4 := cT c7 hsy4
            refine avc_sq2 <| avc_sq ?_
            refine sqa (a_assign_d (lq rfl) rfl) ?_
            refine sq_nil ?_
            refine avc_ret ?_
            cases hsy4
            intro q; cases q
            exact out_mk (weak_cov ⟨rfl, trivial⟩ trivial)
           ·
            replace hsy4 := cF c7 hsy4
            refine avc_skip <| avc_sq ?_
            refine sqa (m_add (lq rfl) rfl rfl) ?_
            refine sqa (a_move_d (lq rfl) rfl) ?_
            refine sq_nil ?_
            cases hsy4
            exact weak_cov ⟨rfl, rfl, rfl, rfl, rfl, rfl, trivial⟩ trivial
          ·
           replace hsy4 := cF c6 hsy4
           refine avc_exit ?_
           cases hsy4
           intro q; cases q
         ·
          cases hsy3'
          intro q; cases q
       ·
        replace hsy3 := cF c5 hsy3
        refine avc_exit ?_
        cases hsy3
        intro q; cases q
        exact out_mk (weak_cov trivial trivial)
      ·
       refine avc_sq2 <| avc_sq ?_
       refine sqa (a_assign_d (lq rfl) rfl) ?_
       refine sq_nil ?_
       cases h'
       refine avc_ret ?_
       exact ret_1 rfl
     ·
      replace h' := eR h'
      refine avc_tail (e := .ret) (S2 := ⟨[(2, .d (di y3))], []⟩) ?_ ?_
      ·
       refine avc_loopM (fun x => ⟨[(79, .d (dsl eSpan a0)), (80, .d (di (a0.length : Int))), (81, .d (di x))], []⟩) hy3 (weak_cov ⟨rfl, rfl, rfl, trivial⟩ trivial) ?_
       rintro v81 sy3 hsy3
       replace hsy3 : ordering_Check_L2 a0 v81 = some sy3 := hsy3
       unfold ordering_Check_L2 at hsy3
       refine avc_sq2 <| avc_sq ?_
       refine sqa (a_lss (lq rfl) rfl rfl) ?_
       refine sq_nil <| avc_sq2 ?_
       refine avc_if rfl ⟨fun c5 => ?_, fun c5 => ?_⟩
       ·
        replace hsy3 := cT c5 hsy3
        refine avc_skip <| avc_sq2 <| avc_block <| avc_sq2 <| avc_sq ?_
        obtain ⟨t83, ht83, hsy3'⟩ := bE hsy3; clear hsy3
        refine sqa (m_index (en := eSpan) (lq rfl) S37 rfl rfl ht83) ?_
        refine sqa (m_loadEA (en := eSpan) (l := a0) (i := v81) (v := t83) (off := 0) (lq rfl) G61 rfl ht83 rfl rfl (by decide)) ?_
        refine sq_b rfl (step_alloc (zs := [(.int IntKind.i64 (0)), (.int IntKind.i64 (0)), (.int IntKind.i64 (0))]) (lq rfl) (by kernel_rfl) rfl rfl) ?_
        refine sq_b rfl (s_store_boxA G61 rfl rfl rfl rfl rfl rfl) ?_
        refine sq_nil ?_
        refine avc_weak (weak_freeze (t := 9) (lq rfl) rfl rfl rfl) ?_
        refine avc_sq2 <| avc_sq ?_
        obtain ⟨t85, ht85, hsy3⟩ := bE hsy3'; clear hsy3'
        refine sqa ((m_loadG (zs := [.int .i64 4352, .int .i64 4370, .int .i64 4449, .int .i64 4469, .int .i64 4520, .int .i64 4546, .int .i64 44032, .int .i64 55203]) (lq rfl) G123 Z0 rfl rfl).data (b := eA4Range.dv t85) (congrArg eA4Range.dv (Option.some.inj ht85))) ?_
        refine sqa (a_move_d (lq rfl) rfl) ?_
        refine sq_nil <| avc_block ?_
        obtain ⟨y4, hy4, hsy3'⟩ := bE hsy3; clear hsy3
        rcases y4 with y4 | y4
        ·
         replace hsy3' := eL hsy3'
         refine avc_tail (e := .exit 6) (S2 := ⟨[(79, .d (dsl eSpan a0)), (80, .d (di (a0.length : Int))), (81, .d (di v81))], []⟩) ?_ ?_
         ·
          refine avc_loopM (fun x => ⟨[(9, .d (.pt (eSpan.cells t83))), (79, .d (dsl eSpan a0)), (80, .d (di (a0.length : Int))), (81, .d (di v81)), (85, .d (eA4Range.dv t85)), (86, .d (di x))], []⟩) hy4 (weak_cov ⟨rfl, rfl, rfl, rfl, rfl, rfl, trivial⟩ trivial) ?_
          rintro v86 sy4 hsy4
          replace hsy4 : ordering_Check_L3 t85 t83 v86 = some sy4 := hsy4
          unfold ordering_Check_L3 at hsy4
          refine avc_sq2 <| avc_sq ?_
          refine sqa (a_lss (lq rfl) rfl rfl) ?_
          refine sq_nil <| avc_sq2 ?_
          refine avc_if rfl ⟨fun c6 => ?_, fun c6 => ?_⟩
          ·
           replace hsy4 := cT c6 hsy4
           refine avc_skip <| avc_sq2 <| avc_block <| avc_sq2 <| avc_sq ?_
           obtain ⟨t88, ht88, hsy4'⟩ := bE hsy4; clear hsy4
           refine sqa (m_aindexA (en := eRange) (l := [t85.x0, t85.x1, t85.x2, t85.x3]) (lq rfl) A123 G104 (fun _ => rfl) rfl rfl rfl ht88) ?_
           refine sq_b rfl (step_alloc (zs := [(.int IntKind.i64 (0)), (.int IntKind.i64 (0))]) (lq rfl) (by kernel_rfl) rfl rfl) ?_
           refine sq_b rfl (s_store_boxA G104 rfl rfl rfl rfl rfl rfl) ?_
           refine sq_nil ?_
           refine avc_weak (weak_freeze (t := 11) (lq rfl) rfl rfl rfl) ?_
           refine avc_sq2 <| avc_sq ?_
           refine sqa (m_fieldPt (lq rfl) L61_0 rfl) ?_
           refine sqa (a_load_ip (lq rfl) O3 rfl rfl) ?_
           refine sqa (m_fieldPt (lq rfl) L104_1 rfl) ?_
           refine sqa (a_load_ip (lq rfl) O3 rfl rfl) ?_
           refine sqa (a_leq (lq rfl) rfl rfl) ?_
           obtain ⟨b94, hb94, hsy4⟩ := bE hsy4'; clear hsy4'
           refine sqa ((a_move_d (lq rfl) rfl).bool (Option.some.inj hb94)) ?_
           refine sq_g (x := .ip (eRange.cells t88) (0 + 0)) rfl rfl rfl (lq rfl) (lq rfl) rfl (fun hb => by obtain rfl : b94 = true := hb; exact m_fieldPt (lq rfl) L104_0 rfl) ?_
           refine sq_g (x := .d (di t88.Lo)) rfl rfl rfl (lq rfl) (lq rfl) rfl (fun hb => by obtain rfl : b94 = true := hb; exact a_load_ip (lq rfl) O3 rfl rfl) ?_
           refine sq_g (x := .ip (eSpan.cells t83) (0 + 1)) rfl rfl rfl (lq rfl) (lq rfl) rfl (fun hb => by obtain rfl : b94 = true := hb; exact m_fieldPt (lq rfl) L61_1 rfl) ?_
           refine sq_g (x := .d (di t83.Hi)) rfl rfl rfl (lq rfl) (lq rfl) rfl (fun hb => by obtain rfl : b94 = true := hb; exact a_load_ip (lq rfl) O3 rfl rfl) ?_
           refine sq_g (x := .d (db (decide (t88.Lo ≤ t83.Hi)))) rfl rfl rfl (lq rfl) (lq rfl) rfl (fun hb => by obtain rfl : b94 = true := hb; exact a_leq (lq rfl) rfl rfl) ?_
           refine sqa (a_pick_and (lq rfl) rfl rfl) ?_
           refine sq_nil ?_
           refine avc_if rfl ⟨fun c7 => ?_, fun c7 => ?_⟩
           ·
            replace hsy4 := cT c7 hsy4
            refine avc_sq2 <| avc_sq ?_
            refine sqa (a_assign_d (lq rfl) rfl) ?_
            refine sq_nil ?_
            refine avc_ret ?_
            cases hsy4
            intro q; cases q
           ·
            replace hsy4 := cF c7 hsy4
            refine avc_skip <| avc_sq ?_
            refine sqa (m_add (lq rfl) rfl rfl) ?_
            refine sqa (a_move_d (lq rfl) rfl) ?_
            refine sq_nil ?_
            cases hsy4
            exact weak_cov ⟨rfl, rfl, rfl, rfl, rfl, rfl, trivial⟩ trivial
          ·
           replace hsy4 := cF c6 hsy4
           refine avc_exit ?_
           cases hsy4
           intro q; cases q
           exact out_mk (weak_cov ⟨rfl, rfl, rfl, trivial⟩ trivial)
         ·
          refine avc_sq ?_
          refine sqa (m_add (lq rfl) rfl rfl) ?_
          refine sqa (a_move_d (lq rfl) rfl) ?_
          refine sq_nil ?_
          cases hsy3'
          exact weak_cov ⟨rfl, rfl, rfl, trivial⟩ trivial
        ·
         replace hsy3' := eR hsy3'
         refine avc_tail (e := .ret) (S2 := ⟨[(2, .d (di y4))], []⟩) ?_ ?_
         ·
          refine avc_loopM (fun x => ⟨[(9, .d (.pt (eSpan.cells t83))), (79, .d (dsl eSpan a0)), (80, .d (di (a0.length : Int))), (81, .d (di v81)), (85, .d (eA4Range.dv t85)), (86, .d (di x))], []⟩) hy4 (weak_cov ⟨rfl, rfl, rfl, rfl, rfl, rfl, trivial⟩ trivial) ?_
          rintro v86 sy4 hsy4
          replace hsy4 : ordering_Check_L3 t85 t83 v86 = some sy4 := hsy4
          unfold ordering_Check_L3 at hsy4
          refine avc_sq2 <| avc_sq ?_
          refine sqa (a_lss (lq rfl) rfl rfl) ?_
          refine sq_nil <| avc_sq2 ?_
          refine avc_if rfl ⟨fun c6 => ?_, fun c6 => ?_⟩
          ·
           replace hsy4 := cT c6 hsy4
           refine avc_skip <| avc_sq2 <| avc_block <| avc_sq2 <| avc_sq ?_
           obtain ⟨t88, ht88, hsy4'⟩ := bE hsy4; clear hsy4
           refine sqa (m_aindexA (en := eRange) (l := [t85.x0, t85.x1, t85.x2, t85.x3]) (lq rfl) A123 G104 (fun _ => rfl) rfl rfl rfl ht88) ?_
           refine sq_b rfl (step_alloc (zs := [(.int IntKind.i64 (0)), (.int IntKind.i64 (0))]) (lq rfl) (by kernel_rfl) rfl rfl) ?_
           refine sq_b rfl (s_store_boxA G104 rfl rfl rfl rfl rfl rfl) ?_
           refine sq_nil ?_
           refine avc_weak (weak_freeze (t := 11) (lq rfl) rfl rfl rfl) ?_
           refine avc_sq2 <| avc_sq ?_
           refine sqa (m_fieldPt (lq rfl) L61_0 rfl) ?_
           refine sqa (a_load_ip (lq rfl) O3 rfl rfl) ?_
           refine sqa (m_fieldPt (lq rfl) L104_1 rfl) ?_
           refine sqa (a_load_ip (lq rfl) O3 rfl rfl) ?_
           refine sqa (a_leq (lq rfl) rfl rfl) ?_
           obtain ⟨b94, hb94, hsy4⟩ := bE hsy4'; clear hsy4'
           refine sqa ((a_move_d (lq rfl) rfl).bool (Option.some.inj hb94)) ?_
           refine sq_g (x := .ip (eRange.cells t88) (0 + 0)) rfl rfl rfl (lq rfl) (lq rfl) rfl (fun hb => by obtain rfl : b94 = true := hb; exact m_fieldPt (lq rfl) L104_0 rfl) ?_
           refine sq_g (x := .d (di t88.Lo)) rfl rfl rfl (lq rfl) (lq rfl) rfl (fun hb => by obtain rfl : b94 = true := hb; exact a_load_ip (lq rfl) O3 rfl rfl) ?_
           refine sq_g (x := .ip (eSpan.cells t83) (0 + 1)) rfl rfl rfl (lq rfl) (lq rfl) rfl (fun hb => by obtain rfl : b94 = true := hb; exact m_fieldPt (lq rfl) L61_1 rfl) ?_
           refine sq_g (x := .d (di t83.Hi)) rfl rfl rfl (lq rfl) (lq rfl) rfl (fun hb => by obtain rfl : b94 = true := hb; exact a_load_ip (lq rfl) O3 rfl rfl) ?_
           refine sq_g (x := .d (db (decide (t88.Lo ≤ t83.Hi)))) rfl rfl rfl (lq rfl) (lq rfl) rfl (fun hb => by obtain rfl : b94 = true := hb; exact a_leq (lq rfl) rfl rfl) ?_
           refine sqa (a_pick_and (lq rfl) rfl rfl) ?_
           refine sq_nil ?_
           refine avc_if rfl ⟨fun c7 => ?_, fun c7 => ?_⟩
           ·
            replace hsy4 := cT c7 hsy4
            refine avc_sq2 <| avc_sq ?_
            refine sqa (a_assign_d (lq rfl) rfl) ?_
            refine sq_nil ?_
            refine avc_ret ?_
            cases hsy4
            intro q; cases q
            exact out_mk (weak_cov ⟨rfl, trivial⟩ trivial)
           ·
            replace hsy4 := cF c7 hsy4
            refine avc_skip <| avc_sq ?_
            refine sqa (m_add (lq rfl) rfl rfl) ?_
            refine sqa (a_move_d (lq rfl) rfl) ?_
            refine sq_nil ?_
            cases hsy4
            exact weak_cov ⟨rfl, rfl, rfl, rfl, rfl, rfl, trivial⟩ trivial
          ·
           replace hsy4 := cF c6 hsy4
           refine avc_exit ?_
           cases hsy4
           intro q; cases q
         ·
          cases hsy3'
          intro q; cases q
          exact out_mk (weak_cov ⟨rfl, trivial⟩ trivial)
       ·
        replace hsy3 := cF c5 hsy3
        refine avc_exit ?_
        cases hsy3
        intro q; cases q
      ·
       cases h'
       exact ret_1 rfl
   ·
    replace h := eR h
    refine avc_tail (e := .ret) (S2 := ⟨[(2, .d (di y2))], []⟩) ?_ ?_
    ·
     refine avc_loopM (fun x => ⟨[(0, .d (dsl eSpan a0)), (5, .d (di x))], []⟩) hy2 (weak_cov ⟨rfl, rfl, trivial⟩ trivial) ?_
     rintro v5 sy2 hsy2
     replace hsy2 : ordering_Check_L1 a0 v5 = some sy2 := hsy2
     unfold ordering_Check_L1 at hsy2
     refine avc_sq2 <| avc_sq2 <| avc_sq ?_
     refine sqa (a_move_d (lq rfl) rfl) ?_
     refine sqa (a_move_d (lq rfl) rfl) ?_
     refine sqa (m_len (en := eSpan) (l := a0) (lq rfl) S37 rfl) ?_
     refine sqa (a_lss (lq rfl) rfl rfl) ?_
     refine sq_nil ?_
     refine avc_if rfl ⟨fun c3 => ?_, fun c3 => ?_⟩
     ·
      replace hsy2 := cT c3 hsy2
      refine avc_skip <| avc_sq2 <| avc_block <| avc_sq2 ?_
      obtain ⟨t53, ht53, hsy2'⟩ := bE hsy2; clear hsy2
      obtain ⟨t57, ht57, hsy2⟩ := bE hsy2'; clear hsy2'
      refine avc_tail (e := .normal) (S2 := ⟨[(0, .d (dsl eSpan a0)), (5, .d (di v5)), (6, .ptr 6 0), (7, .ptr 7 0)], [(6, .box 61 [.d (di t53.Lo), .d (di t53.Hi), .d (di t53.Value)]), (7, .box 61 [.d (di t57.Lo), .d (di t57.Hi), .d (di t57.Value)])]⟩) ?_ ?_
      ·
       refine avc_any MX ?_
       refine any_move (i := 0) rfl (lq rfl) rfl rfl rfl rfl ?_
       refine any_move (i := 1) rfl (lq rfl) rfl rfl rfl rfl ?_
       refine any_sub (i := 2) rfl (lq rfl) rfl rfl rfl rfl rfl rfl ?_
       refine any_index (en := eSpan) (i := 3) rfl (lq rfl) S37 rfl rfl ht53 rfl rfl rfl rfl ?_
       refine any_move (i := 5) rfl (lq rfl) rfl rfl rfl rfl ?_
       refine any_move (i := 6) rfl (lq rfl) rfl rfl rfl rfl ?_
       refine any_index (en := eSpan) (i := 7) rfl (lq rfl) S37 rfl rfl ht57 rfl rfl rfl rfl ?_
       refine any_n [4, 8, 9, 10] (by kernel_rfl) rfl ?_
       refine any_a (i := 4) rfl rfl (m_loadEA (en := eSpan) (l := a0) (i := (wi (v5 - 1))) (v := t53) (off := 0) (lq rfl) G61 rfl ht53 rfl rfl (by decide)) ?_ ?_
       ·
        refine any_n [8, 9, 10] (by kernel_rfl) rfl ?_
        refine any_a (i := 8) rfl rfl (m_loadEA (en := eSpan) (l := a0) (i := v5) (v := t57) (off := 0) (lq rfl) G61 rfl ht57 rfl rfl (by decide)) ?_ ?_
        ·
         refine any_n [9, 10] (by kernel_rfl) rfl ?_
         refine any_b (i := 9) rfl rfl (step_alloc (zs := [(.int IntKind.i64 (0)), (.int IntKind.i64 (0)), (.int IntKind.i64 (0))]) (lq rfl) (by kernel_rfl) rfl rfl) ?_ ?_
         ·
          refine any_n [10] (by kernel_rfl) rfl ?_
          refine any_b (i := 10) rfl rfl (step_alloc (zs := [(.int IntKind.i64 (0)), (.int IntKind.i64 (0)), (.int IntKind.i64 (0))]) (lq rfl) (by kernel_rfl) rfl rfl) ?_ ?_
          ·
           refine any_n [11] (by kernel_rfl) rfl ?_
           refine any_b (i := 11) rfl rfl (s_store_boxA G61 rfl rfl rfl rfl rfl rfl) ?_ ?_
           ·
            refine any_n [12] (by kernel_rfl) rfl ?_
            refine any_b (i := 12) rfl rfl (s_store_boxA G61 rfl rfl rfl rfl rfl rfl) ?_ ?_
            ·
             exact any_end rfl (out_mk (weak_cov ⟨rfl, rfl, rfl, rfl, trivial⟩ ⟨rfl, rfl, trivial⟩))
            ·
             exact any_nil
           ·
            exact any_nil
          ·
           exact any_nil
         refine any_b (i := 10) rfl rfl (step_alloc (zs := [(.int IntKind.i64 (0)), (.int IntKind.i64 (0)), (.int IntKind.i64 (0))]) (lq rfl) (by kernel_rfl) rfl rfl) ?_ ?_
         ·
          refine any_n [9] (by kernel_rfl) rfl ?_
          refine any_b (i := 9) rfl rfl (step_alloc (zs := [(.int IntKind.i64 (0)), (.int IntKind.i64 (0)), (.int IntKind.i64 (0))]) (lq rfl) (by kernel_rfl) rfl rfl) ?_ ?_
          ·
           refine any_n [11] (by kernel_rfl) rfl ?_
           refine any_b (i := 11) rfl rfl (s_store_boxA G61 rfl rfl rfl rfl rfl rfl) ?_ ?_
           ·
            refine any_n [12] (by kernel_rfl) rfl ?_
            refine any_b (i := 12) rfl rfl (s_store_boxA G61 rfl rfl rfl rfl rfl rfl) ?_ ?_
            ·
             exact any_end rfl (out_mk (weak_cov ⟨rfl, rfl, rfl, rfl, trivial⟩ ⟨rfl, rfl, trivial⟩))
            ·
             exact any_nil
           ·
            exact any_nil
          ·
           exact any_nil
         exact any_nil
        refine any_b (i := 9) rfl rfl (step_alloc (zs := [(.int IntKind.i64 (0)), (.int IntKind.i64 (0)), (.int IntKind.i64 (0))]) (lq rfl) (by kernel_rfl) rfl rfl) ?_ ?_
        ·
         refine any_n [8, 10] (by kernel_rfl) rfl ?_
         refine any_a (i := 8) rfl rfl (m_loadEA (en := eSpan) (l := a0) (i := v5) (v := t57) (off := 0) (lq rfl) G61 rfl ht57 rfl rfl (by decide)) ?_ ?_
         ·
          refine any_n [10] (by kernel_rfl) rfl ?_
          refine any_b (i := 10) rfl rfl (step_alloc (zs := [(.int IntKind.i64 (0)), (.int IntKind.i64 (0)), (.int IntKind.i64 (0))]) (lq rfl) (by kernel_rfl) rfl rfl) ?_ ?_
          ·
           refine any_n [11] (by kernel_rfl) rfl ?_
           refine any_b (i := 11) rfl rfl (s_store_boxA G61 rfl rfl rfl rfl rfl rfl) ?_ ?_
           ·
            refine any_n [12] (by kernel_rfl) rfl ?_
            refine any_b (i := 12) rfl rfl (s_store_boxA G61 rfl rfl rfl rfl rfl rfl) ?_ ?_
            ·
             exact any_end rfl (out_mk (weak_cov ⟨rfl, rfl, rfl, rfl, trivial⟩ ⟨rfl, rfl, trivial⟩))
            ·
             exact any_nil
           ·
            exact any_nil
          ·
           exact any_nil
         refine any_b (i := 10) rfl rfl (step_alloc (zs := [(.int IntKind.i64 (0)), (.int IntKind.i64 (0)), (.int IntKind.i64 (0))]) (lq rfl) (by kernel_rfl) rfl rfl) ?_ ?_
         ·
          refine any_n [8, 11] (by kernel_rfl) rfl ?_
          refine any_a (i := 8) rfl rfl (m_loadEA (en := eSpan) (l := a0) (i := v5) (v := t57) (off := 0) (lq rfl) G61 rfl ht57 rfl rfl (by decide)) ?_ ?_
          ·
           refine any_n [11] (by kernel_rfl) rfl ?_
           refine any_b (i := 11) rfl rfl (s_store_boxA G61 rfl rfl rfl rfl rfl rfl) ?_ ?_
           ·
            refine any_n [12] (by kernel_rfl) rfl ?_
            refine any_b (i := 12) rfl rfl (s_store_boxA G61 rfl rfl rfl rfl rfl rfl) ?_ ?_
            ·
             exact any_end rfl (out_mk (weak_cov ⟨rfl, rfl, rfl, rfl, trivial⟩ ⟨rfl, rfl, trivial⟩))
            ·
             exact any_nil
           ·
            exact any_nil
          refine any_b (i := 11) rfl rfl (s_store_boxA G61 rfl rfl rfl rfl rfl rfl) ?_ ?_
          ·
           refine any_n [8] (by kernel_rfl) rfl ?_
           refine any_a (i := 8) rfl rfl (m_loadEA (en := eSpan) (l := a0) (i := v5) (v := t57) (off := 0) (lq rfl) G61 rfl ht57 rfl rfl (by decide)) ?_ ?_
           ·
            refine any_n [12] (by kernel_rfl) rfl ?_
            refine any_b (i := 12) rfl rfl (s_store_boxA G61 rfl rfl rfl rfl rfl rfl) ?_ ?_
            ·
             exact any_end rfl (out_mk (weak_cov ⟨rfl, rfl, rfl, rfl, trivial⟩ ⟨rfl, rfl, trivial⟩))
            ·
             exact any_nil
           ·
            exact any_nil
          exact any_nil
         exact any_nil
        refine any_b (i := 10) rfl rfl (step_alloc (zs := [(.int IntKind.i64 (0)), (.int IntKind.i64 (0)), (.int IntKind.i64 (0))]) (lq rfl) (by kernel_rfl) rfl rfl) ?_ ?_
        ·
         refine any_n [8, 9] (by kernel_rfl) rfl ?_
         refine any_a (i := 8) rfl rfl (m_loadEA (en := eSpan) (l := a0) (i := v5) (v := t57) (off := 0) (lq rfl) G61 rfl ht57 rfl rfl (by decide)) ?_ ?_
         ·
          refine any_n [9] (by kernel_rfl) rfl ?_
          refine any_b (i := 9) rfl rfl (step_alloc (zs := [(.int IntKind.i64 (0)), (.int IntKind.i64 (0)), (.int IntKind.i64 (0))]) (lq rfl) (by kernel_rfl) rfl rfl) ?_ ?_
          ·
           refine any_n [11] (by kernel_rfl) rfl ?_
           refine any_b (i := 11) rfl rfl (s_store_boxA G61 rfl rfl rfl rfl rfl rfl) ?_ ?_
           ·
            refine any_n [12] (by kernel_rfl) rfl ?_
            refine any_b (i := 12) rfl rfl (s_store_boxA G61 rfl rfl rfl rfl rfl rfl) ?_ ?_
            ·
             exact any_end rfl (out_mk (weak_cov ⟨rfl, rfl, rfl, rfl, trivial⟩ ⟨rfl, rfl, trivial⟩))
            ·
             exact any_nil
           ·
            exact any_nil
          ·
           exact any_nil
         refine any_b (i := 9) rfl rfl (step_alloc (zs := [(.int IntKind.i64 (0)), (.int IntKind.i64 (0)), (.int IntKind.i64 (0))]) (lq rfl) (by kernel_rfl) rfl rfl) ?_ ?_
         ·
          refine any_n [8, 11] (by kernel_rfl) rfl ?_
          refine any_a (i := 8) rfl rfl (m_loadEA (en := eSpan) (l := a0) (i := v5) (v := t57) (off := 0) (lq rfl) G61 rfl ht57 rfl rfl (by decide)) ?_ ?_
          ·
           refine any_n [11] (by kernel_rfl) rfl ?_
           refine any_b (i := 11) rfl rfl (s_store_boxA G61 rfl rfl rfl rfl rfl rfl) ?_ ?_
           ·
            refine any_n [12] (by kernel_rfl) rfl ?_
            refine any_b (i := 12) rfl rfl (s_store_boxA G61 rfl rfl rfl rfl rfl rfl) ?_ ?_
            ·
             exact any_end rfl (out_mk (weak_cov ⟨rfl, rfl, rfl, rfl, trivial⟩ ⟨rfl, rfl, trivial⟩))
            ·
             exact any_nil
           ·
            exact any_nil
          refine any_b (i := 11) rfl rfl (s_store_boxA G61 rfl rfl rfl rfl rfl rfl) ?_ ?_
          ·
           refine any_n [8] (by kernel_rfl) rfl ?_
           refine any_a (i := 8) rfl rfl (m_loadEA (en := eSpan) (l := a0) (i := v5) (v := t57) (off := 0) (lq rfl) G61 rfl ht57 rfl rfl (by decide)) ?_ ?_
           ·
            refine any_n [12] (by kernel_rfl) rfl ?_
            refine any_b (i := 12) rfl rfl (s_store_boxA G61 rfl rfl rfl rfl rfl rfl) ?_ ?_
            ·
             exact any_end rfl (out_mk (weak_cov ⟨rfl, rfl, rfl, rfl, trivial⟩ ⟨rfl, rfl, trivial⟩))
            ·
             exact any_nil
           ·
            exact any_nil
          exact any_nil
         exact any_nil
        exact any_nil
       refine any_a (i := 8) rfl rfl (m_loadEA (en := eSpan) (l := a0) (i := v5) (v := t57) (off := 0) (lq rfl) G61 rfl ht57 rfl rfl (by decide)) ?_ ?_
       ·
        refine any_n [4, 9, 10] (by kernel_rfl) rfl ?_
        refine any_a (i := 4) rfl rfl (m_loadEA (en := eSpan) (l := a0) (i := (wi (v5 - 1))) (v := t53) (off := 0) (lq rfl) G61 rfl ht53 rfl rfl (by decide)) ?_ ?_
        ·
         refine any_n [9, 10] (by kernel_rfl) rfl ?_
         refine any_b (i := 9) rfl rfl (step_alloc (zs := [(.int IntKind.i64 (0)), (.int IntKind.i64 (0)), (.int IntKind.i64 (0))]) (lq rfl) (by kernel_rfl) rfl rfl) ?_ ?_
         ·
          refine any_n [10] (by kernel_rfl) rfl ?_
          refine any_b (i := 10) rfl rfl (step_alloc (zs := [(.int IntKind.i64 (0)), (.int IntKind.i64 (0)), (.int IntKind.i64 (0))]) (lq rfl) (by kernel_rfl) rfl rfl) ?_ ?_
          ·
           refine any_n [11] (by kernel_rfl) rfl ?_
           refine any_b (i := 11) rfl rfl (s_store_boxA G61 rfl rfl rfl rfl rfl rfl) ?_ ?_
           ·
            refine any_n [12] (by kernel_rfl) rfl ?_
            refine any_b (i := 12) rfl rfl (s_store_boxA G61 rfl rfl rfl rfl rfl rfl) ?_ ?_
            ·
             exact any_end rfl (out_mk (weak_cov ⟨rfl, rfl, rfl, rfl, trivial⟩ ⟨rfl, rfl, trivial⟩))
            ·
             exact any_nil
           ·
            exact any_nil
          ·
           exact any_nil
         refine any_b (i := 10) rfl rfl (step_alloc (zs := [(.int IntKind.i64 (0)), (.int IntKind.i64 (0)), (.int IntKind.i64 (0))]) (lq rfl) (by kernel_rfl) rfl rfl) ?_ ?_
         ·
          refine any_n [9] (by kernel_rfl) rfl ?_
          refine any_b (i := 9) rfl rfl (step_alloc (zs := [(.int IntKind.i64 (0)), (.int IntKind.i64 (0)), (.int IntKind.i64 (0))]) (lq rfl) (by kernel_rfl) rfl rfl) ?_ ?_
          ·
           refine any_n [11] (by kernel_rfl) rfl ?_
           refine any_b (i := 11) rfl rfl (s_store_boxA G61 rfl rfl rfl rfl rfl rfl) ?_ ?_
           ·
            refine any_n [12] (by kernel_rfl) rfl ?_
            refine any_b (i := 12) rfl rfl (s_store_boxA G61 rfl rfl rfl rfl rfl rfl) ?_ ?_
            ·
             exact any_end rfl (out_mk (weak_cov ⟨rfl, rfl, rfl, rfl, trivial⟩ ⟨rfl, rfl, trivial⟩))
            ·
             exact any_nil
           ·
            exact any_nil
          ·
           exact any_nil
         exact any_nil
        refine any_b (i := 9) rfl rfl (step_alloc (zs := [(.int IntKind.i64 (0)), (.int IntKind.i64 (0)), (.int IntKind.i64 (0))]) (lq rfl) (by kernel_rfl) rfl rfl) ?_ ?_
        ·
         refine any_n [4, 10] (by kernel_rfl) rfl ?_
         refine any_a (i := 4) rfl rfl (m_loadEA (en := eSpan) (l := a0) (i := (wi (v5 - 1))) (v := t53) (off := 0) (lq rfl) G61 rfl ht53 rfl rfl (by decide)) ?_ ?_
         ·
          refine any_n [10] (by kernel_rfl) rfl ?_
          refine any_b (i := 10) rfl rfl (step_alloc (zs := [(.int IntKind.i64 (0)), (.int IntKind.i64 (0)), (.int IntKind.i64 (0))]) (lq rfl) (by kernel_rfl) rfl rfl) ?_ ?_
          ·
           refine any_n [11] (by kernel_rfl) rfl ?_
           refine any_b (i := 11) rfl rfl (s_store_boxA G61 rfl rfl rfl rfl rfl rfl) ?_ ?_
           ·
            refine any_n [12] (by kernel_rfl) rfl ?_
            refine any_b (i := 12) rfl rfl (s_store_boxA G61 rfl rfl rfl rfl rfl rfl) ?_ ?_
            ·
             exact any_end rfl (out_mk (weak_cov ⟨rfl, rfl, rfl, rfl, trivial⟩ ⟨rfl, rfl, trivial⟩))
            ·
             exact any_nil
           ·
            exact any_nil
          ·
           exact any_nil
         refine any_b (i := 10) rfl rfl (step_alloc (zs := [(.int IntKind.i64 (0)), (.int IntKind.i64 (0)), (.int IntKind.i64 (0))]) (lq rfl) (by kernel_rfl) rfl rfl) ?_ ?_
         ·
          refine any_n [4] (by kernel_rfl) rfl ?_
          refine any_a (i := 4) rfl rfl (m_loadEA (en := eSpan) (l := a0) (i := (wi (v5 - 1))) (v := t53) (off := 0) (lq rfl) G61 rfl ht53 rfl rfl (by decide)) ?_ ?_
          ·
           refine any_n [11] (by kernel_rfl) rfl ?_
           refine any_b (i := 11) rfl rfl (s_store_boxA G61 rfl rfl rfl rfl rfl rfl) ?_ ?_
           ·
            refine any_n [12] (by kernel_rfl) rfl ?_
            refine any_b (i := 12) rfl rfl (s_store_boxA G61 rfl rfl rfl rfl rfl rfl) ?_ ?_
            ·
             exact any_end rfl (out_mk (weak_cov ⟨rfl, rfl, rfl, rfl, trivial⟩ ⟨rfl, rfl, trivial⟩))
            ·
             exact any_nil
           ·
            exact any_nil
          ·
           exact any_nil
         exact any_nil
        refine any_b (i := 10) rfl rfl (step_alloc (zs := [(.int IntKind.i64 (0)), (.int IntKind.i64 (0)), (.int IntKind.i64 (0))]) (lq rfl) (by kernel_rfl) rfl rfl) ?_ ?_
        ·
         refine any_n [4, 9] (by kernel_rfl) rfl ?_
         refine any_a (i := 4) rfl rfl (m_loadEA (en := eSpan) (l := a0) (i := (wi (v5 - 1))) (v := t53) (off := 0) (lq rfl) G61 rfl ht53 rfl rfl (by decide)) ?_ ?_
         ·
          refine any_n [9] (by kernel_rfl) rfl ?_
          refine any_b (i := 9) rfl rfl (step_alloc (zs := [(.int IntKind.i64 (0)), (.int IntKind.i64 (0)), (.int IntKind.i64 (0))]) (lq rfl) (by kernel_rfl) rfl rfl) ?_ ?_
          ·
           refine any_n [11] (by kernel_rfl) rfl ?_
           refine any_b (i := 11) rfl rfl (s_store_boxA G61 rfl rfl rfl rfl rfl rfl) ?_ ?_
           ·
            refine any_n [12] (by kernel_rfl) rfl ?_
            refine any_b (i := 12) rfl rfl (s_store_boxA G61 rfl rfl rfl rfl rfl rfl) ?_ ?_
            ·
             exact any_end rfl (out_mk (weak_cov ⟨rfl, rfl, rfl, rfl, trivial⟩ ⟨rfl, rfl, trivial⟩))
            ·
             exact any_nil
           ·
            exact any_nil
          ·
           exact any_nil
         refine any_b (i := 9) rfl rfl (step_alloc (zs := [(.int IntKind.i64 (0)), (.int IntKind.i64 (0)), (.int IntKind.i64 (0))]) (lq rfl) (by kernel_rfl) rfl rfl) ?_ ?_
         ·
          refine any_n [4] (by kernel_rfl) rfl ?_
          refine any_a (i := 4) rfl rfl (m_loadEA (en := eSpan) (l := a0) (i := (wi (v5 - 1))) (v := t53) (off := 0) (lq rfl) G61 rfl ht53 rfl rfl (by decide)) ?_ ?_
          ·
           refine any_n [11] (by kernel_rfl) rfl ?_
           refine any_b (i := 11) rfl rfl (s_store_boxA G61 rfl rfl rfl rfl rfl rfl) ?_ ?_
           ·
            refine any_n [12] (by kernel_rfl) rfl ?_
            refine any_b (i := 12) rfl rfl (s_store_boxA G61 rfl rfl rfl rfl rfl rfl) ?_ ?_
            ·
             exact any_end rfl (out_mk (weak_cov ⟨rfl, rfl, rfl, rfl, trivial⟩ ⟨rfl, rfl, trivial⟩))
            ·
             exact any_nil
           ·
            exact any_nil
          ·
           exact any_nil
         exact any_nil
        exact any_nil
       refine any_b (i := 9) rfl rfl (step_alloc (zs := [(.int IntKind.i64 (0)), (.int IntKind.i64 (0)), (.int IntKind.i64 (0))]) (lq rfl) (by kernel_rfl) rfl rfl) ?_ ?_
       ·
        refine any_n [4, 8, 10] (by kernel_rfl) rfl ?_
        refine any_a (i := 4) rfl rfl (m_loadEA (en := eSpan) (l := a0) (i := (wi (v5 - 1))) (v := t53) (off := 0) (lq rfl) G61 rfl ht53 rfl rfl (by decide)) ?_ ?_
        ·
         refine any_n [8, 10] (by kernel_rfl) rfl ?_
         refine any_a (i := 8) rfl rfl (m_loadEA (en := eSpan) (l := a0) (i := v5) (v := t57) (off := 0) (lq rfl) G61 rfl ht57 rfl rfl (by decide)) ?_ ?_
         ·
          refine any_n [10] (by kernel_rfl) rfl ?_
          refine any_b (i := 10) rfl rfl (step_alloc (zs := [(.int IntKind.i64 (0)), (.int IntKind.i64 (0)), (.int IntKind.i64 (0))]) (lq rfl) (by kernel_rfl) rfl rfl) ?_ ?_
          ·
           refine any_n [11] (by kernel_rfl) rfl ?_
           refine any_b (i := 11) rfl rfl (s_store_boxA G61 rfl rfl rfl rfl rfl rfl) ?_ ?_
           ·
            refine any_n [12] (by kernel_rfl) rfl ?_
            refine any_b (i := 12) rfl rfl (s_store_boxA G61 rfl rfl rfl rfl rfl rfl) ?_ ?_
            ·
             exact any_end rfl (out_mk (weak_cov ⟨rfl, rfl, rfl, rfl, trivial⟩ ⟨rfl, rfl, trivial⟩))
            ·
             exact any_nil
           ·
            exact any_nil
          ·
           exact any_nil
         refine any_b (i := 10) rfl rfl (step_alloc (zs := [(.int IntKind.i64 (0)), (.int IntKind.i64 (0)), (.int IntKind.i64 (0))]) (lq rfl) (by kernel_rfl) rfl rfl) ?_ ?_
         ·
          refine any_n [8, 11] (by kernel_rfl) rfl ?_
          refine any_a (i := 8) rfl rfl (m_loadEA (en := eSpan) (l := a0) (i := v5) (v := t57) (off := 0) (lq rfl) G61 rfl ht57 rfl rfl (by decide)) ?_ ?_
          ·
           refine any_n [11] (by kernel_rfl) rfl ?_
           refine any_b (i := 11) rfl rfl (s_store_boxA G61 rfl rfl rfl rfl rfl rfl) ?_ ?_
           ·
            refine any_n [12] (by kernel_rfl) rfl ?_
            refine any_b (i := 12) rfl rfl (s_store_boxA G61 rfl rfl rfl rfl rfl rfl) ?_ ?_
            ·
             exact any_end rfl (out_mk (weak_cov ⟨rfl, rfl, rfl, rfl, trivial⟩ ⟨rfl, rfl, trivial⟩))
            ·
             exact any_nil
           ·
            exact any_nil
          refine any_b (i := 11) rfl rfl (s_store_boxA G61 rfl rfl rfl rfl rfl rfl) ?_ ?_
          ·
           refine any_n [8] (by kernel_rfl) rfl ?_
           refine any_a (i := 8) rfl rfl (m_loadEA (en := eSpan) (l := a0) (i := v5) (v := t57) (off := 0) (lq rfl) G61 rfl ht57 rfl rfl (by decide)) ?_ ?_
           ·
            refine any_n [12] (by kernel_rfl) rfl ?_
            refine any_b (i := 12) rfl rfl (s_store_boxA G61 rfl rfl rfl rfl rfl rfl) ?_ ?_
            ·
             exact any_end rfl (out_mk (weak_cov ⟨rfl, rfl, rfl, rfl, trivial⟩ ⟨rfl, rfl, trivial⟩))
            ·
             exact any_nil
           ·
            exact any_nil
          exact any_nil
         exact any_nil
        refine any_a (i := 8) rfl rfl (m_loadEA (en := eSpan) (l := a0) (i := v5) (v := t57) (off := 0) (lq rfl) G61 rfl ht57 rfl rfl (by decide)) ?_ ?_
        ·
         refine any_n [4, 10] (by kernel_rfl) rfl ?_
         refine any_a (i := 4) rfl rfl (m_loadEA (en := eSpan) (l := a0) (i := (wi (v5 - 1))) (v := t53) (off := 0) (lq rfl) G61 rfl ht53 rfl rfl (by decide)) ?_ ?_
         ·
          refine any_n [10] (by kernel_rfl) rfl ?_
          refine any_b (i := 10) rfl rfl (step_alloc (zs := [(.int IntKind.i64 (0)), (.int IntKind.i64 (0)), (.int IntKind.i64 (0))]) (lq rfl) (by kernel_rfl) rfl rfl) ?_ ?_
          ·
           refine any_n [11] (by kernel_rfl) rfl ?_
           refine any_b (i := 11) rfl rfl (s_store_boxA G61 rfl rfl rfl rfl rfl rfl) ?_ ?_
           ·
            refine any_n [12] (by kernel_rfl) rfl ?_
            refine any_b (i := 12) rfl rfl (s_store_boxA G61 rfl rfl rfl rfl rfl rfl) ?_ ?_
            ·
             exact any_end rfl (out_mk (weak_cov ⟨rfl, rfl, rfl, rfl, trivial⟩ ⟨rfl, rfl, trivial⟩))
            ·
             exact any_nil
           ·
            exact any_nil
          ·
           exact any_nil
         refine any_b (i := 10) rfl rfl (step_alloc (zs := [(.int IntKind.i64 (0)), (.int IntKind.i64 (0)), (.int IntKind.i64 (0))]) (lq rfl) (by kernel_rfl) rfl rfl) ?_ ?_
         ·
          refine any_n [4] (by kernel_rfl) rfl ?_
          refine any_a (i := 4) rfl rfl (m_loadEA (en := eSpan) (l := a0) (i := (wi (v5 - 1))) (v := t53) (off := 0) (lq rfl) G61 rfl ht53 rfl rfl (by decide)) ?_ ?_
          ·
           refine any_n [11] (by kernel_rfl) rfl ?_
           refine any_b (i := 11) rfl rfl (s_store_boxA G61 rfl rfl rfl rfl rfl rfl) ?_ ?_
           ·
            refine any_n [12] (by kernel_rfl) rfl ?_
            refine any_b (i := 12) rfl rfl (s_store_boxA G61 rfl rfl rfl rfl rfl rfl) ?_ ?_
            ·
             exact any_end rfl (out_mk (weak_cov ⟨rfl, rfl, rfl, rfl, trivial⟩ ⟨rfl, rfl, trivial⟩))
            ·
             exact any_nil
           ·
            exact any_nil
          ·
           exact any_nil
         exact any_nil
        refine any_b (i := 10) rfl rfl (step_alloc (zs := [(.int IntKind.i64 (0)), (.int IntKind.i64 (0)), (.int IntKind.i64 (0))]) (lq rfl) (by kernel_rfl) rfl rfl) ?_ ?_
        ·
         refine any_n [4, 8] (by kernel_rfl) rfl ?_
         refine any_a (i := 4) rfl rfl (m_loadEA (en := eSpan) (l := a0) (i := (wi (v5 - 1))) (v := t53) (off := 0) (lq rfl) G61 rfl ht53 rfl rfl (by decide)) ?_ ?_
         ·
          refine any_n [8, 11] (by kernel_rfl) rfl ?_
          refine any_a (i := 8) rfl rfl (m_loadEA (en := eSpan) (l := a0) (i := v5) (v := t57) (off := 0) (lq rfl) G61 rfl ht57 rfl rfl (by decide)) ?_ ?_
          ·
           refine any_n [11] (by kernel_rfl) rfl ?_
           refine any_b (i := 11) rfl rfl (s_store_boxA G61 rfl rfl rfl rfl rfl rfl) ?_ ?_
           ·
            refine any_n [12] (by kernel_rfl) rfl ?_
            refine any_b (i := 12) rfl rfl (s_store_boxA G61 rfl rfl rfl rfl rfl rfl) ?_ ?_
            ·
             exact any_end rfl (out_mk (weak_cov ⟨rfl, rfl, rfl, rfl, trivial⟩ ⟨rfl, rfl, trivial⟩))
            ·
             exact any_nil
           ·
            exact any_nil
          refine any_b (i := 11) rfl rfl (s_store_boxA G61 rfl rfl rfl rfl rfl rfl) ?_ ?_
          ·
           refine any_n [8] (by kernel_rfl) rfl ?_
           refine any_a (i := 8) rfl rfl (m_loadEA (en := eSpan) (l := a0) (i := v5) (v := t57) (off := 0) (lq rfl) G61 rfl ht57 rfl rfl (by decide)) ?_ ?_
           ·
            refine any_n [12] (by kernel_rfl) rfl ?_
            refine any_b (i := 12) rfl rfl (s_store_boxA G61 rfl rfl rfl rfl rfl rfl) ?_ ?_
            ·
             exact any_end rfl (out_mk (weak_cov ⟨rfl, rfl, rfl, rfl, trivial⟩ ⟨rfl, rfl, trivial⟩))
            ·
             exact any_nil
           ·
            exact any_nil
          exact any_nil
         refine any_a (i := 8) rfl rfl (m_loadEA (en := eSpan) (l := a0) (i := v5) (v := t57) (off := 0) (lq rfl) G61 rfl ht57 rfl rfl (by decide)) ?_ ?_
         ·
          refine any_n [4] (by kernel_rfl) rfl ?_
          refine any_a (i := 4) rfl rfl (m_loadEA (en := eSpan) (l := a0) (i := (wi (v5 - 1))) (v := t53) (off := 0) (lq rfl) G61 rfl ht53 rfl rfl (by decide)) ?_ ?_
          ·
           refine any_n [11] (by kernel_rfl) rfl ?_
           refine any_b (i := 11) rfl rfl (s_store_boxA G61 rfl rfl rfl rfl rfl rfl) ?_ ?_
           ·
            refine any_n [12] (by kernel_rfl) rfl ?_
            refine any_b (i := 12) rfl rfl (s_store_boxA G61 rfl rfl rfl rfl rfl rfl) ?_ ?_
            ·
             exact any_end rfl (out_mk (weak_cov ⟨rfl, rfl, rfl, rfl, trivial⟩ ⟨rfl, rfl, trivial⟩))
            ·
             exact any_nil
           ·
            exact any_nil
          ·
           exact any_nil
         exact any_nil
        exact any_nil
       refine any_b (i := 10) rfl rfl (step_alloc (zs := [(.int IntKind.i64 (0)), (.int IntKind.i64 (0)), (.int IntKind.i64 (0))]) (lq rfl) (by kernel_rfl) rfl rfl) ?_ ?_
       ·
        refine any_n [4, 8, 9] (by kernel_rfl) rfl ?_
        refine any_a (i := 4) rfl rfl (m_loadEA (en := eSpan) (l := a0) (i := (wi (v5 - 1))) (v := t53) (off := 0) (lq rfl) G61 rfl ht53 rfl rfl (by decide)) ?_ ?_
        ·
         refine any_n [8, 9] (by kernel_rfl) rfl ?_
         refine any_a (i := 8) rfl rfl (m_loadEA (en := eSpan) (l := a0) (i := v5) (v := t57) (off := 0) (lq rfl) G61 rfl ht57 rfl rfl (by decide)) ?_ ?_
         ·
          refine any_n [9] (by kernel_rfl) rfl ?_
          refine any_b (i := 9) rfl rfl (step_alloc (zs := [(.int IntKind.i64 (0)), (.int IntKind.i64 (0)), (.int IntKind.i64 (0))]) (lq rfl) (by kernel_rfl) rfl rfl) ?_ ?_
          ·
           refine any_n [11] (by kernel_rfl) rfl ?_
           refine any_b (i := 11) rfl rfl (s_store_boxA G61 rfl rfl rfl rfl rfl rfl) ?_ ?_
           ·
            refine any_n [12] (by kernel_rfl) rfl ?_
            refine any_b (i := 12) rfl rfl (s_store_boxA G61 rfl rfl rfl rfl rfl rfl) ?_ ?_
            ·
             exact any_end rfl (out_mk (weak_cov ⟨rfl, rfl, rfl, rfl, trivial⟩ ⟨rfl, rfl, trivial⟩))
            ·
             exact any_nil
           ·
            exact any_nil
          ·
           exact any_nil
         refine any_b (i := 9) rfl rfl (step_alloc (zs := [(.int IntKind.i64 (0)), (.int IntKind.i64 (0)), (.int IntKind.i64 (0))]) (lq rfl) (by kernel_rfl) rfl rfl) ?_ ?_
         ·
          refine any_n [8, 11] (by kernel_rfl) rfl ?_
          refine any_a (i := 8) rfl rfl (m_loadEA (en := eSpan) (l := a0) (i := v5) (v := t57) (off := 0) (lq rfl) G61 rfl ht57 rfl rfl (by decide)) ?_ ?_
          ·
           refine any_n [11] (by kernel_rfl) rfl ?_
           refine any_b (i := 11) rfl rfl (s_store_boxA G61 rfl rfl rfl rfl rfl rfl) ?_ ?_
           ·
            refine any_n [12] (by kernel_rfl) rfl ?_
            refine any_b (i := 12) rfl rfl (s_store_boxA G61 rfl rfl rfl rfl rfl rfl) ?_ ?_
            ·
             exact any_end rfl (out_mk (weak_cov ⟨rfl, rfl, rfl, rfl, trivial⟩ ⟨rfl, rfl, trivial⟩))
            ·
             exact any_nil
           ·
            exact any_nil
          refine any_b (i := 11) rfl rfl (s_store_boxA G61 rfl rfl rfl rfl rfl rfl) ?_ ?_
          ·
           refine any_n [8] (by kernel_rfl) rfl ?_
           refine any_a (i := 8) rfl rfl (m_loadEA (en := eSpan) (l := a0) (i := v5) (v := t57) (off := 0) (lq rfl) G61 rfl ht57 rfl rfl (by decide)) ?_ ?_
           ·
            refine any_n [12] (by kernel_rfl) rfl ?_
            refine any_b (i := 12) rfl rfl (s_store_boxA G61 rfl rfl rfl rfl rfl rfl) ?_ ?_
            ·
             exact any_end rfl (out_mk (weak_cov ⟨rfl, rfl, rfl, rfl, trivial⟩ ⟨rfl, rfl, trivial⟩))
            ·
             exact any_nil
           ·
            exact any_nil
          exact any_nil
         exact any_nil
        refine any_a (i := 8) rfl rfl (m_loadEA (en := eSpan) (l := a0) (i := v5) (v := t57) (off := 0) (lq rfl) G61 rfl ht57 rfl rfl (by decide)) ?_ ?_
        ·
         refine any_n [4, 9] (by kernel_rfl) rfl ?_
         refine any_a (i := 4) rfl rfl (m_loadEA (en := eSpan) (l := a0) (i := (wi (v5 - 1))) (v := t53) (off := 0) (lq rfl) G61 rfl ht53 rfl rfl (by decide)) ?_ ?_
         ·
          refine any_n [9] (by kernel_rfl) rfl ?_
          refine any_b (i := 9) rfl rfl (step_alloc (zs := [(.int IntKind.i64 (0)), (.int IntKind.i64 (0)), (.int IntKind.i64 (0))]) (lq rfl) (by kernel_rfl) rfl rfl) ?_ ?_
          ·
           refine any_n [11] (by kernel_rfl) rfl ?_
           refine any_b (i := 11) rfl rfl (s_store_boxA G61 rfl rfl rfl rfl rfl rfl) ?_ ?_
           ·
            refine any_n [12] (by kernel_rfl) rfl ?_
            refine any_b (i := 12) rfl rfl (s_store_boxA G61 rfl rfl rfl rfl rfl rfl) ?_ ?_
            ·
             exact any_end rfl (out_mk (weak_cov ⟨rfl, rfl, rfl, rfl, trivial⟩ ⟨rfl, rfl, trivial⟩))
            ·
             exact any_nil
           ·
            exact any_nil
          ·
           exact any_nil
         refine any_b (i := 9) rfl rfl (step_alloc (zs := [(.int IntKind.i64 (0)), (.int IntKind.i64 (0)), (.int IntKind.i64 (0))]) (lq rfl) (by kernel_rfl) rfl rfl) ?_ ?_
         ·
          refine any_n [4] (by kernel_rfl) rfl ?_
          refine any_a (i := 4) rfl rfl (m_loadEA (en := eSpan) (l := a0) (i := (wi (v5 - 1))) (v := t53) (off := 0) (lq rfl) G61 rfl ht53 rfl rfl (by decide)) ?_ ?_
          ·
           refine any_n [11] (by kernel_rfl) rfl ?_
           refine any_b (i := 11) rfl rfl (s_store_boxA G61 rfl rfl rfl rfl rfl rfl) ?_ ?_
           ·
            refine any_n [12] (by kernel_rfl) rfl ?_
            refine any_b (i := 12) rfl rfl (s_store_boxA G61 rfl rfl rfl rfl rfl rfl) ?_ ?_
            ·
             exact any_end rfl (out_mk (weak_cov ⟨rfl, rfl, rfl, rfl, trivial⟩ ⟨rfl, rfl, trivial⟩))
            ·
             exact any_nil
           ·
            exact any_nil
          ·
           exact any_nil
         exact any_nil
        refine any_b (i := 9) rfl rfl (step_alloc (zs := [(.int IntKind.i64 (0)), (.int IntKind.i64 (0)), (.int IntKind.i64 (0))]) (lq rfl) (by kernel_rfl) rfl rfl) ?_ ?_
        ·
         refine any_n [4, 8] (by kernel_rfl) rfl ?_
         refine any_a (i := 4) rfl rfl (m_loadEA (en := eSpan) (l := a0) (i := (wi (v5 - 1))) (v := t53) (off := 0) (lq rfl) G61 rfl ht53 rfl rfl (by decide)) ?_ ?_
         ·
          refine any_n [8, 11] (by kernel_rfl) rfl ?_
          refine any_a (i := 8) rfl rfl (m_loadEA (en := eSpan) (l := a0) (i := v5) (v := t57) (off := 0) (lq rfl) G61 rfl ht57 rfl rfl (by decide)) ?_ ?_
          ·
           refine any_n [11] (by kernel_rfl) rfl ?_
           refine any_b (i := 11) rfl rfl (s_store_boxA G61 rfl rfl rfl rfl rfl rfl) ?_ ?_
           ·
            refine any_n [12] (by kernel_rfl) rfl ?_
            refine any_b (i := 12) rfl rfl (s_store_boxA G61 rfl rfl rfl rfl rfl rfl) ?_ ?_
            ·
             exact any_end rfl (out_mk (weak_cov ⟨rfl, rfl, rfl, rfl, trivial⟩ ⟨rfl, rfl, trivial⟩))
            ·
             exact any_nil
           ·
            exact any_nil
          refine any_b (i := 11) rfl rfl (s_store_boxA G61 rfl rfl rfl rfl rfl rfl) ?_ ?_
          ·
           refine any_n [8] (by kernel_rfl) rfl ?_
           refine any_a (i := 8) rfl rfl (m_loadEA (en := eSpan) (l := a0) (i := v5) (v := t57) (off := 0) (lq rfl) G61 rfl ht57 rfl rfl (by decide)) ?_ ?_
           ·
            refine any_n [12] (by kernel_rfl) rfl ?_
            refine any_b (i := 12) rfl rfl (s_store_boxA G61 rfl rfl rfl rfl rfl rfl) ?_ ?_
            ·
             exact any_end rfl (out_mk (weak_cov ⟨rfl, rfl, rfl, rfl, trivial⟩ ⟨rfl, rfl, trivial⟩))
            ·
             exact any_nil
           ·
            exact any_nil
          exact any_nil
         refine any_a (i := 8) rfl rfl (m_loadEA (en := eSpan) (l := a0) (i := v5) (v := t57) (off := 0) (lq rfl) G61 rfl ht57 rfl rfl (by decide)) ?_ ?_
         ·
          refine any_n [4] (by kernel_rfl) rfl ?_
          refine any_a (i := 4) rfl rfl (m_loadEA (en := eSpan) (l := a0) (i := (wi (v5 - 1))) (v := t53) (off := 0) (lq rfl) G61 rfl ht53 rfl rfl (by decide)) ?_ ?_
          ·
           refine any_n [11] (by kernel_rfl) rfl ?_
           refine any_b (i := 11) rfl rfl (s_store_boxA G61 rfl rfl rfl rfl rfl rfl) ?_ ?_
           ·
            refine any_n [12] (by kernel_rfl) rfl ?_
            refine any_b (i := 12) rfl rfl (s_store_boxA G61 rfl rfl rfl rfl rfl rfl) ?_ ?_
            ·
             exact any_end rfl (out_mk (weak_cov ⟨rfl, rfl, rfl, rfl, trivial⟩ ⟨rfl, rfl, trivial⟩))
            ·
             exact any_nil
           ·
            exact any_nil
          ·
           exact any_nil
         exact any_nil
        exact any_nil
       exact any_nil
      refine avc_weak (weak_freeze (t := 6) (lq rfl) rfl rfl rfl) ?_
      refine avc_weak (weak_freeze (t := 7) (lq rfl) rfl rfl rfl) ?_
      refine avc_sq2 <| avc_sq ?_
      refine sqa (m_fieldPt (lq rfl) L61_0 rfl) ?_
      refine sqa (a_load_ip (lq rfl) O3 rfl rfl) ?_
      refine sqa (m_fieldPt (lq rfl) L61_1 rfl) ?_
      refine sqa (a_load_ip (lq rfl) O3 rfl rfl) ?_
      refine sqa (a_leq (lq rfl) rfl rfl) ?_
      obtain ⟨b64, hb64, hsy2'⟩ := bE hsy2; clear hsy2
      refine sqa ((a_move_d (lq rfl) rfl).bool (Option.some.inj hb64)) ?_
      refine sq_g (x := .ip (eSpan.cells t57) (0 + 0)) rfl rfl rfl (lq rfl) (lq rfl) rfl (fun hb => by obtain rfl := gF hb; exact m_fieldPt (lq rfl) L61_0 rfl) ?_
      refine sq_g (x := .d (di t57.Lo)) rfl rfl rfl (lq rfl) (lq rfl) rfl (fun hb => by obtain rfl := gF hb; exact a_load_ip (lq rfl) O3 rfl rfl) ?_
      refine sq_g (x := .ip (eSpan.cells t53) (0 + 1)) rfl rfl rfl (lq rfl) (lq rfl) rfl (fun hb => by obtain rfl := gF hb; exact m_fieldPt (lq rfl) L61_1 rfl) ?_
      refine sq_g (x := .d (di t53.Hi)) rfl rfl rfl (lq rfl) (lq rfl) rfl (fun hb => by obtain rfl := gF hb; exact a_load_ip (lq rfl) O3 rfl rfl) ?_
      refine sq_g (x := .d (di (wi (t53.Hi + 1)))) rfl rfl rfl (lq rfl) (lq rfl) rfl (fun hb => by obtain rfl := gF hb; exact m_add (lq rfl) rfl rfl) ?_
      refine sq_g (x := .d (db (decide (t57.Lo = (wi (t53.Hi + 1)))))) rfl rfl rfl (lq rfl) (lq rfl) rfl (fun hb => by obtain rfl := gF hb; exact a_eql (lq rfl) rfl rfl) ?_
      obtain ⟨b71, hb71, hsy2⟩ := bE hsy2'; clear hsy2'
      refine sq_g (x := .d (db b71)) rfl rfl rfl (lq rfl) (lq rfl) rfl (fun hb => by obtain rfl := gF hb; exact (a_move_d (lq rfl) rfl).bool (Option.some.inj hb71)) ?_
      refine sq_g2 (x := .ip (eSpan.cells t57) (0 + 2)) rfl rfl rfl (lq rfl) (lq rfl) rfl (fun hb => by obtain ⟨hb, hb1⟩ := and_split hb; obtain rfl := gF hb; obtain rfl : b71 = true := hb1; exact m_fieldPt (lq rfl) L61_2 rfl) ?_
      refine sq_g2 (x := .d (di t57.Value)) rfl rfl rfl (lq rfl) (lq rfl) rfl (fun hb => by obtain ⟨hb, hb1⟩ := and_split hb; obtain rfl := gF hb; obtain rfl : b71 = true := hb1; exact a_load_ip (lq rfl) O3 rfl rfl) ?_
      refine sq_g2 (x := .ip (eSpan.cells t53) (0 + 2)) rfl rfl rfl (lq rfl) (lq rfl) rfl (fun hb => by obtain ⟨hb, hb1⟩ := and_split hb; obtain rfl := gF hb; obtain rfl : b71 = true := hb1; exact m_fieldPt (lq rfl) L61_2 rfl) ?_
      refine sq_g2 (x := .d (di t53.Value)) rfl rfl rfl (lq rfl) (lq rfl) rfl (fun hb => by obtain ⟨hb, hb1⟩ := and_split hb; obtain rfl := gF hb; obtain rfl : b71 = true := hb1; exact a_load_ip (lq rfl) O3 rfl rfl) ?_
      refine sq_g2 (x := .d (db (decide (t57.Value = t53.Value)))) rfl rfl rfl (lq rfl) (lq rfl) rfl (fun hb => by obtain ⟨hb, hb1⟩ := and_split hb; obtain rfl := gF hb; obtain rfl : b71 = true := hb1; exact a_eql (lq rfl) rfl rfl) ?_
      refine sq_g (x := .d (db (b71 && (decide (t57.Value = t53.Value))))) rfl rfl rfl (lq rfl) (lq rfl) rfl (fun hb => by obtain rfl := gF hb; exact a_pick_and (lq rfl) rfl rfl) ?_
      refine sqa (a_pick_or (lq rfl) rfl rfl) ?_
      refine sq_nil ?_
      refine avc_if rfl ⟨fun c4 => ?_, fun c4 => ?_⟩
      ·
       replace hsy2 := cT c4 hsy2
       refine avc_sq2 <| avc_sq ?_
       refine sqa (a_assign_d (lq rfl) rfl) ?_
       refine sq_nil ?_
       refine avc_ret ?_
       cases hsy2
       intro q; cases q
       exact out_mk (weak_cov ⟨rfl, trivial⟩ trivial)
      ·
       replace hsy2 := cF c4 hsy2
       refine avc_skip <| avc_sq ?_
       refine sqa (a_move_d (lq rfl) rfl) ?_
       refine sqa (m_add (lq rfl) rfl rfl) ?_
       refine sqa (a_assign_d (lq rfl) rfl) ?_
       refine sq_nil ?_
       cases hsy2
       exact weak_cov ⟨rfl, rfl, trivial⟩ trivial
     ·
      replace hsy2 := cF c3 hsy2
      refine avc_exit ?_
      cases hsy2
      intro q; cases q
    ·
     cases h
     exact ret_1 rfl
 ·
  replace h' := eR h'
  refine avc_tail (e := .ret) (S2 := ⟨[(2, .d (di y1))], []⟩) ?_ ?_
  ·
   refine avc_loopM (fun x => ⟨[(0, .d (dsl eSpan a0)), (12, .d (dsl eSpan a0)), (13, .d (di (a0.length : Int))), (14, .d (di x))], []⟩) hy1 (weak_cov ⟨rfl, rfl, rfl, rfl, trivial⟩ trivial) ?_
   rintro v14 sy1 hsy1
   replace hsy1 : ordering_Check_L0 a0 v14 = some sy1 := hsy1
   unfold ordering_Check_L0 at hsy1
   refine avc_sq2 <| avc_sq ?_
   refine sqa (a_lss (lq rfl) rfl rfl) ?_
   refine sq_nil <| avc_sq2 ?_
   refine avc_if rfl ⟨fun c1 => ?_, fun c1 => ?_⟩
   ·
    replace hsy1 := cT c1 hsy1
    refine avc_skip <| avc_sq2 <| avc_block <| avc_sq2 <| avc_sq ?_
    obtain ⟨t16, ht16, hsy1'⟩ := bE hsy1; clear hsy1
    refine sqa (m_index (en := eSpan) (lq rfl) S37 rfl rfl ht16) ?_
    refine sqa (m_loadEA (en := eSpan) (l := a0) (i := v14) (v := t16) (off := 0) (lq rfl) G61 rfl ht16 rfl rfl (by decide)) ?_
    refine sq_b rfl (step_alloc (zs := [(.int IntKind.i64 (0)), (.int IntKind.i64 (0)), (.int IntKind.i64 (0))]) (lq rfl) (by kernel_rfl) rfl rfl) ?_
    refine sq_b rfl (s_store_boxA G61 rfl rfl rfl rfl rfl rfl) ?_
    refine sq_nil ?_
    refine avc_weak (weak_freeze (t := 4) (lq rfl) rfl rfl rfl) ?_
    refine avc_sq2 <| avc_sq ?_
    refine sqa (m_fieldPt (lq rfl) L61_0 rfl) ?_
    refine sqa (a_load_ip (lq rfl) O3 rfl rfl) ?_
    refine sqa (a_lss (lq rfl) rfl rfl) ?_
    obtain ⟨b21, hb21, hsy1⟩ := bE hsy1'; clear hsy1'
    refine sqa ((a_move_d (lq rfl) rfl).bool (Option.some.inj hb21)) ?_
    refine sq_g (x := .ip (eSpan.cells t16) (0 + 1)) rfl rfl rfl (lq rfl) (lq rfl) rfl (fun hb => by obtain rfl := gF hb; exact m_fieldPt (lq rfl) L61_1 rfl) ?_
    refine sq_g (x := .d (di t16.Hi)) rfl rfl rfl (lq rfl) (lq rfl) rfl (fun hb => by obtain rfl := gF hb; exact a_load_ip (lq rfl) O3 rfl rfl) ?_
    refine sq_g (x := .d (db (decide (1114111 < t16.Hi)))) rfl rfl rfl (lq rfl) (lq rfl) rfl (fun hb => by obtain rfl := gF hb; exact a_gtr (lq rfl) rfl rfl) ?_
    refine sqa (a_pick_or (lq rfl) rfl rfl) ?_
    obtain ⟨b26, hb26, hsy1'⟩ := bE hsy1; clear hsy1
    refine sqa ((a_move_d (lq rfl) rfl).bool (Option.some.inj hb26)) ?_
    refine sq_g (x := .ip (eSpan.cells t16) (0 + 0)) rfl rfl rfl (lq rfl) (lq rfl) rfl (fun hb => by obtain rfl := gF hb; exact m_fieldPt (lq rfl) L61_0 rfl) ?_
    refine sq_g (x := .d (di t16.Lo)) rfl rfl rfl (lq rfl) (lq rfl) rfl (fun hb => by obtain rfl := gF hb; exact a_load_ip (lq rfl) O3 rfl rfl) ?_
    refine sq_g (x := .ip (eSpan.cells t16) (0 + 1)) rfl rfl rfl (lq rfl) (lq rfl) rfl (fun hb => by obtain rfl := gF hb; exact m_fieldPt (lq rfl) L61_1 rfl) ?_
    refine sq_g (x := .d (di t16.Hi)) rfl rfl rfl (lq rfl) (lq rfl) rfl (fun hb => by obtain rfl := gF hb; exact a_load_ip (lq rfl) O3 rfl rfl) ?_
    refine sq_g (x := .d (db (decide (t16.Hi < t16.Lo)))) rfl rfl rfl (lq rfl) (lq rfl) rfl (fun hb => by obtain rfl := gF hb; exact a_gtr (lq rfl) rfl rfl) ?_
    refine sqa (a_pick_or (lq rfl) rfl rfl) ?_
    obtain ⟨b33, hb33, hsy1⟩ := bE hsy1'; clear hsy1'
    refine sqa ((a_move_d (lq rfl) rfl).bool (Option.some.inj hb33)) ?_
    refine sq_g (x := .ip (eSpan.cells t16) (0 + 2)) rfl rfl rfl (lq rfl) (lq rfl) rfl (fun hb => by obtain rfl := gF hb; exact m_fieldPt (lq rfl) L61_2 rfl) ?_
    refine sq_g (x := .d (di t16.Value)) rfl rfl rfl (lq rfl) (lq rfl) rfl (fun hb => by obtain rfl := gF hb; exact a_load_ip (lq rfl) O3 rfl rfl) ?_
    refine sq_g (x := .d (db (decide (t16.Value < 1)))) rfl rfl rfl (lq rfl) (lq rfl) rfl (fun hb => by obtain rfl := gF hb; exact a_lss (lq rfl) rfl rfl) ?_
    refine sqa (a_pick_or (lq rfl) rfl rfl) ?_
    obtain ⟨b38, hb38, hsy1'⟩ := bE hsy1; clear hsy1
    refine sqa ((a_move_d (lq rfl) rfl).bool (Option.some.inj hb38)) ?_
    refine sq_g (x := .ip (eSpan.cells t16) (0 + 2)) rfl rfl rfl (lq rfl) (lq rfl) rfl (fun hb => by obtain rfl := gF hb; exact m_fieldPt (lq rfl) L61_2 rfl) ?_
    refine sq_g (x := .d (di t16.Value)) rfl rfl rfl (lq rfl) (lq rfl) rfl (fun hb => by obtain rfl := gF hb; exact a_load_ip (lq rfl) O3 rfl rfl) ?_
    refine sq_g (x := .d (db (decide (254 < t16.Value)))) rfl rfl rfl (lq rfl) (lq rfl) rfl (fun hb => by obtain rfl := gF hb; exact a_gtr (lq rfl) rfl rfl) ?_
    refine sqa (a_pick_or (lq rfl) rfl rfl) ?_
    refine sq_nil ?_
    refine avc_if rfl ⟨fun c2 => ?_, fun c2 => ?_⟩
    ·
     replace hsy1' := cT c2 hsy1'
     refine avc_sq2 <| avc_sq ?_
     refine sqa (a_assign_d (lq rfl) rfl) ?_
     refine sq_nil ?_
     refine avc_ret ?_
     cases hsy1'
     intro q; cases q
     exact out_mk (weak_cov ⟨rfl, trivial⟩ trivial)
    ·
     replace hsy1' := cF c2 hsy1'
     refine avc_skip <| avc_sq ?_
     refine sqa (m_add (lq rfl) rfl rfl) ?_
     refine sqa (a_move_d (lq rfl) rfl) ?_
     refine sq_nil ?_
     cases hsy1'
     exact weak_cov ⟨rfl, rfl, rfl, rfl, trivial⟩ trivial
   ·
    replace hsy1 := cF c1 hsy1
    refine avc_exit ?_
    cases hsy1
    intro q; cases q
  ·
   cases h'
   exact ret_1 rfl

theorem mapping_isName_c  {a0 : Str}  {r : Bool} (h : mapping_isName a0 = some r) : Contract Tryd.prog 90 [(ds a0)] [(db r)] := by
 refine contract_of Tryd.func90 (by kernel_rfl) rfl (lq rfl) (lq rfl) fun w0 I0 hI0 hG0 => ?_
 unfold mapping_isName at h
 refine avc_sq2 <| avc_sq ?_
 refine sqa (a_assign_d (lq rfl) rfl) ?_
 refine sq_nil <| avc_sq2 <| avc_sq2 <| avc_sq ?_
 refine sqa (a_move_d (lq rfl) rfl) ?_
 refine sqa (m_seql (a := a0) (b := []) (lq rfl) rfl rfl) ?_
 obtain ⟨b8, hb8, h'⟩ := bE h; clear h
 refine sqa ((a_move_d (lq rfl) rfl).bool (Option.some.inj hb8)) ?_
 refine sq_g (x := .d (ds a0)) rfl rfl rfl (lq rfl) (lq rfl) rfl (fun hb => by obtain rfl := gF hb; exact a_move_d (lq rfl) rfl) ?_
 refine sq_g (x := .d (di (a0.length : Int))) rfl rfl rfl (lq rfl) (lq rfl) rfl (fun hb => by obtain rfl := gF hb; exact m_slen (s := a0) (lq rfl) Tryd.underlying9 rfl) ?_
 refine sq_g (x := .d (db (decide (32 < (a0.length : Int))))) rfl rfl rfl (lq rfl) (lq rfl) rfl (fun hb => by obtain rfl := gF hb; exact a_gtr (lq rfl) rfl rfl) ?_
 refine sqa (a_pick_or (lq rfl) rfl rfl) ?_
 refine sq_nil ?_
 refine avc_if rfl ⟨fun c1 => ?_, fun c1 => ?_⟩
 ·
  replace h' := cT c1 h'
  refine avc_sq2 <| avc_sq ?_
  refine sqa (a_assign_d (lq rfl) rfl) ?_
  refine sq_nil ?_
  cases h'
  refine avc_ret ?_
  exact ret_1 rfl
 ·
  replace h' := cF c1 h'
  refine avc_skip <| avc_sq2 <| avc_sq2 <| avc_sq ?_
  refine sqa (a_move_d (lq rfl) rfl) ?_
  refine sqa (m_slen (s := a0) (lq rfl) Tryd.underlying9 rfl) ?_
  refine sqa (a_move_d (lq rfl) rfl) ?_
  refine sq_nil <| avc_block ?_
  obtain ⟨y1, hy1, h⟩ := bE h'; clear h'
  rcases y1 with y1 | y1
  ·
   replace h := eL h
   refine avc_tail (e := .exit 0) (S2 := ⟨[], []⟩) ?_ ?_
   ·
    refine avc_loopM (fun x => ⟨[(0, .d (ds a0)), (14, .d (di (a0.length : Int))), (15, .d (di x))], []⟩) hy1 (weak_cov ⟨rfl, rfl, rfl, trivial⟩ trivial) ?_
    rintro v15 sy1 hsy1
    replace hsy1 : mapping_isName_L0 a0 v15 = some sy1 := hsy1
    unfold mapping_isName_L0 at hsy1
    refine avc_sq2 <| avc_sq ?_
    refine sqa (a_lss (lq rfl) rfl rfl) ?_
    refine sq_nil <| avc_sq2 ?_
    refine avc_if rfl ⟨fun c2 => ?_, fun c2 => ?_⟩
    ·
     replace hsy1 := cT c2 hsy1
     refine avc_skip <| avc_sq2 <| avc_block <| avc_sq2 <| avc_sq ?_
     refine sqa (a_move_d (lq rfl) rfl) ?_
     refine sqa (a_assign_d (lq rfl) rfl) ?_
     refine sq_nil <| avc_sq2 <| avc_sq ?_
     refine sqa (a_move_d (lq rfl) rfl) ?_
     refine sqa (a_move_d (lq rfl) rfl) ?_
     obtain ⟨t20, ht20, hsy1'⟩ := bE hsy1; clear hsy1
     refine sqa (m_sindex (s := a0) (lq rfl) Tryd.underlying9 rfl rfl ht20) ?_
     refine sqa (a_assign_d (lq rfl) rfl) ?_
     refine sq_nil <| avc_sq2 <| avc_sq ?_
     refine sqa (a_move_d (lq rfl) rfl) ?_
     refine sqa (a_geq (lq rfl) rfl rfl) ?_
     obtain ⟨b23, hb23, hsy1⟩ := bE hsy1'; clear hsy1'
     refine sqa ((a_move_d (lq rfl) rfl).bool (Option.some.inj hb23)) ?_
     refine sq_g (x := .d (dby t20)) rfl rfl rfl (lq rfl) (lq rfl) rfl (fun hb => by obtain rfl : b23 = true := hb; exact a_move_d (lq rfl) rfl) ?_
     refine sq_g (x := .d (db (decide (t20 ≤ 90)))) rfl rfl rfl (lq rfl) (lq rfl) rfl (fun hb => by obtain rfl : b23 = true := hb; exact a_leq (lq rfl) rfl rfl) ?_
     refine sqa (a_pick_and (lq rfl) rfl rfl) ?_
     obtain ⟨b27, hb27, hsy1'⟩ := bE hsy1; clear hsy1
     refine sqa ((a_move_d (lq rfl) rfl).bool (Option.some.inj hb27)) ?_
     refine sq_g (x := .d (dby t20)) rfl rfl rfl (lq rfl) (lq rfl) rfl (fun hb => by obtain rfl := gF hb; exact a_move_d (lq rfl) rfl) ?_
     refine sq_g (x := .d (db (decide (97 ≤ t20)))) rfl rfl rfl (lq rfl) (lq rfl) rfl (fun hb => by obtain rfl := gF hb; exact a_geq (lq rfl) rfl rfl) ?_
     obtain ⟨b30, hb30, hsy1⟩ := bE hsy1'; clear hsy1'
     refine sq_g (x := .d (db b30)) rfl rfl rfl (lq rfl) (lq rfl) rfl (fun hb => by obtain rfl := gF hb; exact (a_move_d (lq rfl) rfl).bool (Option.some.inj hb30)) ?_
     refine sq_g2 (x := .d (dby t20)) rfl rfl rfl (lq rfl) (lq rfl) rfl (fun hb => by obtain ⟨hb, hb1⟩ := and_split hb; obtain rfl := gF hb; obtain rfl : b30 = true := hb1; exact a_move_d (lq rfl) rfl) ?_
     refine sq_g2 (x := .d (db (decide (t20 ≤ 122)))) rfl rfl rfl (lq rfl) (lq rfl) rfl (fun hb => by obtain ⟨hb, hb1⟩ := and_split hb; obtain rfl := gF hb; obtain rfl : b30 = true := hb1; exact a_leq (lq rfl) rfl rfl) ?_
     refine sq_g (x := .d (db (b30 && (decide (t20 ≤ 122))))) rfl rfl rfl (lq rfl) (lq rfl) rfl (fun hb => by obtain rfl := gF hb; exact a_pick_and (lq rfl) rfl rfl) ?_
     refine sqa (a_pick_or (lq rfl) rfl rfl) ?_
     refine sqa (a_assign_d (lq rfl) rfl) ?_
     refine sq_nil <| avc_sq2 <| avc_sq ?_
     refine sqa (a_move_d (lq rfl) rfl) ?_
     refine sqa (a_not (lq rfl) rfl) ?_
     obtain ⟨b37, hb37, hsy1'⟩ := bE hsy1; clear hsy1
     refine sqa ((a_move_d (lq rfl) rfl).bool (Option.some.inj hb37)) ?_
     refine sq_g (x := .d (dby t20)) rfl rfl rfl (lq rfl) (lq rfl) rfl (fun hb => by obtain rfl : b37 = true := hb; exact a_move_d (lq rfl) rfl) ?_
     refine sq_g (x := .d (db (decide (48 ≤ t20)))) rfl rfl rfl (lq rfl) (lq rfl) rfl (fun hb => by obtain rfl : b37 = true := hb; exact a_geq (lq rfl) rfl rfl) ?_
     obtain ⟨b40, hb40, hsy1⟩ := bE hsy1'; clear hsy1'
     refine sq_g (x := .d (db b40)) rfl rfl rfl (lq rfl) (lq rfl) rfl (fun hb => by obtain rfl : b37 = true := hb; exact (a_move_d (lq rfl) rfl).bool (Option.some.inj hb40)) ?_
     refine sq_g2 (x := .d (dby t20)) rfl rfl rfl (lq rfl) (lq rfl) rfl (fun hb => by obtain ⟨hb, hb1⟩ := and_split hb; obtain rfl : b37 = true := hb; obtain rfl : b40 = true := hb1; exact a_move_d (lq rfl) rfl) ?_
     refine sq_g2 (x := .d (db (decide (t20 ≤ 57)))) rfl rfl rfl (lq rfl) (lq rfl) rfl (fun hb => by obtain ⟨hb, hb1⟩ := and_split hb; obtain rfl : b37 = true := hb; obtain rfl : b40 = true := hb1; exact a_leq (lq rfl) rfl rfl) ?_
     refine sq_g (x := .d (db (b40 && (decide (t20 ≤ 57))))) rfl rfl rfl (lq rfl) (lq rfl) rfl (fun hb => by obtain rfl : b37 = true := hb; exact a_pick_and (lq rfl) rfl rfl) ?_
     refine sq_g (x := .d (db (!(b40 && (decide (t20 ≤ 57)))))) rfl rfl rfl (lq rfl) (lq rfl) rfl (fun hb => by obtain rfl : b37 = true := hb; exact a_not (lq rfl) rfl) ?_
     refine sqa (a_pick_and (lq rfl) rfl rfl) ?_
     obtain ⟨b46, hb46, hsy1'⟩ := bE hsy1; clear hsy1
     refine sqa ((a_move_d (lq rfl) rfl).bool (Option.some.inj hb46)) ?_
     refine sq_g (x := .d (dby t20)) rfl rfl rfl (lq rfl) (lq rfl) rfl (fun hb => by obtain rfl : b46 = true := hb; exact a_move_d (lq rfl) rfl) ?_
     refine sq_g (x := .d (db (!decide (t20 = 95)))) rfl rfl rfl (lq rfl) (lq rfl) rfl (fun hb => by obtain rfl : b46 = true := hb; exact a_neq (lq rfl) rfl rfl) ?_
     refine sqa (a_pick_and (lq rfl) rfl rfl) ?_
     refine sq_nil ?_
     refine avc_if rfl ⟨fun c3 => ?_, fun c3 => ?_⟩
     ·
      replace hsy1' := cT c3 hsy1'
      refine avc_sq2 <| avc_sq ?_
      refine sqa (a_assign_d (lq rfl) rfl) ?_
      refine sq_nil ?_
      refine avc_ret ?_
      cases hsy1'
      intro q; cases q
     ·
      replace hsy1' := cF c3 hsy1'
      refine avc_skip <| avc_sq ?_
      refine sqa (m_add (lq rfl) rfl rfl) ?_
      refine sqa (a_move_d (lq rfl) rfl) ?_
      refine sq_nil ?_
      cases hsy1'
      exact weak_cov ⟨rfl, rfl, rfl, trivial⟩ trivial
    ·
     replace hsy1 := cF c2 hsy1
     refine avc_exit ?_
     cases hsy1
     intro q; cases q
     exact out_mk (weak_cov trivial trivial)
   ·
    refine avc_sq2 <| avc_sq ?_
    refine sqa (a_assign_d (lq rfl) rfl) ?_
    refine sq_nil ?_
    cases h
    refine avc_ret ?_
    exact ret_1 rfl
  ·
   replace h := eR h
   refine avc_tail (e := .ret) (S2 := ⟨[(2, .d (db y1))], []⟩) ?_ ?_
   ·
    refine avc_loopM (fun x => ⟨[(0, .d (ds a0)), (14, .d (di (a0.length : Int))), (15, .d (di x))], []⟩) hy1 (weak_cov ⟨rfl, rfl, rfl, trivial⟩ trivial) ?_
    rintro v15 sy1 hsy1
    replace hsy1 : mapping_isName_L0 a0 v15 = some sy1 := hsy1
    unfold mapping_isName_L0 at hsy1
    refine avc_sq2 <| avc_sq ?_
    refine sqa (a_lss (lq rfl) rfl rfl) ?_
    refine sq_nil <| avc_sq2 ?_
    refine avc_if rfl ⟨fun c2 => ?_, fun c2 => ?_⟩
    ·
     replace hsy1 := cT c2 hsy1
     refine avc_skip <| avc_sq2 <| avc_block <| avc_sq2 <| avc_sq ?_
     refine sqa (a_move_d (lq rfl) rfl) ?_
     refine sqa (a_assign_d (lq rfl) rfl) ?_
     refine sq_nil <| avc_sq2 <| avc_sq ?_
     refine sqa (a_move_d (lq rfl) rfl) ?_
     refine sqa (a_move_d (lq rfl) rfl) ?_
     obtain ⟨t20, ht20, hsy1'⟩ := bE hsy1; clear hsy1
     refine sqa (m_sindex (s := a0) (lq rfl) Tryd.underlying9 rfl rfl ht20) ?_
     refine sqa (a_assign_d (lq rfl) rfl) ?_
     refine sq_nil <| avc_sq2 <| avc_sq ?_
     refine sqa (a_move_d (lq rfl) rfl) ?_
     refine sqa (a_geq (lq rfl) rfl rfl) ?_
     obtain ⟨b23, hb23, hsy1⟩ := bE hsy1'; clear hsy1'
     refine sqa ((a_move_d (lq rfl) rfl).bool (Option.some.inj hb23)) ?_
     refine sq_g (x := .d (dby t20)) rfl rfl rfl (lq rfl) (lq rfl) rfl (fun hb => by obtain rfl : b23 = true := hb; exact a_move_d (lq rfl) rfl) ?_
     refine sq_g (x := .d (db (decide (t20 ≤ 90)))) rfl rfl rfl (lq rfl) (lq rfl) rfl (fun hb => by obtain rfl : b23 = true := hb; exact a_leq (lq rfl) rfl rfl) ?_
     refine sqa (a_pick_and (lq rfl) rfl rfl) ?_
     obtain ⟨b27, hb27, hsy1'⟩ := bE hsy1; clear hsy1
     refine sqa ((a_move_d (lq rfl) rfl).bool (Option.some.inj hb27)) ?_
     refine sq_g (x := .d (dby t20)) rfl rfl rfl (lq rfl) (lq rfl) rfl (fun hb => by obtain rfl := gF hb; exact a_move_d (lq rfl) rfl) ?_
     refine sq_g (x := .d (db (decide (97 ≤ t20)))) rfl rfl rfl (lq rfl) (lq rfl) rfl (fun hb => by obtain rfl := gF hb; exact a_geq (lq rfl) rfl rfl) ?_
     obtain ⟨b30, hb30, hsy1⟩ := bE hsy1'; clear hsy1'
     refine sq_g (x := .d (db b30)) rfl rfl rfl (lq rfl) (lq rfl) rfl (fun hb => by obtain rfl := gF hb; exact (a_move_d (lq rfl) rfl).bool (Option.some.inj hb30)) ?_
     refine sq_g2 (x := .d (dby t20)) rfl rfl rfl (lq rfl) (lq rfl) rfl (fun hb => by obtain ⟨hb, hb1⟩ := and_split hb; obtain rfl := gF hb; obtain rfl : b30 = true := hb1; exact a_move_d (lq rfl) rfl) ?_
     refine sq_g2 (x := .d (db (decide (t20 ≤ 122)))) rfl rfl rfl (lq rfl) (lq rfl) rfl (fun hb => by obtain ⟨hb, hb1⟩ := and_split hb; obtain rfl := gF hb; obtain rfl : b30 = true := hb1; exact a_leq (lq rfl) rfl rfl) ?_
     refine sq_g (x := .d (db (b30 && (decide (t20 ≤ 122))))) rfl rfl rfl (lq rfl) (lq rfl) rfl (fun hb => by obtain rfl := gF hb; exact a_pick_and (lq rfl) rfl rfl) ?_
     refine sqa (a_pick_or (lq rfl) rfl rfl) ?_
     refine sqa (a_assign_d (lq rfl) rfl) ?_
     refine sq_nil <| avc_sq2 <| avc_sq ?_
     refine sqa (a_move_d (lq rfl) rfl) ?_
     refine sqa (a_not (lq rfl) rfl) ?_
     obtain ⟨b37, hb37, hsy1'⟩ := bE hsy1; clear hsy1
     refine sqa ((a_move_d (lq rfl) rfl).bool (Option.some.inj hb37)) ?_
     refine sq_g (x := .d (dby t20)) rfl rfl rfl (lq rfl) (lq rfl) rfl (fun hb => by obtain rfl : b37 = true := hb; exact a_move_d (lq rfl) rfl) ?_
     refine sq_g (x := .d (db (decide (48 ≤ t20)))) rfl rfl rfl (lq rfl) (lq rfl) rfl (fun hb => by obtain rfl : b37 = true := hb; exact a_geq (lq rfl) rfl rfl) ?_
     obtain ⟨b40, hb40, hsy1⟩ := bE hsy1'; clear hsy1'
     refine sq_g (x := .d (db b40)) rfl rfl rfl (lq rfl) (lq rfl) rfl (fun hb => by obtain rfl : b37 = true := hb; exact (a_move_d (lq rfl) rfl).bool (Option.some.inj hb40)) ?_
     refine sq_g2 (x := .d (dby t20)) rfl rfl rfl (lq rfl) (lq rfl) rfl (fun hb => by obtain ⟨hb, hb1⟩ := and_split hb; obtain rfl : b37 = true := hb; obtain rfl : b40 = true := hb1; exact a_move_d (lq rfl) rfl) ?_
     refine sq_g2 (x := .d (db (decide (t20 ≤ 57)))) rfl rfl rfl (lq rfl) (lq rfl) rfl (fun hb => by obtain ⟨hb, hb1⟩ := and_split hb; obtain rfl : b37 = true := hb; obtain rfl : b40 = true := hb1; exact a_leq (lq rfl) rfl rfl) ?_
     refine sq_g (x := .d (db (b40 && (decide (t20 ≤ 57))))) rfl rfl rfl (lq rfl) (lq rfl) rfl (fun hb => by obtain rfl : b37 = true := hb; exact a_pick_and (lq rfl) rfl rfl) ?_
     refine sq_g (x := .d (db (!(b40 && (decide (t20 ≤ 57)))))) rfl rfl rfl (lq rfl) (lq rfl) rfl (fun hb => by obtain rfl : b37 = true := hb; exact a_not (lq rfl) rfl) ?_
     refine sqa (a_pick_and (lq rfl) rfl rfl) ?_
     obtain ⟨b46, hb46, hsy1'⟩ := bE hsy1; clear hsy1
     refine sqa ((a_move_d (lq rfl) rfl).bool (Option.some.inj hb46)) ?_
     refine sq_g (x := .d (dby t20)) rfl rfl rfl (lq rfl) (lq rfl) rfl (fun hb => by obtain rfl : b46 = true := hb; exact a_move_d (lq rfl) rfl) ?_
     refine sq_g (x := .d (db (!decide (t20 = 95)))) rfl rfl rfl (lq rfl) (lq rfl) rfl (fun hb => by obtain rfl : b46 = true := hb; exact a_neq (lq rfl) rfl rfl) ?_
     refine sqa (a_pick_and (lq rfl) rfl rfl) ?_
     refine sq_nil ?_
     refine avc_if rfl ⟨fun c3 => ?_, fun c3 => ?_⟩
     ·
      replace hsy1' := cT c3 hsy1'
      refine avc_sq2 <| avc_sq ?_
      refine sqa (a_assign_d (lq rfl) rfl) ?_
      refine sq_nil ?_
      refine avc_ret ?_
      cases hsy1'
      intro q; cases q
      exact out_mk (weak_cov ⟨rfl, trivial⟩ trivial)
     ·
      replace hsy1' := cF c3 hsy1'
      refine avc_skip <| avc_sq ?_
      refine sqa (m_add (lq rfl) rfl rfl) ?_
      refine sqa (a_move_d (lq rfl) rfl) ?_
      refine sq_nil ?_
      cases hsy1'
      exact weak_cov ⟨rfl, rfl, rfl, trivial⟩ trivial
    ·
     replace hsy1 := cF c2 hsy1
     refine avc_exit ?_
     cases hsy1
     intro q; cases q
   ·
    cases h
    exact ret_1 rfl

theorem mapping_parts_c  {a0 : (List Mapping)}  {r : Int} (h : mapping_parts a0 = some r) : Contract Tryd.prog 81 [(dsl eMapping a0)] [(di r)] := by
 refine contract_of Tryd.func81 (by kernel_rfl) rfl (lq rfl) (lq rfl) fun w0 I0 hI0 hG0 => ?_
 unfold mapping_parts at h
 refine avc_sq2 <| avc_sq ?_
 refine sqa (a_assign_d (lq rfl) rfl) ?_
 refine sq_nil <| avc_sq2 <| avc_sq2 <| avc_sq ?_
 refine sqa (a_move_d (lq rfl) rfl) ?_
 refine sqa (m_len (en := eMapping) (l := a0) (lq rfl) S38 rfl) ?_
 refine sqa (a_move_d (lq rfl) rfl) ?_
 refine sq_nil <| avc_block ?_
 obtain ⟨y1, hy1, h'⟩ := bE h; clear h
 rcases y1 with y1 | y1
 ·
  replace h' := eL h'
  refine avc_tail (e := .exit 0) (S2 := ⟨[(0, .d (dsl eMapping a0))], []⟩) ?_ ?_
  ·
   refine avc_loopM (fun x => ⟨[(0, .d (dsl eMapping a0)), (11, .d (dsl eMapping a0)), (12, .d (di (a0.length : Int))), (13, .d (di x))], []⟩) hy1 (weak_cov ⟨rfl, rfl, rfl, rfl, trivial⟩ trivial) ?_
   rintro v13 sy1 hsy1
   replace hsy1 : mapping_parts_L0 a0 v13 = some sy1 := hsy1
   unfold mapping_parts_L0 at hsy1
   refine avc_sq2 <| avc_sq ?_
   refine sqa (a_lss (lq rfl) rfl rfl) ?_
   refine sq_nil <| avc_sq2 ?_
   refine avc_if rfl ⟨fun c1 => ?_, fun c1 => ?_⟩
   ·
    replace hsy1 := cT c1 hsy1
    refine avc_skip <| avc_sq2 <| avc_block <| avc_sq2 <| avc_sq ?_
    obtain ⟨t15, ht15, hsy1'⟩ := bE hsy1; clear hsy1
    refine sqa (m_index (en := eMapping) (lq rfl) S38 rfl rfl ht15) ?_
    refine sqa (m_loadEA (en := eMapping) (l := a0) (i := v13) (v := t15) (off := 0) (lq rfl) G109 rfl ht15 rfl rfl (by decide)) ?_
    refine sq_b rfl (step_alloc (zs := [(.int IntKind.i64 (0)), (.slice none 0 0), (.string ⟨#[]⟩)]) (lq rfl) (by kernel_rfl) rfl rfl) ?_
    refine sq_b rfl (s_store_boxA G109 rfl rfl rfl rfl rfl rfl) ?_
    refine sq_nil ?_
    refine avc_weak (weak_freeze (t := 4) (lq rfl) rfl rfl rfl) ?_
    refine avc_sq2 <| avc_sq2 <| avc_sq ?_
    refine sqa (m_fieldPt (lq rfl) L109_0 rfl) ?_
    refine sqa (a_load_ip (lq rfl) O3 rfl rfl) ?_
    obtain ⟨t19, ht19, hsy1⟩ := bE hsy1'; clear hsy1'
    refine sqa (a_call (lq rfl) rfl (codepoint_Valid_c ht19)) ?_
    refine sqa (a_not (lq rfl) rfl) ?_
    refine sq_nil ?_
    refine avc_if rfl ⟨fun c2 => ?_, fun c2 => ?_⟩
    ·
     replace hsy1 := cT c2 hsy1
     refine avc_sq2 <| avc_sq ?_
     refine sqa (a_assign_d (lq rfl) rfl) ?_
     refine sq_nil ?_
     refine avc_ret ?_
     cases hsy1
     intro q; cases q
    ·
     replace hsy1 := cF c2 hsy1
     refine avc_skip <| avc_sq2 <| avc_sq ?_
     refine sqa (m_fieldPt (lq rfl) L109_1 rfl) ?_
     refine sqa (a_load_ip (lq rfl) O30 rfl rfl) ?_
     refine sqa (m_len (en := eI) (l := t15.To) (lq rfl) S30 rfl) ?_
     refine sqa (a_move_d (lq rfl) rfl) ?_
     refine sq_nil <| avc_block ?_
     obtain ⟨y2, hy2, hsy1'⟩ := bE hsy1; clear hsy1
     rcases y2 with y2 | y2
     ·
      replace hsy1' := eL hsy1'
      refine avc_tail (e := .exit 2) (S2 := ⟨[(0, .d (dsl eMapping a0)), (11, .d (dsl eMapping a0)), (12, .d (di (a0.length : Int))), (13, .d (di v13))], []⟩) ?_ ?_
      ·
       refine avc_loopM (fun x => ⟨[(0, .d (dsl eMapping a0)), (11, .d (dsl eMapping a0)), (12, .d (di (a0.length : Int))), (13, .d (di v13)), (22, .d (dsl eI t15.To)), (23, .d (di (t15.To.length : Int))), (24, .d (di x))], []⟩) hy2 (weak_cov ⟨rfl, rfl, rfl, rfl, rfl, rfl, rfl, trivial⟩ trivial) ?_
       rintro v24 sy2 hsy2
       replace hsy2 : mapping_parts_L1 t15 v24 = some sy2 := hsy2
       unfold mapping_parts_L1 at hsy2
       refine avc_sq2 <| avc_sq ?_
       refine sqa (a_lss (lq rfl) rfl rfl) ?_
       refine sq_nil <| avc_sq2 ?_
       refine avc_if rfl ⟨fun c3 => ?_, fun c3 => ?_⟩
       ·
        replace hsy2 := cT c3 hsy2
        refine avc_skip <| avc_sq2 <| avc_block <| avc_sq2 <| avc_sq ?_
        obtain ⟨t26, ht26, hsy2'⟩ := bE hsy2; clear hsy2
        refine sqa (m_index (en := eI) (lq rfl) S30 rfl rfl ht26) ?_
        refine sqa (m_loadE (en := eI) (l := t15.To) (i := v24) (v := t26) (off := 0) (lq rfl) O3 rfl ht26 rfl) ?_
        refine sqa (a_assign_d (lq rfl) rfl) ?_
        refine sq_nil <| avc_sq2 <| avc_sq ?_
        refine sqa (a_move_d (lq rfl) rfl) ?_
        obtain ⟨t29, ht29, hsy2⟩ := bE hsy2'; clear hsy2'
        refine sqa (a_call (lq rfl) rfl (codepoint_Valid_c ht29)) ?_
        refine sqa (a_not (lq rfl) rfl) ?_
        refine sq_nil ?_
        refine avc_if rfl ⟨fun c4 => ?_, fun c4 => ?_⟩
        ·
         replace hsy2 := cT c4 hsy2
         refine avc_sq2 <| avc_sq ?_
         refine sqa (a_assign_d (lq rfl) rfl) ?_
         refine sq_nil ?_
         refine avc_ret ?_
         cases hsy2
         intro q; cases q
        ·
         replace hsy2 := cF c4 hsy2
         refine avc_skip <| avc_sq ?_
         refine sqa (m_add (lq rfl) rfl rfl) ?_
         refine sqa (a_move_d (lq rfl) rfl) ?_
         refine sq_nil ?_
         cases hsy2
         exact weak_cov ⟨rfl, rfl, rfl, rfl, rfl, rfl, rfl, trivial⟩ trivial
       ·
        replace hsy2 := cF c3 hsy2
        refine avc_exit ?_
        cases hsy2
        intro q; cases q
        exact out_mk (weak_cov ⟨rfl, rfl, rfl, rfl, trivial⟩ trivial)
      ·
       refine avc_sq ?_
       refine sqa (m_add (lq rfl) rfl rfl) ?_
       refine sqa (a_move_d (lq rfl) rfl) ?_
       refine sq_nil ?_
       cases hsy1'
       exact weak_cov ⟨rfl, rfl, rfl, rfl, trivial⟩ trivial
     ·
      replace hsy1' := eR hsy1'
      refine avc_tail (e := .ret) (S2 := ⟨[(2, .d (di y2))], []⟩) ?_ ?_
      ·
       refine avc_loopM (fun x => ⟨[(0, .d (dsl eMapping a0)), (11, .d (dsl eMapping a0)), (12, .d (di (a0.length : Int))), (13, .d (di v13)), (22, .d (dsl eI t15.To)), (23, .d (di (t15.To.length : Int))), (24, .d (di x))], []⟩) hy2 (weak_cov ⟨rfl, rfl, rfl, rfl, rfl, rfl, rfl, trivial⟩ trivial) ?_
       rintro v24 sy2 hsy2
       replace hsy2 : mapping_parts_L1 t15 v24 = some sy2 := hsy2
       unfold mapping_parts_L1 at hsy2
       refine avc_sq2 <| avc_sq ?_
       refine sqa (a_lss (lq rfl) rfl rfl) ?_
       refine sq_nil <| avc_sq2 ?_
       refine avc_if rfl ⟨fun c3 => ?_, fun c3 => ?_⟩
       ·
        replace hsy2 := cT c3 hsy2
        refine avc_skip <| avc_sq2 <| avc_block <| avc_sq2 <| avc_sq ?_
        obtain ⟨t26, ht26, hsy2'⟩ := bE hsy2; clear hsy2
        refine sqa (m_index (en := eI) (lq rfl) S30 rfl rfl ht26) ?_
        refine sqa (m_loadE (en := eI) (l := t15.To) (i := v24) (v := t26) (off := 0) (lq rfl) O3 rfl ht26 rfl) ?_
        refine sqa (a_assign_d (lq rfl) rfl) ?_
        refine sq_nil <| avc_sq2 <| avc_sq ?_
        refine sqa (a_move_d (lq rfl) rfl) ?_
        obtain ⟨t29, ht29, hsy2⟩ := bE hsy2'; clear hsy2'
        refine sqa (a_call (lq rfl) rfl (codepoint_Valid_c ht29)) ?_
        refine sqa (a_not (lq rfl) rfl) ?_
        refine sq_nil ?_
        refine avc_if rfl ⟨fun c4 => ?_, fun c4 => ?_⟩
        ·
         replace hsy2 := cT c4 hsy2
         refine avc_sq2 <| avc_sq ?_
         refine sqa (a_assign_d (lq rfl) rfl) ?_
         refine sq_nil ?_
         refine avc_ret ?_
         cases hsy2
         intro q; cases q
         exact out_mk (weak_cov ⟨rfl, trivial⟩ trivial)
        ·
         replace hsy2 := cF c4 hsy2
         refine avc_skip <| avc_sq ?_
         refine sqa (m_add (lq rfl) rfl rfl) ?_
         refine sqa (a_move_d (lq rfl) rfl) ?_
         refine sq_nil ?_
         cases hsy2
         exact weak_cov ⟨rfl, rfl, rfl, rfl, rfl, rfl, rfl, trivial⟩ trivial
       ·
        replace hsy2 := cF c3 hsy2
        refine avc_exit ?_
        cases hsy2
        intro q; cases q
      ·
       cases hsy1'
       intro q; cases q
   ·
    replace hsy1 := cF c1 hsy1
    refine avc_exit ?_
    cases hsy1
    intro q; cases q
    exact out_mk (weak_cov ⟨rfl, trivial⟩ trivial)
  ·
   refine avc_sq2 <| avc_sq2 <| avc_sq ?_
   refine sqa (a_move_d (lq rfl) rfl) ?_
   refine sqa (m_len (en := eMapping) (l := a0) (lq rfl) S38 rfl) ?_
   refine sqa (a_move_d (lq rfl) rfl) ?_
   refine sq_nil <| avc_block ?_
   obtain ⟨y3, hy3, h⟩ := bE h'; clear h'
   rcases y3 with y3 | y3
   ·
    replace h := eL h
    refine avc_tail (e := .exit 4) (S2 := ⟨[(0, .d (dsl eMapping a0))], []⟩) ?_ ?_
    ·
     refine avc_loopM (fun x => ⟨[(0, .d (dsl eMapping a0)), (33, .d (dsl eMapping a0)), (34, .d (di (a0.length : Int))), (35, .d (di x))], []⟩) hy3 (weak_cov ⟨rfl, rfl, rfl, rfl, trivial⟩ trivial) ?_
     rintro v35 sy3 hsy3
     replace hsy3 : mapping_parts_L2 a0 v35 = some sy3 := hsy3
     unfold mapping_parts_L2 at hsy3
     refine avc_sq2 <| avc_sq ?_
     refine sqa (a_lss (lq rfl) rfl rfl) ?_
     refine sq_nil <| avc_sq2 ?_
     refine avc_if rfl ⟨fun c5 => ?_, fun c5 => ?_⟩
     ·
      replace hsy3 := cT c5 hsy3
      refine avc_skip <| avc_sq2 <| avc_block <| avc_sq2 <| avc_sq ?_
      obtain ⟨t37, ht37, hsy3'⟩ := bE hsy3; clear hsy3
      refine sqa (m_index (en := eMapping) (lq rfl) S38 rfl rfl ht37) ?_
      refine sqa (m_loadEA (en := eMapping) (l := a0) (i := v35) (v := t37) (off := 0) (lq rfl) G109 rfl ht37 rfl rfl (by decide)) ?_
      refine sq_b rfl (step_alloc (zs := [(.int IntKind.i64 (0)), (.slice none 0 0), (.string ⟨#[]⟩)]) (lq rfl) (by kernel_rfl) rfl rfl) ?_
      refine sq_b rfl (s_store_boxA G109 rfl rfl rfl rfl rfl rfl) ?_
      refine sq_nil ?_
      refine avc_weak (weak_freeze (t := 8) (lq rfl) rfl rfl rfl) ?_
      refine avc_sq2 <| avc_sq ?_
      refine sqa (m_fieldPt (lq rfl) L109_1 rfl) ?_
      refine sqa (a_load_ip (lq rfl) O30 rfl rfl) ?_
      refine sqa (m_len (en := eI) (l := t37.To) (lq rfl) S30 rfl) ?_
      refine sqa (a_gtr (lq rfl) rfl rfl) ?_
      refine sq_nil ?_
      refine avc_if rfl ⟨fun c6 => ?_, fun c6 => ?_⟩
      ·
       replace hsy3' := cT c6 hsy3'
       refine avc_sq2 <| avc_sq ?_
       refine sqa (a_assign_d (lq rfl) rfl) ?_
       refine sq_nil ?_
       refine avc_ret ?_
       cases hsy3'
       intro q; cases q
      ·
       replace hsy3' := cF c6 hsy3'
       refine avc_skip <| avc_sq ?_
       refine sqa (m_add (lq rfl) rfl rfl) ?_
       refine sqa (a_move_d (lq rfl) rfl) ?_
       refine sq_nil ?_
       cases hsy3'
       exact weak_cov ⟨rfl, rfl, rfl, rfl, trivial⟩ trivial
     ·
      replace hsy3 := cF c5 hsy3
      refine avc_exit ?_
      cases hsy3
      intro q; cases q
      exact out_mk (weak_cov ⟨rfl, trivial⟩ trivial)
    ·
     refine avc_sq2 <| avc_sq2 <| avc_sq ?_
     refine sqa (a_move_d (lq rfl) rfl) ?_
     refine sqa (m_len (en := eMapping) (l := a0) (lq rfl) S38 rfl) ?_
     refine sqa (a_move_d (lq rfl) rfl) ?_
     refine sq_nil <| avc_block ?_
     obtain ⟨y4, hy4, h'⟩ := bE h; clear h
     rcases y4 with y4 | y4
     ·
      replace h' := eL h'
      refine avc_tail (e := .exit 6) (S2 := ⟨[], []⟩) ?_ ?_
      ·
       refine avc_loopM (fun x => ⟨[(44, .d (dsl eMapping a0)), (45, .d (di (a0.length : Int))), (46, .d (di x))], []⟩) hy4 (weak_cov ⟨rfl, rfl, rfl, trivial⟩ trivial) ?_
       rintro v46 sy4 hsy4
       replace hsy4 : mapping_parts_L3 a0 v46 = some sy4 := hsy4
       unfold mapping_parts_L3 at hsy4
       refine avc_sq2 <| avc_sq ?_
       refine sqa (a_lss (lq rfl) rfl rfl) ?_
       refine sq_nil <| avc_sq2 ?_
       refine avc_if rfl ⟨fun c7 => ?_, fun c7 => ?_⟩
       ·
        replace hsy4 := cT c7 hsy4
        refine avc_skip <| avc_sq2 <| avc_block <| avc_sq2 <| avc_sq ?_
        obtain ⟨t48, ht48, hsy4'⟩ := bE hsy4; clear hsy4
        refine sqa (m_index (en := eMapping) (lq rfl) S38 rfl rfl ht48) ?_
        refine sqa (m_loadEA (en := eMapping) (l := a0) (i := v46) (v := t48) (off := 0) (lq rfl) G109 rfl ht48 rfl rfl (by decide)) ?_
        refine sq_b rfl (step_alloc (zs := [(.int IntKind.i64 (0)), (.slice none 0 0), (.string ⟨#[]⟩)]) (lq rfl) (by kernel_rfl) rfl rfl) ?_
        refine sq_b rfl (s_store_boxA G109 rfl rfl rfl rfl rfl rfl) ?_
        refine sq_nil ?_
        refine avc_weak (weak_freeze (t := 10) (lq rfl) rfl rfl rfl) ?_
        refine avc_sq2 <| avc_sq ?_
        refine sqa (m_fieldPt (lq rfl) L109_2 rfl) ?_
        refine sqa (a_load_ip (lq rfl) O9 rfl rfl) ?_
        refine sqa (m_sneq (a := t48.Tag) (b := []) (lq rfl) rfl rfl) ?_
        obtain ⟨b53, hb53, hsy4⟩ := bE hsy4'; clear hsy4'
        refine sqa ((a_move_d (lq rfl) rfl).bool (Option.some.inj hb53)) ?_
        refine sq_g (x := .ip (eMapping.cells t48) (0 + 2)) rfl rfl rfl (lq rfl) (lq rfl) rfl (fun hb => by obtain rfl : b53 = true := hb; exact m_fieldPt (lq rfl) L109_2 rfl) ?_
        refine sq_g (x := .d (ds t48.Tag)) rfl rfl rfl (lq rfl) (lq rfl) rfl (fun hb => by obtain rfl : b53 = true := hb; exact a_load_ip (lq rfl) O9 rfl rfl) ?_
        obtain ⟨t56, ht56, hsy4'⟩ := bE hsy4; clear hsy4
        refine sq_g (x := .d (db t56)) rfl rfl rfl (lq rfl) (lq rfl) rfl (fun hb => by obtain rfl : b53 = true := hb; exact a_call (lq rfl) rfl (mapping_isName_c ht56)) ?_
        refine sq_g (x := .d (db (!t56))) rfl rfl rfl (lq rfl) (lq rfl) rfl (fun hb => by obtain rfl : b53 = true := hb; exact a_not (lq rfl) rfl) ?_
        refine sqa (a_pick_and (lq rfl) rfl rfl) ?_
        refine sq_nil ?_
        refine avc_if rfl ⟨fun c8 => ?_, fun c8 => ?_⟩
        ·
         replace hsy4' := cT c8 hsy4'
         refine avc_sq2 <| avc_sq ?_
         refine sqa (a_assign_d (lq rfl) rfl) ?_
         refine sq_nil ?_
         refine avc_ret ?_
         cases hsy4'
         intro q; cases q
        ·
         replace hsy4' := cF c8 hsy4'
         refine avc_skip <| avc_sq ?_
         refine sqa (m_add (lq rfl) rfl rfl) ?_
         refine sqa (a_move_d (lq rfl) rfl) ?_
         refine sq_nil ?_
         cases hsy4'
         exact weak_cov ⟨rfl, rfl, rfl, trivial⟩ trivial
       ·
        replace hsy4 := cF c7 hsy4
        refine avc_exit ?_
        cases hsy4
        intro q; cases q
        exact out_mk (weak_cov trivial trivial)
      ·
       refine avc_sq2 <| avc_sq ?_
       refine sqa (a_assign_d (lq rfl) rfl) ?_
       refine sq_nil ?_
       cases h'
       refine avc_ret ?_
       exact ret_1 rfl
     ·
      replace h' := eR h'
      refine avc_tail (e := .ret) (S2 := ⟨[(2, .d (di y4))], []⟩) ?_ ?_
      ·
       refine avc_loopM (fun x => ⟨[(44, .d (dsl eMapping a0)), (45, .d (di (a0.length : Int))), (46, .d (di x))], []⟩) hy4 (weak_cov ⟨rfl, rfl, rfl, trivial⟩ trivial) ?_
       rintro v46 sy4 hsy4
       replace hsy4 : mapping_parts_L3 a0 v46 = some sy4 := hsy4
       unfold mapping_parts_L3 at hsy4
       refine avc_sq2 <| avc_sq ?_
       refine sqa (a_lss (lq rfl) rfl rfl) ?_
       refine sq_nil <| avc_sq2 ?_
       refine avc_if rfl ⟨fun c7 => ?_, fun c7 => ?_⟩
       ·
        replace hsy4 := cT c7 hsy4
        refine avc_skip <| avc_sq2 <| avc_block <| avc_sq2 <| avc_sq ?_
        obtain ⟨t48, ht48, hsy4'⟩ := bE hsy4; clear hsy4
        refine sqa (m_index (en := eMapping) (lq rfl) S38 rfl rfl ht48) ?_
        refine sqa (m_loadEA (en := eMapping) (l := a0) (i := v46) (v := t48) (off := 0) (lq rfl) G109 rfl ht48 rfl rfl (by decide)) ?_
        refine sq_b rfl (step_alloc (zs := [(.int IntKind.i64 (0)), (.slice none 0 0), (.string ⟨#[]⟩)]) (lq rfl) (by kernel_rfl) rfl rfl) ?_
        refine sq_b rfl (s_store_boxA G109 rfl rfl rfl rfl rfl rfl) ?_
        refine sq_nil ?_
        refine avc_weak (weak_freeze (t := 10) (lq rfl) rfl rfl rfl) ?_
        refine avc_sq2 <| avc_sq ?_
        refine sqa (m_fieldPt (lq rfl) L109_2 rfl) ?_
        refine sqa (a_load_ip (lq rfl) O9 rfl rfl) ?_
        refine sqa (m_sneq (a := t48.Tag) (b := []) (lq rfl) rfl rfl) ?_
        obtain ⟨b53, hb53, hsy4⟩ := bE hsy4'; clear hsy4'
        refine sqa ((a_move_d (lq rfl) rfl).bool (Option.some.inj hb53)) ?_
        refine sq_g (x := .ip (eMapping.cells t48) (0 + 2)) rfl rfl rfl (lq rfl) (lq rfl) rfl (fun hb => by obtain rfl : b53 = true := hb; exact m_fieldPt (lq rfl) L109_2 rfl) ?_
        refine sq_g (x := .d (ds t48.Tag)) rfl rfl rfl (lq rfl) (lq rfl) rfl (fun hb => by obtain rfl : b53 = true := hb; exact a_load_ip (lq rfl) O9 rfl rfl) ?_
        obtain ⟨t56, ht56, hsy4'⟩ := bE hsy4; clear hsy4
        refine sq_g (x := .d (db t56)) rfl rfl rfl (lq rfl) (lq rfl) rfl (fun hb => by obtain rfl : b53 = true := hb; exact a_call (lq rfl) rfl (mapping_isName_c ht56)) ?_
        refine sq_g (x := .d (db (!t56))) rfl rfl rfl (lq rfl) (lq rfl) rfl (fun hb => by obtain rfl : b53 = true := hb; exact a_not (lq rfl) rfl) ?_
        refine sqa (a_pick_and (lq rfl) rfl rfl) ?_
        refine sq_nil ?_
        refine avc_if rfl ⟨fun c8 => ?_, fun c8 => ?_⟩
        ·
         replace hsy4' := cT c8 hsy4'
         refine avc_sq2 <| avc_sq ?_
         refine sqa (a_assign_d (lq rfl) rfl) ?_
         refine sq_nil ?_
         refine avc_ret ?_
         cases hsy4'
         intro q; cases q
         exact out_mk (weak_cov ⟨rfl, trivial⟩ trivial)
        ·
         replace hsy4' := cF c8 hsy4'
         refine avc_skip <| avc_sq ?_
         refine sqa (m_add (lq rfl) rfl rfl) ?_
         refine sqa (a_move_d (lq rfl) rfl) ?_
         refine sq_nil ?_
         cases hsy4'
         exact weak_cov ⟨rfl, rfl, rfl, trivial⟩ trivial
       ·
        replace hsy4 := cF c7 hsy4
        refine avc_exit ?_
        cases hsy4
        intro q; cases q
      ·
       cases h'
       exact ret_1 rfl
   ·
    replace h := eR h
    refine avc_tail (e := .ret) (S2 := ⟨[(2, .d (di y3))], []⟩) ?_ ?_
    ·
     refine avc_loopM (fun x => ⟨[(0, .d (dsl eMapping a0)), (33, .d (dsl eMapping a0)), (34, .d (di (a0.length : Int))), (35, .d (di x))], []⟩) hy3 (weak_cov ⟨rfl, rfl, rfl, rfl, trivial⟩ trivial) ?_
     rintro v35 sy3 hsy3
     replace hsy3 : mapping_parts_L2 a0 v35 = some sy3 := hsy3
     unfold mapping_parts_L2 at hsy3
     refine avc_sq2 <| avc_sq ?_
     refine sqa (a_lss (lq rfl) rfl rfl) ?_
     refine sq_nil <| avc_sq2 ?_
     refine avc_if rfl ⟨fun c5 => ?_, fun c5 => ?_⟩
     ·
      replace hsy3 := cT c5 hsy3
      refine avc_skip <| avc_sq2 <| avc_block <| avc_sq2 <| avc_sq ?_
      obtain ⟨t37, ht37, hsy3'⟩ := bE hsy3; clear hsy3
      refine sqa (m_index (en := eMapping) (lq rfl) S38 rfl rfl ht37) ?_
      refine sqa (m_loadEA (en := eMapping) (l := a0) (i := v35) (v := t37) (off := 0) (lq rfl) G109 rfl ht37 rfl rfl (by decide)) ?_
      refine sq_b rfl (step_alloc (zs := [(.int IntKind.i64 (0)), (.slice none 0 0), (.string ⟨#[]⟩)]) (lq rfl) (by kernel_rfl) rfl rfl) ?_
      refine sq_b rfl (s_store_boxA G109 rfl rfl rfl rfl rfl rfl) ?_
      refine sq_nil ?_
      refine avc_weak (weak_freeze (t := 8) (lq rfl) rfl rfl rfl) ?_
      refine avc_sq2 <| avc_sq ?_
      refine sqa (m_fieldPt (lq rfl) L109_1 rfl) ?_
      refine sqa (a_load_ip (lq rfl) O30 rfl rfl) ?_
      refine sqa (m_len (en := eI) (l := t37.To) (lq rfl) S30 rfl) ?_
      refine sqa (a_gtr (lq rfl) rfl rfl) ?_
      refine sq_nil ?_
      refine avc_if rfl ⟨fun c6 => ?_, fun c6 => ?_⟩
      ·
       replace hsy3' := cT c6 hsy3'
       refine avc_sq2 <| avc_sq ?_
       refine sqa (a_assign_d (lq rfl) rfl) ?_
       refine sq_nil ?_
       refine avc_ret ?_
       cases hsy3'
       intro q; cases q
       exact out_mk (weak_cov ⟨rfl, trivial⟩ trivial)
      ·
       replace hsy3' := cF c6 hsy3'
       refine avc_skip <| avc_sq ?_
       refine sqa (m_add (lq rfl) rfl rfl) ?_
       refine sqa (a_move_d (lq rfl) rfl) ?_
       refine sq_nil ?_
       cases hsy3'
       exact weak_cov ⟨rfl, rfl, rfl, rfl, trivial⟩ trivial
     ·
      replace hsy3 := cF c5 hsy3
      refine avc_exit ?_
      cases hsy3
      intro q; cases q
    ·
     cases h
     exact ret_1 rfl
 ·
  replace h' := eR h'
  refine avc_tail (e := .ret) (S2 := ⟨[(2, .d (di y1))], []⟩) ?_ ?_
  ·
   refine avc_loopM (fun x => ⟨[(0, .d (dsl eMapping a0)), (11, .d (dsl eMapping a0)), (12, .d (di (a0.length : Int))), (13, .d (di x))], []⟩) hy1 (weak_cov ⟨rfl, rfl, rfl, rfl, trivial⟩ trivial) ?_
   rintro v13 sy1 hsy1
   replace hsy1 : mapping_parts_L0 a0 v13 = some sy1 := hsy1
   unfold mapping_parts_L0 at hsy1
   refine avc_sq2 <| avc_sq ?_
   refine sqa (a_lss (lq rfl) rfl rfl) ?_
   refine sq_nil <| avc_sq2 ?_
   refine avc_if rfl ⟨fun c1 => ?_, fun c1 => ?_⟩
   ·
    replace hsy1 := cT c1 hsy1
    refine avc_skip <| avc_sq2 <| avc_block <| avc_sq2 <| avc_sq ?_
    obtain ⟨t15, ht15, hsy1'⟩ := bE hsy1; clear hsy1
    refine sqa (m_index (en := eMapping) (lq rfl) S38 rfl rfl ht15) ?_
    refine sqa (m_loadEA (en := eMapping) (l := a0) (i := v13) (v := t15) (off := 0) (lq rfl) G109 rfl ht15 rfl rfl (by decide)) ?_
    refine sq_b rfl (step_alloc (zs := [(.int IntKind.i64 (0)), (.slice none 0 0), (.string ⟨#[]⟩)]) (lq rfl) (by kernel_rfl) rfl rfl) ?_
    refine sq_b rfl (s_store_boxA G109 rfl rfl rfl rfl rfl rfl) ?_
    refine sq_nil ?_
    refine avc_weak (weak_freeze (t := 4) (lq rfl) rfl rfl rfl) ?_
    refine avc_sq2 <| avc_sq2 <| avc_sq ?_
    refine sqa (m_fieldPt (lq rfl) L109_0 rfl) ?_
    refine sqa (a_load_ip (lq rfl) O3 rfl rfl) ?_
    obtain ⟨t19, ht19, hsy1⟩ := bE hsy1'; clear hsy1'
    refine sqa (a_call (lq rfl) rfl (codepoint_Valid_c ht19)) ?_
    refine sqa (a_not (lq rfl) rfl) ?_
    refine sq_nil ?_
    refine avc_if rfl ⟨fun c2 => ?_, fun c2 => ?_⟩
    ·
     replace hsy1 := cT c2 hsy1
     refine avc_sq2 <| avc_sq ?_
     refine sqa (a_assign_d (lq rfl) rfl) ?_
     refine sq_nil ?_
     refine avc_ret ?_
     cases hsy1
     intro q; cases q
     exact out_mk (weak_cov ⟨rfl, trivial⟩ trivial)
    ·
     replace hsy1 := cF c2 hsy1
     refine avc_skip <| avc_sq2 <| avc_sq ?_
     refine sqa (m_fieldPt (lq rfl) L109_1 rfl) ?_
     refine sqa (a_load_ip (lq rfl) O30 rfl rfl) ?_
     refine sqa (m_len (en := eI) (l := t15.To) (lq rfl) S30 rfl) ?_
     refine sqa (a_move_d (lq rfl) rfl) ?_
     refine sq_nil <| avc_block ?_
     obtain ⟨y2, hy2, hsy1'⟩ := bE hsy1; clear hsy1
     rcases y2 with y2 | y2
     ·
      replace hsy1' := eL hsy1'
      refine avc_tail (e := .exit 2) (S2 := ⟨[(0, .d (dsl eMapping a0)), (11, .d (dsl eMapping a0)), (12, .d (di (a0.length : Int))), (13, .d (di v13))], []⟩) ?_ ?_
      ·
       refine avc_loopM (fun x => ⟨[(0, .d (dsl eMapping a0)), (11, .d (dsl eMapping a0)), (12, .d (di (a0.length : Int))), (13, .d (di v13)), (22, .d (dsl eI t15.To)), (23, .d (di (t15.To.length : Int))), (24, .d (di x))], []⟩) hy2 (weak_cov ⟨rfl, rfl, rfl, rfl, rfl, rfl, rfl, trivial⟩ trivial) ?_
       rintro v24 sy2 hsy2
       replace hsy2 : mapping_parts_L1 t15 v24 = some sy2 := hsy2
       unfold mapping_parts_L1 at hsy2
       refine avc_sq2 <| avc_sq ?_
       refine sqa (a_lss (lq rfl) rfl rfl) ?_
       refine sq_nil <| avc_sq2 ?_
       refine avc_if rfl ⟨fun c3 => ?_, fun c3 => ?_⟩
       ·
        replace hsy2 := cT c3 hsy2
        refine avc_skip <| avc_sq2 <| avc_block <| avc_sq2 <| avc_sq ?_
        obtain ⟨t26, ht26, hsy2'⟩ := bE hsy2; clear hsy2
        refine sqa (m_index (en := eI) (lq rfl) S30 rfl rfl ht26) ?_
        refine sqa (m_loadE (en := eI) (l := t15.To) (i := v24) (v := t26) (off := 0) (lq rfl) O3 rfl ht26 rfl) ?_
        refine sqa (a_assign_d (lq rfl) rfl) ?_
        refine sq_nil <| avc_sq2 <| avc_sq ?_
        refine sqa (a_move_d (lq rfl) rfl) ?_
        obtain ⟨t29, ht29, hsy2⟩ := bE hsy2'; clear hsy2'
        refine sqa (a_call (lq rfl) rfl (codepoint_Valid_c ht29)) ?_
        refine sqa (a_not (lq rfl) rfl) ?_
        refine sq_nil ?_
        refine avc_if rfl ⟨fun c4 => ?_, fun c4 => ?_⟩
        ·
         replace hsy2 := cT c4 hsy2
         refine avc_sq2 <| avc_sq ?_
         refine sqa (a_assign_d (lq rfl) rfl) ?_
         refine sq_nil ?_
         refine avc_ret ?_
         cases hsy2
         intro q; cases q
        ·
         replace hsy2 := cF c4 hsy2
         refine avc_skip <| avc_sq ?_
         refine sqa (m_add (lq rfl) rfl rfl) ?_
         refine sqa (a_move_d (lq rfl) rfl) ?_
         refine sq_nil ?_
         cases hsy2
         exact weak_cov ⟨rfl, rfl, rfl, rfl, rfl, rfl, rfl, trivial⟩ trivial
       ·
        replace hsy2 := cF c3 hsy2
        refine avc_exit ?_
        cases hsy2
        intro q; cases q
        exact out_mk (weak_cov ⟨rfl, rfl, rfl, rfl, trivial⟩ trivial)
      ·
       refine avc_sq ?_
       refine sqa (m_add (lq rfl) rfl rfl) ?_
       refine sqa (a_move_d (lq rfl) rfl) ?_
       refine sq_nil ?_
       cases hsy1'
       exact weak_cov ⟨rfl, rfl, rfl, rfl, trivial⟩ trivial
     ·
      replace hsy1' := eR hsy1'
      refine avc_tail (e := .ret) (S2 := ⟨[(2, .d (di y2))], []⟩) ?_ ?_
      ·
       refine avc_loopM (fun x => ⟨[(0, .d (dsl eMapping a0)), (11, .d (dsl eMapping a0)), (12, .d (di (a0.length : Int))), (13, .d (di v13)), (22, .d (dsl eI t15.To)), (23, .d (di (t15.To.length : Int))), (24, .d (di x))], []⟩) hy2 (weak_cov ⟨rfl, rfl, rfl, rfl, rfl, rfl, rfl, trivial⟩ trivial) ?_
       rintro v24 sy2 hsy2
       replace hsy2 : mapping_parts_L1 t15 v24 = some sy2 := hsy2
       unfold mapping_parts_L1 at hsy2
       refine avc_sq2 <| avc_sq ?_
       refine sqa (a_lss (lq rfl) rfl rfl) ?_
       refine sq_nil <| avc_sq2 ?_
       refine avc_if rfl ⟨fun c3 => ?_, fun c3 => ?_⟩
       ·
        replace hsy2 := cT c3 hsy2
        refine avc_skip <| avc_sq2 <| avc_block <| avc_sq2 <| avc_sq ?_
        obtain ⟨t26, ht26, hsy2'⟩ := bE hsy2; clear hsy2
        refine sqa (m_index (en := eI) (lq rfl) S30 rfl rfl ht26) ?_
        refine sqa (m_loadE (en := eI) (l := t15.To) (i := v24) (v := t26) (off := 0) (lq rfl) O3 rfl ht26 rfl) ?_
        refine sqa (a_assign_d (lq rfl) rfl) ?_
        refine sq_nil <| avc_sq2 <| avc_sq ?_
        refine sqa (a_move_d (lq rfl) rfl) ?_
        obtain ⟨t29, ht29, hsy2⟩ := bE hsy2'; clear hsy2'
        refine sqa (a_call (lq rfl) rfl (codepoint_Valid_c ht29)) ?_
        refine sqa (a_not (lq rfl) rfl) ?_
        refine sq_nil ?_
        refine avc_if rfl ⟨fun c4 => ?_, fun c4 => ?_⟩
        ·
         replace hsy2 := cT c4 hsy2
         refine avc_sq2 <| avc_sq ?_
         refine sqa (a_assign_d (lq rfl) rfl) ?_
         refine sq_nil ?_
         refine avc_ret ?_
         cases hsy2
         intro q; cases q
         exact out_mk (weak_cov ⟨rfl, trivial⟩ trivial)
        ·
         replace hsy2 := cF c4 hsy2
         refine avc_skip <| avc_sq ?_
         refine sqa (m_add (lq rfl) rfl rfl) ?_
         refine sqa (a_move_d (lq rfl) rfl) ?_
         refine sq_nil ?_
         cases hsy2
         exact weak_cov ⟨rfl, rfl, rfl, rfl, rfl, rfl, rfl, trivial⟩ trivial
       ·
        replace hsy2 := cF c3 hsy2
        refine avc_exit ?_
        cases hsy2
        intro q; cases q
      ·
       cases hsy1'
       intro q; cases q
       exact out_mk (weak_cov ⟨rfl, trivial⟩ trivial)
   ·
    replace hsy1 := cF c1 hsy1
    refine avc_exit ?_
    cases hsy1
    intro q; cases q
  ·
   cases h'
   exact ret_1 rfl

theorem cmp_isNaN_string_c  {a0 : Str}  {r : Bool} (h : cmp_isNaN_string a0 = some r) : Contract Tryd.prog 97 [(ds a0)] [(db r)] := by
 refine contract_of Tryd.func97 (by kernel_rfl) rfl (lq rfl) (lq rfl) fun w0 I0 hI0 hG0 => ?_
 unfold cmp_isNaN_string at h
 refine avc_sq2 <| avc_sq ?_
 refine sqa (a_assign_d (lq rfl) rfl) ?_
 refine sq_nil <| avc_sq2 <| avc_sq ?_
 refine sqa (a_move_d (lq rfl) rfl) ?_
 refine sqa (a_move_d (lq rfl) rfl) ?_
 refine sqa (m_sneq (a := a0) (b := a0) (lq rfl) rfl rfl) ?_
 refine sqa (a_assign_d (lq rfl) rfl) ?_
 refine sq_nil ?_
 cases h
 refine avc_ret ?_
 exact ret_1 rfl

theorem cmp_Compare_string_c  {a0 : Str} {a1 : Str}  {r : Int} (h : cmp_Compare_string a0 a1 = some r) : Contract Tryd.prog 92 [(ds a0), (ds a1)] [(di r)] := by
 refine contract_of Tryd.func92 (by kernel_rfl) rfl (lq rfl) (lq rfl) fun w0 I0 hI0 hG0 => ?_
 unfold cmp_Compare_string at h
 refine avc_sq2 <| avc_sq ?_
 refine sqa (a_assign_d (lq rfl) rfl) ?_
 refine sq_nil <| avc_sq2 <| avc_sq ?_
 refine sqa (a_move_d (lq rfl) rfl) ?_
 obtain ⟨t8, ht8, h'⟩ := bE h; clear h
 refine sqa (a_call (lq rfl) rfl (cmp_isNaN_string_c ht8)) ?_
 refine sqa (a_assign_d (lq rfl) rfl) ?_
 refine sq_nil <| avc_sq2 <| avc_sq ?_
 refine sqa (a_move_d (lq rfl) rfl) ?_
 obtain ⟨t10, ht10, h⟩ := bE h'; clear h'
 refine sqa (a_call (lq rfl) rfl (cmp_isNaN_string_c ht10)) ?_
 refine sqa (a_assign_d (lq rfl) rfl) ?_
 refine sq_nil <| avc_sq2 <| avc_sq2 <| avc_sq ?_
 refine sqa (a_move_d (lq rfl) rfl) ?_
 refine sq_nil ?_
 refine avc_if rfl ⟨fun c1 => ?_, fun c1 => ?_⟩
 ·
  replace h := cT c1 h
  refine avc_sq2 <| avc_sq2 <| avc_sq ?_
  refine sqa (a_move_d (lq rfl) rfl) ?_
  refine sq_nil ?_
  refine avc_if rfl ⟨fun c2 => ?_, fun c2 => ?_⟩
  ·
   replace h := cT c2 h
   refine avc_sq2 <| avc_sq ?_
   refine sqa (a_assign_d (lq rfl) rfl) ?_
   refine sq_nil ?_
   cases h
   refine avc_ret ?_
   exact ret_1 rfl
  ·
   replace h := cF c2 h
   refine avc_skip <| avc_sq2 <| avc_sq ?_
   refine sqa (a_assign_d (lq rfl) rfl) ?_
   refine sq_nil ?_
   cases h
   refine avc_ret ?_
   exact ret_1 rfl
 ·
  replace h := cF c1 h
  refine avc_skip <| avc_sq2 <| avc_sq2 <| avc_sq ?_
  refine sqa (a_move_d (lq rfl) rfl) ?_
  refine sq_nil ?_
  refine avc_if rfl ⟨fun c3 => ?_, fun c3 => ?_⟩
  ·
   replace h := cT c3 h
   refine avc_sq2 <| avc_sq ?_
   refine sqa (a_assign_d (lq rfl) rfl) ?_
   refine sq_nil ?_
   cases h
   refine avc_ret ?_
   exact ret_1 rfl
  ·
   replace h := cF c3 h
   refine avc_skip <| avc_sq2 <| avc_sq2 <| avc_sq ?_
   refine sqa (a_move_d (lq rfl) rfl) ?_
   refine sqa (a_move_d (lq rfl) rfl) ?_
   refine sqa (m_slss (a := a0) (b := a1) (lq rfl) rfl rfl) ?_
   refine sq_nil ?_
   refine avc_if rfl ⟨fun c4 => ?_, fun c4 => ?_⟩
   ·
    replace h := cT c4 h
    refine avc_sq2 <| avc_sq ?_
    refine sqa (a_assign_d (lq rfl) rfl) ?_
    refine sq_nil ?_
    cases h
    refine avc_ret ?_
    exact ret_1 rfl
   ·
    replace h := cF c4 h
    refine avc_skip <| avc_sq2 <| avc_sq2 <| avc_sq ?_
    refine sqa (a_move_d (lq rfl) rfl) ?_
    refine sqa (a_move_d (lq rfl) rfl) ?_
    refine sqa (m_sgtr (a := a0) (b := a1) (lq rfl) rfl rfl) ?_
    refine sq_nil ?_
    refine avc_if rfl ⟨fun c5 => ?_, fun c5 => ?_⟩
    ·
     replace h := cT c5 h
     refine avc_sq2 <| avc_sq ?_
     refine sqa (a_assign_d (lq rfl) rfl) ?_
     refine sq_nil ?_
     cases h
     refine avc_ret ?_
     exact ret_1 rfl
    ·
     replace h := cF c5 h
     refine avc_skip <| avc_sq2 <| avc_sq ?_
     refine sqa (a_assign_d (lq rfl) rfl) ?_
     refine sq_nil ?_
     cases h
     refine avc_ret ?_
     exact ret_1 rfl

theorem cmp_Or_int_c  {a0 : (List Int)}  {r : Int} (h : cmp_Or_int a0 = some r) : Contract Tryd.prog 91 [(dsl eI a0)] [(di r)] := by
 refine contract_of Tryd.func91 (by kernel_rfl) rfl (lq rfl) (lq rfl) fun w0 I0 hI0 hG0 => ?_
 unfold cmp_Or_int at h
 refine avc_sq2 <| avc_sq ?_
 refine sqa (a_assign_d (lq rfl) rfl) ?_
 refine sq_nil <| avc_sq2 <| avc_sq ?_
 refine sqa (a_assign_d (lq rfl) rfl) ?_
 refine sq_nil <| avc_sq2 <| avc_sq2 <| avc_sq ?_
 refine sqa (a_move_d (lq rfl) rfl) ?_
 refine sqa (m_len (en := eI) (l := a0) (lq rfl) S30 rfl) ?_
 refine sqa (a_move_d (lq rfl) rfl) ?_
 refine sq_nil <| avc_block ?_
 obtain ⟨y1, hy1, h'⟩ := bE h; clear h
 rcases y1 with y1 | y1
 ·
  replace h' := eL h'
  refine avc_tail (e := .exit 0) (S2 := ⟨[(3, .d (di 0))], []⟩) ?_ ?_
  ·
   refine avc_loopM (fun x => ⟨[(3, .d (di 0)), (6, .d (dsl eI a0)), (7, .d (di (a0.length : Int))), (8, .d (di x))], []⟩) hy1 (weak_cov ⟨rfl, rfl, rfl, rfl, trivial⟩ trivial) ?_
   rintro v8 sy1 hsy1
   replace hsy1 : cmp_Or_int_L0 a0 v8 = some sy1 := hsy1
   unfold cmp_Or_int_L0 at hsy1
   refine avc_sq2 <| avc_sq ?_
   refine sqa (a_lss (lq rfl) rfl rfl) ?_
   refine sq_nil <| avc_sq2 ?_
   refine avc_if rfl ⟨fun c1 => ?_, fun c1 => ?_⟩
   ·
    replace hsy1 := cT c1 hsy1
    refine avc_skip <| avc_sq2 <| avc_block <| avc_sq2 <| avc_sq ?_
    obtain ⟨t10, ht10, hsy1'⟩ := bE hsy1; clear hsy1
    refine sqa (m_index (en := eI) (lq rfl) S30 rfl rfl ht10) ?_
    refine sqa (m_loadE (en := eI) (l := a0) (i := v8) (v := t10) (off := 0) (lq rfl) O3 rfl ht10 rfl) ?_
    refine sqa (a_assign_d (lq rfl) rfl) ?_
    refine sq_nil <| avc_sq2 <| avc_sq ?_
    refine sqa (a_move_d (lq rfl) rfl) ?_
    refine sqa (a_move_d (lq rfl) rfl) ?_
    refine sqa (a_neq (lq rfl) rfl rfl) ?_
    refine sq_nil ?_
    refine avc_if rfl ⟨fun c2 => ?_, fun c2 => ?_⟩
    ·
     replace hsy1' := cT c2 hsy1'
     refine avc_sq2 <| avc_sq ?_
     refine sqa (a_move_d (lq rfl) rfl) ?_
     refine sqa (a_assign_d (lq rfl) rfl) ?_
     refine sq_nil ?_
     refine avc_ret ?_
     cases hsy1'
     intro q; cases q
    ·
     replace hsy1' := cF c2 hsy1'
     refine avc_skip <| avc_sq ?_
     refine sqa (m_add (lq rfl) rfl rfl) ?_
     refine sqa (a_move_d (lq rfl) rfl) ?_
     refine sq_nil ?_
     cases hsy1'
     exact weak_cov ⟨rfl, rfl, rfl, rfl, trivial⟩ trivial
   ·
    replace hsy1 := cF c1 hsy1
    refine avc_exit ?_
    cases hsy1
    intro q; cases q
    exact out_mk (weak_cov ⟨rfl, trivial⟩ trivial)
  ·
   refine avc_sq2 <| avc_sq ?_
   refine sqa (a_move_d (lq rfl) rfl) ?_
   refine sqa (a_assign_d (lq rfl) rfl) ?_
   refine sq_nil ?_
   cases h'
   refine avc_ret ?_
   exact ret_1 rfl
 ·
  replace h' := eR h'
  refine avc_tail (e := .ret) (S2 := ⟨[(2, .d (di y1))], []⟩) ?_ ?_
  ·
   refine avc_loopM (fun x => ⟨[(3, .d (di 0)), (6, .d (dsl eI a0)), (7, .d (di (a0.length : Int))), (8, .d (di x))], []⟩) hy1 (weak_cov ⟨rfl, rfl, rfl, rfl, trivial⟩ trivial) ?_
   rintro v8 sy1 hsy1
   replace hsy1 : cmp_Or_int_L0 a0 v8 = some sy1 := hsy1
   unfold cmp_Or_int_L0 at hsy1
   refine avc_sq2 <| avc_sq ?_
   refine sqa (a_lss (lq rfl) rfl rfl) ?_
   refine sq_nil <| avc_sq2 ?_
   refine avc_if rfl ⟨fun c1 => ?_, fun c1 => ?_⟩
   ·
    replace hsy1 := cT c1 hsy1
    refine avc_skip <| avc_sq2 <| avc_block <| avc_sq2 <| avc_sq ?_
    obtain ⟨t10, ht10, hsy1'⟩ := bE hsy1; clear hsy1
    refine sqa (m_index (en := eI) (lq rfl) S30 rfl rfl ht10) ?_
    refine sqa (m_loadE (en := eI) (l := a0) (i := v8) (v := t10) (off := 0) (lq rfl) O3 rfl ht10 rfl) ?_
    refine sqa (a_assign_d (lq rfl) rfl) ?_
    refine sq_nil <| avc_sq2 <| avc_sq ?_
    refine sqa (a_move_d (lq rfl) rfl) ?_
    refine sqa (a_move_d (lq rfl) rfl) ?_
    refine sqa (a_neq (lq rfl) rfl rfl) ?_
    refine sq_nil ?_
    refine avc_if rfl ⟨fun c2 => ?_, fun c2 => ?_⟩
    ·
     replace hsy1' := cT c2 hsy1'
     refine avc_sq2 <| avc_sq ?_
     refine sqa (a_move_d (lq rfl) rfl) ?_
     refine sqa (a_assign_d (lq rfl) rfl) ?_
     refine sq_nil ?_
     refine avc_ret ?_
     cases hsy1'
     intro q; cases q
     exact out_mk (weak_cov ⟨rfl, trivial⟩ trivial)
    ·
     replace hsy1' := cF c2 hsy1'
     refine avc_skip <| avc_sq ?_
     refine sqa (m_add (lq rfl) rfl rfl) ?_
     refine sqa (a_move_d (lq rfl) rfl) ?_
     refine sq_nil ?_
     cases hsy1'
     exact weak_cov ⟨rfl, rfl, rfl, rfl, trivial⟩ trivial
   ·
    replace hsy1 := cF c1 hsy1
    refine avc_exit ?_
    cases hsy1
    intro q; cases q
  ·
   cases h'
   exact ret_1 rfl

theorem mapping_compare_c  {a0 : Mapping} {a1 : Mapping}  {r : Int} (h : mapping_compare a0 a1 = some r) : Contract Tryd.prog 82 [(eMapping.dv a0), (eMapping.dv a1)] [(di r)] := by
 refine contract_of Tryd.func82 (by kernel_rfl) rfl (lq rfl) (lq rfl) fun w0 I0 hI0 hG0 => ?_
 unfold mapping_compare at h
 refine avc_sq2 <| avc_sq ?_
 refine sqa (m_box (size := 3) (lq rfl) rfl rfl) ?_
 refine sqa (m_box (size := 3) (lq rfl) rfl rfl) ?_
 refine sqa (a_assign_d (lq rfl) rfl) ?_
 refine sq_nil <| avc_sq2 ?_
 refine avc_drawA MX rfl ?_
 refine daa (m_fieldPt (lq rfl) L109_0 rfl) ?_
 refine daa (a_load_ip (lq rfl) O3 rfl rfl) ?_
 refine daa (m_fieldPt (lq rfl) L109_0 rfl) ?_
 refine daa (a_load_ip (lq rfl) O3 rfl rfl) ?_
 obtain ⟨t9, ht9, h'⟩ := bE h; clear h
 refine daa (a_call (lq rfl) rfl (cmp_Compare_int_c ht9)) ?_
 refine daa (m_fieldPt (lq rfl) L109_2 rfl) ?_
 refine daa (a_load_ip (lq rfl) O9 rfl rfl) ?_
 refine daa (m_fieldPt (lq rfl) L109_2 rfl) ?_
 refine daa (a_load_ip (lq rfl) O9 rfl rfl) ?_
 obtain ⟨t14, ht14, h⟩ := bE h'; clear h'
 refine daa (a_call (lq rfl) rfl (cmp_Compare_string_c ht14)) ?_
 refine daa (a_lit (lq rfl) S30 rfl rfl rfl rfl (by decide) rfl) ?_
 obtain ⟨t16, ht16, h'⟩ := bE h; clear h
 refine daa (a_call (lq rfl) rfl (cmp_Or_int_c ht16)) ?_
 refine daa (a_assign_d (lq rfl) rfl) ?_
 refine da_nil ?_
 cases h'
 refine avc_ret ?_
 exact ret_1 rfl

theorem mapping_keyOf_c  {a0 : Mapping}  {r : Mapping_key} (h : mapping_keyOf a0 = some r) : Contract Tryd.prog 83 [(eMapping.dv a0)] [(eMapping_key.dv r)] := by
 refine contract_of Tryd.func83 (by kernel_rfl) rfl (lq rfl) (lq rfl) fun w0 I0 hI0 hG0 => ?_
 unfold mapping_keyOf at h
 refine avc_sq2 <| avc_sq ?_
 refine sqa (m_box (size := 3) (lq rfl) rfl rfl) ?_
 refine sq_b rfl (step_alloc (zs := [(.int IntKind.i64 (0)), (.string ⟨#[]⟩)]) (lq rfl) (by kernel_rfl) rfl rfl) ?_
 refine sq_nil <| avc_sq2 <| avc_sq ?_
 refine sqa (m_fieldPt (lq rfl) L109_0 rfl) ?_
 refine sqa (a_load_ip (lq rfl) O3 rfl rfl) ?_
 refine sqa (m_fieldPt (lq rfl) L109_2 rfl) ?_
 refine sqa (a_load_ip (lq rfl) O9 rfl rfl) ?_
 refine sqa (m_build (lq rfl) B127 rfl rfl) ?_
 refine sq_b rfl (s_store_boxA G127 rfl rfl rfl rfl rfl rfl) ?_
 refine sq_nil ?_
 cases h
 refine avc_ret ?_
 exact ret_cellA rfl rfl G127 rfl

theorem mapping_Check_c  {a0 : (List Mapping)}  {r : Int} (h : mapping_Check a0 = some r) : Contract Tryd.prog 67 [(dsl eMapping a0)] [(di r)] := by
 refine contract_of Tryd.func67 (by kernel_rfl) rfl (lq rfl) (lq rfl) fun w0 I0 hI0 hG0 => ?_
 unfold mapping_Check at h
 refine avc_sq2 <| avc_sq ?_
 refine sqa (a_assign_d (lq rfl) rfl) ?_
 refine sq_nil <| avc_sq2 <| avc_sq2 <| avc_sq ?_
 refine sqa (a_move_d (lq rfl) rfl) ?_
 obtain ⟨t10, ht10, h'⟩ := bE h; clear h
 refine sqa (a_call (lq rfl) rfl (mapping_parts_c ht10)) ?_
 refine sqa (a_assign_d (lq rfl) rfl) ?_
 refine sq_nil <| avc_sq2 <| avc_sq ?_
 refine sqa (a_move_d (lq rfl) rfl) ?_
 refine sqa (a_neq (lq rfl) rfl rfl) ?_
 refine sq_nil ?_
 refine avc_if rfl ⟨fun c1 => ?_, fun c1 => ?_⟩
 ·
  replace h' := cT c1 h'
  refine avc_sq2 <| avc_sq ?_
  refine sqa (a_move_d (lq rfl) rfl) ?_
  refine sqa (a_assign_d (lq rfl) rfl) ?_
  refine sq_nil ?_
  cases h'
  refine avc_ret ?_
  exact ret_1 rfl
 ·
  replace h' := cF c1 h'
  refine avc_skip <| avc_sq2 <| avc_sq ?_
  refine sqa (a_assign_d (lq rfl) rfl) ?_
  refine sq_nil <| avc_sq2 <| avc_sq2 <| avc_sq ?_
  refine sqa (a_assign_d (lq rfl) rfl) ?_
  refine sq_nil <| avc_block ?_
  obtain ⟨y1, hy1, h⟩ := bE h'; clear h'
  refine avc_tail (e := .exit 0) (S2 := ⟨[(0, .d (dsl eMapping a0)), (4, .d (db y1))], []⟩) ?_ ?_
  ·
   refine avc_loopM (fun x => ⟨[(0, .d (dsl eMapping a0)), (4, .d (db x.1)), (5, .d (di x.2))], []⟩) hy1 (weak_cov ⟨rfl, rfl, rfl, trivial⟩ trivial) ?_
   rintro ⟨v4, v5⟩ sy1 hsy1
   replace hsy1 : mapping_Check_L0 a0 v4 v5 = some sy1 := hsy1
   unfold mapping_Check_L0 at hsy1
   refine avc_sq2 <| avc_sq2 <| avc_sq ?_
   refine sqa (a_move_d (lq rfl) rfl) ?_
   refine sqa (a_move_d (lq rfl) rfl) ?_
   refine sqa (m_len (en := eMapping) (l := a0) (lq rfl) S38 rfl) ?_
   refine sqa (a_lss (lq rfl) rfl rfl) ?_
   refine sq_nil ?_
   refine avc_if rfl ⟨fun c2 => ?_, fun c2 => ?_⟩
   ·
    replace hsy1 := cT c2 hsy1
    refine avc_skip <| avc_sq2 ?_
    obtain ⟨y2, hy2, hsy1'⟩ := bE hsy1; clear hsy1
    refine avc_tail (e := .normal) (S2 := ⟨[(0, .d (dsl eMapping a0)), (4, .d (db y2)), (5, .d (di v5))], []⟩) ?_ ?_
    ·
     refine avc_block <| avc_sq2 ?_
     refine avc_drawA MX rfl ?_
     refine daa (a_move_d (lq rfl) rfl) ?_
     refine daa (a_move_d (lq rfl) rfl) ?_
     refine daa (m_sub (lq rfl) rfl rfl) ?_
     obtain ⟨t23, ht23, hy2'⟩ := bE hy2; clear hy2
     refine daa (m_index (en := eMapping) (lq rfl) S38 rfl rfl ht23) ?_
     refine daa (m_loadEA (en := eMapping) (l := a0) (i := (wi (v5 - 1))) (v := t23) (off := 0) (lq rfl) G109 rfl ht23 rfl rfl (by decide)) ?_
     refine daa (a_move_d (lq rfl) rfl) ?_
     refine daa (a_move_d (lq rfl) rfl) ?_
     obtain ⟨t27, ht27, hy2⟩ := bE hy2'; clear hy2'
     refine daa (m_index (en := eMapping) (lq rfl) S38 rfl rfl ht27) ?_
     refine daa (m_loadEA (en := eMapping) (l := a0) (i := v5) (v := t27) (off := 0) (lq rfl) G109 rfl ht27 rfl rfl (by decide)) ?_
     obtain ⟨t29, ht29, hy2'⟩ := bE hy2; clear hy2
     refine daa (a_call (lq rfl) rfl (mapping_compare_c ht29)) ?_
     refine daa (a_geq (lq rfl) rfl rfl) ?_
     refine da_nil ?_
     refine avc_if rfl ⟨fun c3 => ?_, fun c3 => ?_⟩
     ·
      replace hy2' := cT c3 hy2'
      refine avc_sq ?_
      refine sqa (a_assign_d (lq rfl) rfl) ?_
      refine sq_nil ?_
      cases hy2'
      exact out_mk (weak_cov ⟨rfl, rfl, rfl, trivial⟩ trivial)
     ·
      replace hy2' := cF c3 hy2'
      refine avc_skip ?_
      cases hy2'
      exact out_mk (weak_cov ⟨rfl, rfl, rfl, trivial⟩ trivial)
    ·
     refine avc_sq ?_
     refine sqa (a_move_d (lq rfl) rfl) ?_
     refine sqa (m_add (lq rfl) rfl rfl) ?_
     refine sqa (a_assign_d (lq rfl) rfl) ?_
     refine sq_nil ?_
     cases hsy1'
     exact weak_cov ⟨rfl, rfl, rfl, trivial⟩ trivial
   ·
    replace hsy1 := cF c2 hsy1
    refine avc_exit ?_
    cases hsy1
    intro q; cases q
    exact out_mk (weak_cov ⟨rfl, rfl, trivial⟩ trivial)
  ·
   refine avc_sq2 <| avc_sq2 <| avc_sq ?_
   refine sqa (a_move_d (lq rfl) rfl) ?_
   refine sq_nil ?_
   refine avc_if rfl ⟨fun c4 => ?_, fun c4 => ?_⟩
   ·
    replace h := cT c4 h
    refine avc_sq2 <| avc_sq ?_
    refine sqa (a_assign_d (lq rfl) rfl) ?_
    refine sq_nil ?_
    cases h
    refine avc_ret ?_
    exact ret_1 rfl
   ·
    replace h := cF c4 h
    refine avc_skip <| avc_sq2 <| avc_sq ?_
    refine sq_b rfl (m_makeMap (lq rfl) rfl) ?_
    refine sqa (a_assign_row (lq rfl) rfl) ?_
    refine sq_nil <| avc_sq2 <| avc_sq2 <| avc_sq ?_
    refine sqa (a_move_d (lq rfl) rfl) ?_
    refine sqa (m_len (en := eMapping) (l := a0) (lq rfl) S38 rfl) ?_
    refine sqa (a_move_d (lq rfl) rfl) ?_
    refine sq_nil <| avc_block ?_
    obtain ⟨y3, hy3, h'⟩ := bE h; clear h
    rcases y3 with y3 | y3
    ·
     replace h' := eL h'
     refine avc_tail (e := .exit 2) (S2 := ⟨[], []⟩) ?_ ?_
     ·
      refine avc_loopM (fun x => ⟨[(6, .row 32), (33, .d (dsl eMapping a0)), (34, .d (di (a0.length : Int))), (35, .d (di x.1))], [(32, .map (mapE kMapping_key eB x.2))]⟩) hy3 (weak_cov ⟨rfl, rfl, rfl, rfl, trivial⟩ ⟨rfl, trivial⟩) ?_
      rintro ⟨v35, r32⟩ sy3 hsy3
      replace hsy3 : mapping_Check_L1 a0 v35 r32 = some sy3 := hsy3
      unfold mapping_Check_L1 at hsy3
      refine avc_sq2 <| avc_sq ?_
      refine sqa (a_lss (lq rfl) rfl rfl) ?_
      refine sq_nil <| avc_sq2 ?_
      refine avc_if rfl ⟨fun c5 => ?_, fun c5 => ?_⟩
      ·
       replace hsy3 := cT c5 hsy3
       refine avc_skip <| avc_sq2 <| avc_block <| avc_sq2 <| avc_sq ?_
       obtain ⟨t37, ht37, hsy3'⟩ := bE hsy3; clear hsy3
       refine sqa (m_index (en := eMapping) (lq rfl) S38 rfl rfl ht37) ?_
       refine sqa (m_loadEA (en := eMapping) (l := a0) (i := v35) (v := t37) (off := 0) (lq rfl) G109 rfl ht37 rfl rfl (by decide)) ?_
       refine sq_b rfl (step_alloc (zs := [(.int IntKind.i64 (0)), (.slice none 0 0), (.string ⟨#[]⟩)]) (lq rfl) (by kernel_rfl) rfl rfl) ?_
       refine sq_b rfl (s_store_boxA G109 rfl rfl rfl rfl rfl rfl) ?_
       refine sq_nil ?_
       refine avc_weak (weak_freeze (t := 8) (lq rfl) rfl rfl rfl) ?_
       refine avc_sq2 <| avc_sq2 <| avc_sq ?_
       refine sqa (a_move_row (lq rfl) rfl) ?_
       refine sqa (m_loadPt (lq rfl) G109 rfl rfl) ?_
       obtain ⟨t41, ht41, hsy3⟩ := bE hsy3'; clear hsy3'
       refine sqa (a_call (lq rfl) rfl (mapping_keyOf_c ht41)) ?_
       refine sqa (m_lookupK (kv := kMapping_key) (ev := eB) (mp := r32) (k := t41) (zero := false) (lq rfl) M125 K127 rfl rfl rfl (kAgg rfl) (fun _ _ => .v _)) ?_
       refine sq_nil ?_
       refine avc_if rfl ⟨fun c6 => ?_, fun c6 => ?_⟩
       ·
        replace hsy3 := cT c6 hsy3
        refine avc_sq2 <| avc_sq ?_
        refine sqa (a_assign_d (lq rfl) rfl) ?_
        refine sq_nil ?_
        refine avc_ret ?_
        cases hsy3
        intro q; cases q
       ·
        replace hsy3 := cF c6 hsy3
        refine avc_skip <| avc_sq ?_
        refine sqa (a_move_row (lq rfl) rfl) ?_
        refine sqa (m_loadPt (lq rfl) G109 rfl rfl) ?_
        obtain ⟨t45, ht45, hsy3'⟩ := bE hsy3; clear hsy3
        refine sqa (a_call (lq rfl) rfl (mapping_keyOf_c ht45)) ?_
        refine sq_b rfl (m_mapUpdateK (kv := kMapping_key) (ev := eB) (mp := r32) (k := t45) (v := true) M125 K127 rfl rfl rfl (kAgg rfl) rfl rfl rfl) ?_
        refine sq_nil <| avc_sq ?_
        refine sqa (m_add (lq rfl) rfl rfl) ?_
        refine sqa (a_move_d (lq rfl) rfl) ?_
        refine sq_nil ?_
        cases hsy3'
        exact weak_cov ⟨rfl, rfl, rfl, rfl, trivial⟩ ⟨rfl, trivial⟩
      ·
       replace hsy3 := cF c5 hsy3
       refine avc_exit ?_
       cases hsy3
       intro q; cases q
       exact out_mk (weak_cov trivial trivial)
     ·
      refine avc_sq2 <| avc_sq ?_
      refine sqa (a_assign_d (lq rfl) rfl) ?_
      refine sq_nil ?_
      cases h'
      refine avc_ret ?_
      exact ret_1 rfl
    ·
     replace h' := eR h'
     refine avc_tail (e := .ret) (S2 := ⟨[(2, .d (di y3))], []⟩) ?_ ?_
     ·
      refine avc_loopM (fun x => ⟨[(6, .row 32), (33, .d (dsl eMapping a0)), (34, .d (di (a0.length : Int))), (35, .d (di x.1))], [(32, .map (mapE kMapping_key eB x.2))]⟩) hy3 (weak_cov ⟨rfl, rfl, rfl, rfl, trivial⟩ ⟨rfl, trivial⟩) ?_
      rintro ⟨v35, r32⟩ sy3 hsy3
      replace hsy3 : mapping_Check_L1 a0 v35 r32 = some sy3 := hsy3
      unfold mapping_Check_L1 at hsy3
      refine avc_sq2 <| avc_sq ?_
      refine sqa (a_lss (lq rfl) rfl rfl) ?_
      refine sq_nil <| avc_sq2 ?_
      refine avc_if rfl ⟨fun c5 => ?_, fun c5 => ?_⟩
      ·
       replace hsy3 := cT c5 hsy3
       refine avc_skip <| avc_sq2 <| avc_block <| avc_sq2 <| avc_sq ?_
       obtain ⟨t37, ht37, hsy3'⟩ := bE hsy3; clear hsy3
       refine sqa (m_index (en := eMapping) (lq rfl) S38 rfl rfl ht37) ?_
       refine sqa (m_loadEA (en := eMapping) (l := a0) (i := v35) (v := t37) (off := 0) (lq rfl) G109 rfl ht37 rfl rfl (by decide)) ?_
       refine sq_b rfl (step_alloc (zs := [(.int IntKind.i64 (0)), (.slice none 0 0), (.string ⟨#[]⟩)]) (lq rfl) (by kernel_rfl) rfl rfl) ?_
       refine sq_b rfl (s_store_boxA G109 rfl rfl rfl rfl rfl rfl) ?_
       refine sq_nil ?_
       refine avc_weak (weak_freeze (t := 8) (lq rfl) rfl rfl rfl) ?_
       refine avc_sq2 <| avc_sq2 <| avc_sq ?_
       refine sqa (a_move_row (lq rfl) rfl) ?_
       refine sqa (m_loadPt (lq rfl) G109 rfl rfl) ?_
       obtain ⟨t41, ht41, hsy3⟩ := bE hsy3'; clear hsy3'
       refine sqa (a_call (lq rfl) rfl (mapping_keyOf_c ht41)) ?_
       refine sqa (m_lookupK (kv := kMapping_key) (ev := eB) (mp := r32) (k := t41) (zero := false) (lq rfl) M125 K127 rfl rfl rfl (kAgg rfl) (fun _ _ => .v _)) ?_
       refine sq_nil ?_
       refine avc_if rfl ⟨fun c6 => ?_, fun c6 => ?_⟩
       ·
        replace hsy3 := cT c6 hsy3
        refine avc_sq2 <| avc_sq ?_
        refine sqa (a_assign_d (lq rfl) rfl) ?_
        refine sq_nil ?_
        refine avc_ret ?_
        cases hsy3
        intro q; cases q
        exact out_mk (weak_cov ⟨rfl, trivial⟩ trivial)
       ·
        replace hsy3 := cF c6 hsy3
        refine avc_skip <| avc_sq ?_
        refine sqa (a_move_row (lq rfl) rfl) ?_
        refine sqa (m_loadPt (lq rfl) G109 rfl rfl) ?_
        obtain ⟨t45, ht45, hsy3'⟩ := bE hsy3; clear hsy3
        refine sqa (a_call (lq rfl) rfl (mapping_keyOf_c ht45)) ?_
        refine sq_b rfl (m_mapUpdateK (kv := kMapping_key) (ev := eB) (mp := r32) (k := t45) (v := true) M125 K127 rfl rfl rfl (kAgg rfl) rfl rfl rfl) ?_
        refine sq_nil <| avc_sq ?_
        refine sqa (m_add (lq rfl) rfl rfl) ?_
        refine sqa (a_move_d (lq rfl) rfl) ?_
        refine sq_nil ?_
        cases hsy3'
        exact weak_cov ⟨rfl, rfl, rfl, rfl, trivial⟩ ⟨rfl, trivial⟩
      ·
       replace hsy3 := cF c5 hsy3
       refine avc_exit ?_
       cases hsy3
       intro q; cases q
     ·
      cases h'
      exact ret_1 rfl

theorem slices_SortFunc_api_Range_api_Range_g {fv : DV} {l r : (List Range)} (h : slices_SortFunc_api_Range_api_Range l = some r) : GC Tryd.prog 93 [.row 0, .d fv] [(0, .win 104 eRange.size 0 (eRange.all l))] [0] [] [(0, .win 104 eRange.size 0 (eRange.all r))] := by
 unfold slices_SortFunc_api_Range_api_Range at h
 split at h
 ·
  rename_i hl
  subst hl
  cases h
  exact gc_still_win (by decide) ⟨_, Tryd.func93, by kernel_rfl, rfl⟩ (fun p c u w => AnyF.slices_SortFunc_none Tryd.sortR p c u w)
 ·
  cases h

theorem cpset_Make_1_c  {a0 : Range} {a1 : Range}  {r : Int} (h : cpset_Make_1 a0 a1 = some r) : Contract Tryd.prog 94 [(eRange.dv a0), (eRange.dv a1)] [(di r)] := by
 refine contract_of Tryd.func94 (by kernel_rfl) rfl (lq rfl) (lq rfl) fun w0 I0 hI0 hG0 => ?_
 unfold cpset_Make_1 at h
 refine avc_sq2 <| avc_sq ?_
 refine sqa (m_box (size := 2) (lq rfl) rfl rfl) ?_
 refine sqa (m_box (size := 2) (lq rfl) rfl rfl) ?_
 refine sqa (a_assign_d (lq rfl) rfl) ?_
 refine sq_nil <| avc_sq2 ?_
 refine avc_drawA MX rfl ?_
 refine daa (m_fieldPt (lq rfl) L104_0 rfl) ?_
 refine daa (a_load_ip (lq rfl) O3 rfl rfl) ?_
 refine daa (m_fieldPt (lq rfl) L104_0 rfl) ?_
 refine daa (a_load_ip (lq rfl) O3 rfl rfl) ?_
 obtain ⟨t9, ht9, h'⟩ := bE h; clear h
 refine daa (a_call (lq rfl) rfl (cmp_Compare_int_c ht9)) ?_
 refine daa (m_fieldPt (lq rfl) L104_1 rfl) ?_
 refine daa (a_load_ip (lq rfl) O3 rfl rfl) ?_
 refine daa (m_fieldPt (lq rfl) L104_1 rfl) ?_
 refine daa (a_load_ip (lq rfl) O3 rfl rfl) ?_
 obtain ⟨t14, ht14, h⟩ := bE h'; clear h'
 refine daa (a_call (lq rfl) rfl (cmp_Compare_int_c ht14)) ?_
 refine daa (a_lit (lq rfl) S30 rfl rfl rfl rfl (by decide) rfl) ?_
 obtain ⟨t16, ht16, h'⟩ := bE h; clear h
 refine daa (a_call (lq rfl) rfl (cmp_Or_int_c ht16)) ?_
 refine daa (a_assign_d (lq rfl) rfl) ?_
 refine da_nil ?_
 cases h'
 refine avc_ret ?_
 exact ret_1 rfl

theorem cpset_Make_c  {a0 : (List Range)}  {r : Set} (h : cpset_Make a0 = some r) : Contract Tryd.prog 84 [(dsl eRange a0)] [(eSet.dv r)] := by
 refine contract_of Tryd.func84 (by kernel_rfl) rfl (lq rfl) (lq rfl) fun w0 I0 hI0 hG0 => ?_
 unfold cpset_Make at h
 refine avc_sq2 <| avc_sq ?_
 refine sq_b rfl (step_alloc (zs := [(.slice none 0 0)]) (lq rfl) (by kernel_rfl) rfl rfl) ?_
 refine sq_nil <| avc_sq2 <| avc_sq ?_
 refine sqa (a_assign_d (lq rfl) rfl) ?_
 refine sq_nil ?_
 refine avc_weak (weak_nil (t := 3) 1003 104 eRange.size (lq rfl) (lq rfl) rfl rfl) ?_
 refine avc_sq2 <| avc_sq2 <| avc_sq ?_
 refine sqa (a_move_d (lq rfl) rfl) ?_
 refine sqa (m_len (en := eRange) (l := a0) (lq rfl) S39 rfl) ?_
 refine sqa (a_move_d (lq rfl) rfl) ?_
 refine sq_nil <| avc_block ?_
 obtain ⟨y1, hy1, h'⟩ := bE h; clear h
 refine avc_tail (e := .exit 0) (S2 := ⟨[(2, .ptr 2 0), (3, .row 1003)], [(2, .box 41 [.d (.v (.slice none 0 0))]), (1003, .row 104 eRange.size false (eRange.all y1))]⟩) ?_ ?_
 ·
  refine avc_loopM (fun x => ⟨[(2, .ptr 2 0), (3, .row 1003), (11, .d (dsl eRange a0)), (12, .d (di (a0.length : Int))), (13, .d (di x.1))], [(2, .box 41 [.d (.v (.slice none 0 0))]), (1003, .row 104 eRange.size false (eRange.all x.2))]⟩) hy1 (weak_cov ⟨rfl, rfl, rfl, rfl, rfl, trivial⟩ ⟨rfl, rfl, trivial⟩) ?_
  rintro ⟨v13, r1003⟩ sy1 hsy1
  replace hsy1 : cpset_Make_L0 a0 v13 r1003 = some sy1 := hsy1
  unfold cpset_Make_L0 at hsy1
  refine avc_sq2 <| avc_sq ?_
  refine sqa (a_lss (lq rfl) rfl rfl) ?_
  refine sq_nil <| avc_sq2 ?_
  refine avc_if rfl ⟨fun c1 => ?_, fun c1 => ?_⟩
  ·
   replace hsy1 := cT c1 hsy1
   refine avc_skip <| avc_sq2 ?_
   obtain ⟨y2, hy2, hsy1'⟩ := bE hsy1; clear hsy1
   refine avc_tail (e := .normal) (S2 := ⟨[(2, .ptr 2 0), (3, .row 1003), (11, .d (dsl eRange a0)), (12, .d (di (a0.length : Int))), (13, .d (di v13))], [(2, .box 41 [.d (.v (.slice none 0 0))]), (1003, .row 104 eRange.size false (eRange.all y2))]⟩) ?_ ?_
   ·
    refine avc_block <| avc_sq2 <| avc_sq ?_
    obtain ⟨t15, ht15, hy2'⟩ := bE hy2; clear hy2
    refine sqa (m_index (en := eRange) (lq rfl) S39 rfl rfl ht15) ?_
    refine sqa (m_loadEA (en := eRange) (l := a0) (i := v13) (v := t15) (off := 0) (lq rfl) G104 rfl ht15 rfl rfl (by decide)) ?_
    refine sq_b rfl (step_alloc (zs := [(.int IntKind.i64 (0)), (.int IntKind.i64 (0))]) (lq rfl) (by kernel_rfl) rfl rfl) ?_
    refine sq_b rfl (s_store_boxA G104 rfl rfl rfl rfl rfl rfl) ?_
    refine sq_nil ?_
    refine avc_weak (weak_freeze (t := 5) (lq rfl) rfl rfl rfl) ?_
    refine avc_sq2 <| avc_sq ?_
    refine sqa (m_fieldPt (lq rfl) L104_0 rfl) ?_
    refine sqa (a_load_ip (lq rfl) O3 rfl rfl) ?_
    refine sqa (a_max (lq rfl) rfl rfl) ?_
    refine sqa (m_fieldPt (lq rfl) L104_1 rfl) ?_
    refine sqa (a_load_ip (lq rfl) O3 rfl rfl) ?_
    refine sqa (a_min (lq rfl) rfl rfl) ?_
    refine sqa (m_build (lq rfl) B104 rfl rfl) ?_
    refine sq_b rfl (step_alloc (zs := [(.int IntKind.i64 (0)), (.int IntKind.i64 (0))]) (lq rfl) (by kernel_rfl) rfl rfl) ?_
    refine sq_b rfl (s_store_boxA G104 rfl rfl rfl rfl rfl rfl) ?_
    refine sq_nil ?_
    refine avc_weak (weak_freeze (t := 6) (lq rfl) rfl rfl rfl) ?_
    refine avc_sq2 <| avc_sq ?_
    refine sqa (m_fieldPt (lq rfl) L104_0 rfl) ?_
    refine sqa (a_load_ip (lq rfl) O3 rfl rfl) ?_
    refine sqa (m_fieldPt (lq rfl) L104_1 rfl) ?_
    refine sqa (a_load_ip (lq rfl) O3 rfl rfl) ?_
    refine sqa (a_leq (lq rfl) rfl rfl) ?_
    refine sq_nil ?_
    refine avc_if rfl ⟨fun c2 => ?_, fun c2 => ?_⟩
    ·
     replace hy2' := cT c2 hy2'
     refine avc_sq ?_
     refine sqa (a_move_row (lq rfl) rfl) ?_
     refine sqa (m_loadPt (lq rfl) G104 rfl rfl) ?_
     refine sqa (a_lit (lq rfl) S39 rfl rfl rfl rfl (by decide) rfl) ?_
     obtain ⟨r1003_3, hr1003_3, hy2⟩ := bE hy2'; clear hy2'
     refine sq_b rfl (m_append (en := eRange) (l := r1003) (m := [({ Lo := max t15.Lo 0, Hi := min t15.Hi 1114111 } : Range)]) (lq rfl) S39 rfl rfl rfl hr1003_3 (by decide) (by decide) rfl rfl) ?_
     refine sqa (a_assign_row (lq rfl) rfl) ?_
     refine sq_nil ?_
     cases hy2
     exact out_mk (weak_cov ⟨rfl, rfl, rfl, rfl, rfl, trivial⟩ ⟨rfl, rfl, trivial⟩)
    ·
     replace hy2' := cF c2 hy2'
     refine avc_skip ?_
     cases hy2'
     exact out_mk (weak_cov ⟨rfl, rfl, rfl, rfl, rfl, trivial⟩ ⟨rfl, rfl, trivial⟩)
   ·
    refine avc_sq ?_
    refine sqa (m_add (lq rfl) rfl rfl) ?_
    refine sqa (a_move_d (lq rfl) rfl) ?_
    refine sq_nil ?_
    cases hsy1'
    exact weak_cov ⟨rfl, rfl, rfl, rfl, rfl, trivial⟩ ⟨rfl, rfl, trivial⟩
  ·
   replace hsy1 := cF c1 hsy1
   refine avc_exit ?_
   cases hsy1
   intro q; cases q
   exact out_mk (weak_cov ⟨rfl, rfl, trivial⟩ ⟨rfl, rfl, trivial⟩)
 ·
  refine avc_sq2 <| avc_sq ?_
  refine sqa (a_move_row (lq rfl) rfl) ?_
  refine sq_weak (weak_row_win (id := 1003) rfl) ?_ (by simp)
  obtain ⟨r1003_4, hr1003_4, h⟩ := bE h'; clear h'
  refine sq_b rfl (g_call [(0, 1003)] (slices_SortFunc_api_Range_api_Range_g hr1003_4) (lq rfl) (by decide) ⟨rfl, rfl, trivial⟩ rfl rfl ⟨rfl, trivial⟩ rfl rfl rfl (fun _ => rfl) rfl) ?_
  refine sq_nil ?_
  refine avc_weak (weak_win_d (t := 3) (lq rfl) rfl rfl) ?_
  refine avc_sq2 <| avc_sq ?_
  refine sqa (a_assign_d (lq rfl) rfl) ?_
  refine sq_nil ?_
  refine avc_weak (weak_nil (t := 7) 1007 104 eRange.size (lq rfl) (lq rfl) rfl rfl) ?_
  refine avc_sq2 <| avc_sq2 <| avc_sq ?_
  refine sqa (a_move_d (lq rfl) rfl) ?_
  refine sqa (m_len (en := eRange) (l := r1003_4) (lq rfl) S39 rfl) ?_
  refine sqa (a_move_d (lq rfl) rfl) ?_
  refine sq_nil <| avc_block ?_
  obtain ⟨y5, hy5, h'⟩ := bE h; clear h
  refine avc_tail (e := .exit 2) (S2 := ⟨[(2, .ptr 2 0), (7, .row 1007)], [(2, .box 41 [.d (.v (.slice none 0 0))]), (1007, .row 104 eRange.size false (eRange.all y5))]⟩) ?_ ?_
  ·
   refine avc_loopM (fun x => ⟨[(2, .ptr 2 0), (7, .row 1007), (36, .d (dsl eRange r1003_4)), (37, .d (di (r1003_4.length : Int))), (38, .d (di x.1))], [(2, .box 41 [.d (.v (.slice none 0 0))]), (1007, .row 104 eRange.size false (eRange.all x.2))]⟩) hy5 (weak_cov ⟨rfl, rfl, rfl, rfl, rfl, trivial⟩ ⟨rfl, rfl, trivial⟩) ?_
   rintro ⟨v38, r1007⟩ sy5 hsy5
   replace hsy5 : cpset_Make_L1 r1003_4 v38 r1007 = some sy5 := hsy5
   unfold cpset_Make_L1 at hsy5
   refine avc_sq2 <| avc_sq ?_
   refine sqa (a_lss (lq rfl) rfl rfl) ?_
   refine sq_nil <| avc_sq2 ?_
   refine avc_if rfl ⟨fun c3 => ?_, fun c3 => ?_⟩
   ·
    replace hsy5 := cT c3 hsy5
    refine avc_skip <| avc_sq2 ?_
    obtain ⟨y6, hy6, hsy5'⟩ := bE hsy5; clear hsy5
    refine avc_tail (e := .normal) (S2 := ⟨[(2, .ptr 2 0), (7, .row 1007), (36, .d (dsl eRange r1003_4)), (37, .d (di (r1003_4.length : Int))), (38, .d (di v38))], [(2, .box 41 [.d (.v (.slice none 0 0))]), (1007, .row 104 eRange.size false (eRange.all y6))]⟩) ?_ ?_
    ·
     refine avc_block <| avc_sq2 <| avc_sq ?_
     obtain ⟨t40, ht40, hy6'⟩ := bE hy6; clear hy6
     refine sqa (m_index (en := eRange) (lq rfl) S39 rfl rfl ht40) ?_
     refine sqa (m_loadEA (en := eRange) (l := r1003_4) (i := v38) (v := t40) (off := 0) (lq rfl) G104 rfl ht40 rfl rfl (by decide)) ?_
     refine sq_b rfl (step_alloc (zs := [(.int IntKind.i64 (0)), (.int IntKind.i64 (0))]) (lq rfl) (by kernel_rfl) rfl rfl) ?_
     refine sq_b rfl (s_store_boxA G104 rfl rfl rfl rfl rfl rfl) ?_
     refine sq_nil ?_
     refine avc_weak (weak_freeze (t := 9) (lq rfl) rfl rfl rfl) ?_
     refine avc_sq2 <| avc_sq2 <| avc_sq ?_
     refine sqa (a_move_row (lq rfl) rfl) ?_
     refine sqa (m_lenR (en := eRange) (l := r1007) (lq rfl) S39 rfl rfl) ?_
     refine sqa (a_assign_d (lq rfl) rfl) ?_
     refine sq_nil <| avc_sq2 ?_
     refine avc_drawA MX rfl ?_
     refine daa (a_move_d (lq rfl) rfl) ?_
     refine daa (a_gtr (lq rfl) rfl rfl) ?_
     obtain ⟨b46, hb46, hy6⟩ := bE hy6'; clear hy6'
     refine daa ((a_move_d (lq rfl) rfl).bool (Option.some.inj hb46)) ?_
     refine da_g (x := .ip (eRange.cells t40) (0 + 0)) rfl rfl rfl (lq rfl) (lq rfl) rfl (fun hb => by obtain rfl : b46 = true := hb; exact m_fieldPt (lq rfl) L104_0 rfl) ?_
     refine da_g (x := .d (di t40.Lo)) rfl rfl rfl (lq rfl) (lq rfl) rfl (fun hb => by obtain rfl : b46 = true := hb; exact a_load_ip (lq rfl) O3 rfl rfl) ?_
     refine da_g (x := .row 1007) rfl rfl rfl (lq rfl) (lq rfl) rfl (fun hb => by obtain rfl : b46 = true := hb; exact a_move_row (lq rfl) rfl) ?_
     refine da_g (x := .d (di (r1007.length : Int))) rfl rfl rfl (lq rfl) (lq rfl) rfl (fun hb => by obtain rfl : b46 = true := hb; exact a_move_d (lq rfl) rfl) ?_
     refine da_g (x := .d (di (wi ((r1007.length : Int) - 1)))) rfl rfl rfl (lq rfl) (lq rfl) rfl (fun hb => by obtain rfl : b46 = true := hb; exact m_sub (lq rfl) rfl rfl) ?_
     obtain ⟨t52, ht52, hy6'⟩ := bE hy6; clear hy6
     refine da_g (x := .ptr 1007 ((wi ((r1007.length : Int) - 1)).toNat * eRange.size)) rfl rfl rfl (lq rfl) (lq rfl) rfl (fun hb => by obtain rfl : b46 = true := hb; exact m_indexR (en := eRange) (l := r1007) (lq rfl) S39 rfl rfl rfl ht52) ?_
     refine da_g (x := .ptr 1007 ((wi ((r1007.length : Int) - 1)).toNat * eRange.size + 1)) rfl rfl rfl (lq rfl) (lq rfl) rfl (fun hb => by obtain rfl : b46 = true := hb; exact a_fieldAddr_ptr (lq rfl) L104_1 rfl) ?_
     refine da_g (x := .d (di t52.Hi)) rfl rfl rfl (lq rfl) (lq rfl) rfl (fun hb => by obtain rfl : b46 = true := hb; exact m_loadER (en := eRange) (l := r1007) (i := (wi ((r1007.length : Int) - 1))) (v := t52) (off := 1) (lq rfl) O3 rfl rfl ht52 rfl) ?_
     refine da_g (x := .d (di (wi (t52.Hi + 1)))) rfl rfl rfl (lq rfl) (lq rfl) rfl (fun hb => by obtain rfl : b46 = true := hb; exact m_add (lq rfl) rfl rfl) ?_
     refine da_g (x := .d (db (decide (t40.Lo ≤ (wi (t52.Hi + 1)))))) rfl rfl rfl (lq rfl) (lq rfl) rfl (fun hb => by obtain rfl : b46 = true := hb; exact a_leq (lq rfl) rfl rfl) ?_
     refine daa (a_pick_and (lq rfl) rfl rfl) ?_
     refine da_nil ?_
     refine avc_if rfl ⟨fun c4 => ?_, fun c4 => ?_⟩
     ·
      replace hy6' := cT c4 hy6'
      refine avc_sq2 ?_
      refine avc_draw 14 MX rfl ?_
      refine daa (a_move_row (lq rfl) rfl) ?_
      refine daa (a_move_d (lq rfl) rfl) ?_
      refine daa (m_sub (lq rfl) rfl rfl) ?_
      refine daa (a_move_row (lq rfl) rfl) ?_
      refine daa (a_move_d (lq rfl) rfl) ?_
      refine daa (m_sub (lq rfl) rfl rfl) ?_
      obtain ⟨t64, ht64, hy6⟩ := bE hy6'; clear hy6'
      refine daa (m_indexR (en := eRange) (l := r1007) (lq rfl) S39 rfl rfl rfl ht64) ?_
      refine daa (a_fieldAddr_ptr (lq rfl) L104_1 rfl) ?_
      refine daa (m_loadER (en := eRange) (l := r1007) (i := (wi ((r1007.length : Int) - 1))) (v := t64) (off := 1) (lq rfl) O3 rfl rfl ht64 rfl) ?_
      refine daa (m_fieldPt (lq rfl) L104_1 rfl) ?_
      refine daa (a_load_ip (lq rfl) O3 rfl rfl) ?_
      refine daa (a_max (lq rfl) rfl rfl) ?_
      obtain ⟨t70, ht70, hy6'⟩ := bE hy6; clear hy6
      refine daa (m_indexR (en := eRange) (l := r1007) (lq rfl) S39 rfl rfl rfl ht70) ?_
      refine daa (a_fieldAddr_ptr (lq rfl) L104_1 rfl) ?_
      refine da_nil ?_
      obtain ⟨r1007_7, hr1007_7, hy6⟩ := bE hy6'; clear hy6'
      refine sq_b rfl (m_store (en := eRange) (l := r1007) (i := (wi ((r1007.length : Int) - 1))) (v := t70) (off := 1) O3 rfl rfl rfl ht70 rfl (by decide) hr1007_7 rfl rfl) ?_
      refine sq_nil ?_
      refine avc_exit ?_
      cases hy6
      exact out_mk (weak_cov ⟨rfl, rfl, rfl, rfl, rfl, trivial⟩ ⟨rfl, rfl, trivial⟩)
     ·
      replace hy6' := cF c4 hy6'
      refine avc_skip <| avc_sq ?_
      refine sqa (a_move_row (lq rfl) rfl) ?_
      refine sqa (m_loadPt (lq rfl) G104 rfl rfl) ?_
      refine sqa (a_lit (lq rfl) S39 rfl rfl rfl rfl (by decide) rfl) ?_
      obtain ⟨r1007_8, hr1007_8, hy6⟩ := bE hy6'; clear hy6'
      refine sq_b rfl (m_append (en := eRange) (l := r1007) (m := [t40]) (lq rfl) S39 rfl rfl rfl hr1007_8 (by decide) (by decide) rfl rfl) ?_
      refine sqa (a_assign_row (lq rfl) rfl) ?_
      refine sq_nil ?_
      cases hy6
      exact out_mk (weak_cov ⟨rfl, rfl, rfl, rfl, rfl, trivial⟩ ⟨rfl, rfl, trivial⟩)
    ·
     refine avc_sq ?_
     refine sqa (m_add (lq rfl) rfl rfl) ?_
     refine sqa (a_move_d (lq rfl) rfl) ?_
     refine sq_nil ?_
     cases hsy5'
     exact weak_cov ⟨rfl, rfl, rfl, rfl, rfl, trivial⟩ ⟨rfl, rfl, trivial⟩
   ·
    replace hsy5 := cF c3 hsy5
    refine avc_exit ?_
    cases hsy5
    intro q; cases q
    exact out_mk (weak_cov ⟨rfl, rfl, trivial⟩ ⟨rfl, rfl, trivial⟩)
  ·
   refine avc_sq2 <| avc_sq ?_
   refine sqa (a_move_row (lq rfl) rfl) ?_
   refine sq_weak (weak_row_d (t := 77) (lq rfl) rfl rfl) ?_ (by simp)
   refine sqa (m_build (lq rfl) B41 rfl rfl) ?_
   refine sq_b rfl (s_store_boxA G41 rfl rfl rfl rfl rfl rfl) ?_
   refine sq_nil ?_
   cases h'
   refine avc_ret ?_
   exact ret_cellA rfl rfl G41 rfl

theorem cpset_Valid_c  {a0 : Set}  {r : Bool} (h : cpset_Valid a0 = some r) : Contract Tryd.prog 68 [(eSet.dv a0)] [(db r)] := by
 refine contract_of Tryd.func68 (by kernel_rfl) rfl (lq rfl) (lq rfl) fun w0 I0 hI0 hG0 => ?_
 unfold cpset_Valid at h
 refine avc_sq2 <| avc_sq ?_
 refine sqa (m_box (size := 1) (lq rfl) rfl rfl) ?_
 refine sqa (a_assign_d (lq rfl) rfl) ?_
 refine sq_nil <| avc_sq2 <| avc_sq ?_
 refine sqa (m_fieldPt (lq rfl) L41_0 rfl) ?_
 refine sqa (a_load_ip (lq rfl) O39 rfl rfl) ?_
 obtain ⟨t8, ht8, h'⟩ := bE h; clear h
 refine sqa (a_call (lq rfl) rfl (cpset_Make_c ht8)) ?_
 refine sq_b rfl (step_alloc (zs := [(.slice none 0 0)]) (lq rfl) (by kernel_rfl) rfl rfl) ?_
 refine sq_b rfl (s_store_boxA G41 rfl rfl rfl rfl rfl rfl) ?_
 refine sq_nil ?_
 refine avc_weak (weak_freeze (t := 3) (lq rfl) rfl rfl rfl) ?_
 refine avc_sq2 <| avc_sq2 <| avc_sq ?_
 refine sqa (m_fieldPt (lq rfl) L41_0 rfl) ?_
 refine sqa (a_load_ip (lq rfl) O39 rfl rfl) ?_
 refine sqa (m_len (en := eRange) (l := t8.Ranges) (lq rfl) S39 rfl) ?_
 refine sqa (m_fieldPt (lq rfl) L41_0 rfl) ?_
 refine sqa (a_load_ip (lq rfl) O39 rfl rfl) ?_
 refine sqa (m_len (en := eRange) (l := a0.Ranges) (lq rfl) S39 rfl) ?_
 refine sqa (a_neq (lq rfl) rfl rfl) ?_
 refine sq_nil ?_
 refine avc_if rfl ⟨fun c1 => ?_, fun c1 => ?_⟩
 ·
  replace h' := cT c1 h'
  refine avc_sq2 <| avc_sq ?_
  refine sqa (a_assign_d (lq rfl) rfl) ?_
  refine sq_nil ?_
  cases h'
  refine avc_ret ?_
  exact ret_1 rfl
 ·
  replace h' := cF c1 h'
  refine avc_skip <| avc_sq2 <| avc_sq2 <| avc_sq ?_
  refine sqa (m_fieldPt (lq rfl) L41_0 rfl) ?_
  refine sqa (a_load_ip (lq rfl) O39 rfl rfl) ?_
  refine sqa (m_len (en := eRange) (l := t8.Ranges) (lq rfl) S39 rfl) ?_
  refine sqa (a_move_d (lq rfl) rfl) ?_
  refine sq_nil <| avc_block ?_
  obtain ⟨y1, hy1, h⟩ := bE h'; clear h'
  rcases y1 with y1 | y1
  ·
   replace h := eL h
   refine avc_tail (e := .exit 0) (S2 := ⟨[], []⟩) ?_ ?_
   ·
    refine avc_loopM (fun x => ⟨[(1, .d (.pt (eSet.cells a0))), (17, .d (dsl eRange t8.Ranges)), (18, .d (di (t8.Ranges.length : Int))), (19, .d (di x))], []⟩) hy1 (weak_cov ⟨rfl, rfl, rfl, rfl, trivial⟩ trivial) ?_
    rintro v19 sy1 hsy1
    replace hsy1 : cpset_Valid_L0 t8 a0 v19 = some sy1 := hsy1
    unfold cpset_Valid_L0 at hsy1
    refine avc_sq2 <| avc_sq ?_
    refine sqa (a_lss (lq rfl) rfl rfl) ?_
    refine sq_nil <| avc_sq2 ?_
    refine avc_if rfl ⟨fun c2 => ?_, fun c2 => ?_⟩
    ·
     replace hsy1 := cT c2 hsy1
     refine avc_skip <| avc_sq2 <| avc_block <| avc_sq2 <| avc_sq ?_
     refine sqa (a_move_d (lq rfl) rfl) ?_
     obtain ⟨t22, ht22, hsy1'⟩ := bE hsy1; clear hsy1
     refine sqa (m_index (en := eRange) (lq rfl) S39 rfl rfl ht22) ?_
     refine sqa (m_loadEA (en := eRange) (l := t8.Ranges) (i := v19) (v := t22) (off := 0) (lq rfl) G104 rfl ht22 rfl rfl (by decide)) ?_
     refine sq_b rfl (step_alloc (zs := [(.int IntKind.i64 (0)), (.int IntKind.i64 (0))]) (lq rfl) (by kernel_rfl) rfl rfl) ?_
     refine sqa (a_assign_d (lq rfl) rfl) ?_
     refine sq_b rfl (s_store_boxA G104 rfl rfl rfl rfl rfl rfl) ?_
     refine sq_nil ?_
     refine avc_weak (weak_freeze (t := 5) (lq rfl) rfl rfl rfl) ?_
     refine avc_sq2 ?_
     refine avc_drawA MX rfl ?_
     refine daa (m_loadPt (lq rfl) G104 rfl rfl) ?_
     refine daa (m_fieldPt (lq rfl) L41_0 rfl) ?_
     refine daa (a_load_ip (lq rfl) O39 rfl rfl) ?_
     refine daa (a_move_d (lq rfl) rfl) ?_
     obtain ⟨t28, ht28, hsy1⟩ := bE hsy1'; clear hsy1'
     refine daa (m_index (en := eRange) (lq rfl) S39 rfl rfl ht28) ?_
     refine daa (m_loadEA (en := eRange) (l := a0.Ranges) (i := v19) (v := t28) (off := 0) (lq rfl) G104 rfl ht28 rfl rfl (by decide)) ?_
     refine daa (m_stneq (en := eRange) (a := t22) (b := t28) (lq rfl) E104 rfl rfl) ?_
     refine da_nil ?_
     refine avc_if rfl ⟨fun c3 => ?_, fun c3 => ?_⟩
     ·
      replace hsy1 := cT c3 hsy1
      refine avc_sq2 <| avc_sq ?_
      refine sqa (a_assign_d (lq rfl) rfl) ?_
      refine sq_nil ?_
      refine avc_ret ?_
      cases hsy1
      intro q; cases q
     ·
      replace hsy1 := cF c3 hsy1
      refine avc_skip <| avc_sq ?_
      refine sqa (m_add (lq rfl) rfl rfl) ?_
      refine sqa (a_move_d (lq rfl) rfl) ?_
      refine sq_nil ?_
      cases hsy1
      exact weak_cov ⟨rfl, rfl, rfl, rfl, trivial⟩ trivial
    ·
     replace hsy1 := cF c2 hsy1
     refine avc_exit ?_
     cases hsy1
     intro q; cases q
     exact out_mk (weak_cov trivial trivial)
   ·
    refine avc_sq2 <| avc_sq ?_
    refine sqa (a_assign_d (lq rfl) rfl) ?_
    refine sq_nil ?_
    cases h
    refine avc_ret ?_
    exact ret_1 rfl
  ·
   replace h := eR h
   refine avc_tail (e := .ret) (S2 := ⟨[(2, .d (db y1))], []⟩) ?_ ?_
   ·
    refine avc_loopM (fun x => ⟨[(1, .d (.pt (eSet.cells a0))), (17, .d (dsl eRange t8.Ranges)), (18, .d (di (t8.Ranges.length : Int))), (19, .d (di x))], []⟩) hy1 (weak_cov ⟨rfl, rfl, rfl, rfl, trivial⟩ trivial) ?_
    rintro v19 sy1 hsy1
    replace hsy1 : cpset_Valid_L0 t8 a0 v19 = some sy1 := hsy1
    unfold cpset_Valid_L0 at hsy1
    refine avc_sq2 <| avc_sq ?_
    refine sqa (a_lss (lq rfl) rfl rfl) ?_
    refine sq_nil <| avc_sq2 ?_
    refine avc_if rfl ⟨fun c2 => ?_, fun c2 => ?_⟩
    ·
     replace hsy1 := cT c2 hsy1
     refine avc_skip <| avc_sq2 <| avc_block <| avc_sq2 <| avc_sq ?_
     refine sqa (a_move_d (lq rfl) rfl) ?_
     obtain ⟨t22, ht22, hsy1'⟩ := bE hsy1; clear hsy1
     refine sqa (m_index (en := eRange) (lq rfl) S39 rfl rfl ht22) ?_
     refine sqa (m_loadEA (en := eRange) (l := t8.Ranges) (i := v19) (v := t22) (off := 0) (lq rfl) G104 rfl ht22 rfl rfl (by decide)) ?_
     refine sq_b rfl (step_alloc (zs := [(.int IntKind.i64 (0)), (.int IntKind.i64 (0))]) (lq rfl) (by kernel_rfl) rfl rfl) ?_
     refine sqa (a_assign_d (lq rfl) rfl) ?_
     refine sq_b rfl (s_store_boxA G104 rfl rfl rfl rfl rfl rfl) ?_
     refine sq_nil ?_
     refine avc_weak (weak_freeze (t := 5) (lq rfl) rfl rfl rfl) ?_
     refine avc_sq2 ?_
     refine avc_drawA MX rfl ?_
     refine daa (m_loadPt (lq rfl) G104 rfl rfl) ?_
     refine daa (m_fieldPt (lq rfl) L41_0 rfl) ?_
     refine daa (a_load_ip (lq rfl) O39 rfl rfl) ?_
     refine daa (a_move_d (lq rfl) rfl) ?_
     obtain ⟨t28, ht28, hsy1⟩ := bE hsy1'; clear hsy1'
     refine daa (m_index (en := eRange) (lq rfl) S39 rfl rfl ht28) ?_
     refine daa (m_loadEA (en := eRange) (l := a0.Ranges) (i := v19) (v := t28) (off := 0) (lq rfl) G104 rfl ht28 rfl rfl (by decide)) ?_
     refine daa (m_stneq (en := eRange) (a := t22) (b := t28) (lq rfl) E104 rfl rfl) ?_
     refine da_nil ?_
     refine avc_if rfl ⟨fun c3 => ?_, fun c3 => ?_⟩
     ·
      replace hsy1 := cT c3 hsy1
      refine avc_sq2 <| avc_sq ?_
      refine sqa (a_assign_d (lq rfl) rfl) ?_
      refine sq_nil ?_
      refine avc_ret ?_
      cases hsy1
      intro q; cases q
      exact out_mk (weak_cov ⟨rfl, trivial⟩ trivial)
     ·
      replace hsy1 := cF c3 hsy1
      refine avc_skip <| avc_sq ?_
      refine sqa (m_add (lq rfl) rfl rfl) ?_
      refine sqa (a_move_d (lq rfl) rfl) ?_
      refine sq_nil ?_
      cases hsy1
      exact weak_cov ⟨rfl, rfl, rfl, rfl, trivial⟩ trivial
    ·
     replace hsy1 := cF c2 hsy1
     refine avc_exit ?_
     cases hsy1
     intro q; cases q
   ·
    cases h
    exact ret_1 rfl

theorem hangul_Kind_c  {a0 : Int}  {r : Int} (h : hangul_Kind a0 = some r) : Contract Tryd.prog 69 [(di a0)] [(di r)] := by
 refine contract_of Tryd.func69 (by kernel_rfl) rfl (lq rfl) (lq rfl) fun w0 I0 hI0 hG0 => ?_
 unfold hangul_Kind at h
 refine avc_sq2 <| avc_sq ?_
 refine sqa (a_assign_d (lq rfl) rfl) ?_
 refine sq_nil <| avc_sq2 <| avc_block <| avc_sq2 <| avc_sq ?_
 refine sqa (a_move_d (lq rfl) rfl) ?_
 refine sqa (a_geq (lq rfl) rfl rfl) ?_
 obtain ⟨b6, hb6, h'⟩ := bE h; clear h
 refine sqa ((a_move_d (lq rfl) rfl).bool (Option.some.inj hb6)) ?_
 refine sq_g (x := .d (di a0)) rfl rfl rfl (lq rfl) (lq rfl) rfl (fun hb => by obtain rfl : b6 = true := hb; exact a_move_d (lq rfl) rfl) ?_
 refine sq_g (x := .d (db (decide (a0 < 4371)))) rfl rfl rfl (lq rfl) (lq rfl) rfl (fun hb => by obtain rfl : b6 = true := hb; exact a_lss (lq rfl) rfl rfl) ?_
 refine sqa (a_pick_and (lq rfl) rfl rfl) ?_
 refine sqa (a_assign_d (lq rfl) rfl) ?_
 refine sq_nil ?_
 refine avc_if rfl ⟨fun c1 => ?_, fun c1 => ?_⟩
 ·
  replace h' := cT c1 h'
  refine avc_sq2 <| avc_sq ?_
  refine sqa (a_assign_d (lq rfl) rfl) ?_
  refine sq_nil ?_
  cases h'
  refine avc_ret ?_
  exact ret_1 rfl
 ·
  replace h' := cF c1 h'
  refine avc_sq2 <| avc_sq ?_
  refine sqa (a_move_d (lq rfl) rfl) ?_
  refine sqa (a_geq (lq rfl) rfl rfl) ?_
  obtain ⟨b13, hb13, h⟩ := bE h'; clear h'
  refine sqa ((a_move_d (lq rfl) rfl).bool (Option.some.inj hb13)) ?_
  refine sq_g (x := .d (di a0)) rfl rfl rfl (lq rfl) (lq rfl) rfl (fun hb => by obtain rfl : b13 = true := hb; exact a_move_d (lq rfl) rfl) ?_
  refine sq_g (x := .d (db (decide (a0 < 4470)))) rfl rfl rfl (lq rfl) (lq rfl) rfl (fun hb => by obtain rfl : b13 = true := hb; exact a_lss (lq rfl) rfl rfl) ?_
  refine sqa (a_pick_and (lq rfl) rfl rfl) ?_
  refine sqa (a_assign_d (lq rfl) rfl) ?_
  refine sq_nil ?_
  refine avc_if rfl ⟨fun c2 => ?_, fun c2 => ?_⟩
  ·
   replace h := cT c2 h
   refine avc_sq2 <| avc_sq ?_
   refine sqa (a_assign_d (lq rfl) rfl) ?_
   refine sq_nil ?_
   cases h
   refine avc_ret ?_
   exact ret_1 rfl
  ·
   replace h := cF c2 h
   refine avc_sq2 <| avc_sq ?_
   refine sqa (a_move_d (lq rfl) rfl) ?_
   refine sqa (a_geq (lq rfl) rfl rfl) ?_
   obtain ⟨b20, hb20, h'⟩ := bE h; clear h
   refine sqa ((a_move_d (lq rfl) rfl).bool (Option.some.inj hb20)) ?_
   refine sq_g (x := .d (di a0)) rfl rfl rfl (lq rfl) (lq rfl) rfl (fun hb => by obtain rfl : b20 = true := hb; exact a_move_d (lq rfl) rfl) ?_
   refine sq_g (x := .d (db (decide (a0 < 4547)))) rfl rfl rfl (lq rfl) (lq rfl) rfl (fun hb => by obtain rfl : b20 = true := hb; exact a_lss (lq rfl) rfl rfl) ?_
   refine sqa (a_pick_and (lq rfl) rfl rfl) ?_
   refine sqa (a_assign_d (lq rfl) rfl) ?_
   refine sq_nil ?_
   refine avc_if rfl ⟨fun c3 => ?_, fun c3 => ?_⟩
   ·
    replace h' := cT c3 h'
    refine avc_sq2 <| avc_sq ?_
    refine sqa (a_assign_d (lq rfl) rfl) ?_
    refine sq_nil ?_
    cases h'
    refine avc_ret ?_
    exact ret_1 rfl
   ·
    replace h' := cF c3 h'
    refine avc_sq2 <| avc_sq ?_
    refine sqa (a_move_d (lq rfl) rfl) ?_
    refine sqa (a_lss (lq rfl) rfl rfl) ?_
    obtain ⟨b27, hb27, h⟩ := bE h'; clear h'
    refine sqa ((a_move_d (lq rfl) rfl).bool (Option.some.inj hb27)) ?_
    refine sq_g (x := .d (di a0)) rfl rfl rfl (lq rfl) (lq rfl) rfl (fun hb => by obtain rfl := gF hb; exact a_move_d (lq rfl) rfl) ?_
    refine sq_g (x := .d (db (decide (55204 ≤ a0)))) rfl rfl rfl (lq rfl) (lq rfl) rfl (fun hb => by obtain rfl := gF hb; exact a_geq (lq rfl) rfl rfl) ?_
    refine sqa (a_pick_or (lq rfl) rfl rfl) ?_
    refine sqa (a_assign_d (lq rfl) rfl) ?_
    refine sq_nil ?_
    refine avc_if rfl ⟨fun c4 => ?_, fun c4 => ?_⟩
    ·
     replace h := cT c4 h
     refine avc_sq2 <| avc_sq ?_
     refine sqa (a_assign_d (lq rfl) rfl) ?_
     refine sq_nil ?_
     cases h
     refine avc_ret ?_
     exact ret_1 rfl
    ·
     replace h := cF c4 h
     refine avc_sq2 <| avc_sq ?_
     refine sqa (a_move_d (lq rfl) rfl) ?_
     refine sqa (m_sub (lq rfl) rfl rfl) ?_
     obtain ⟨t34, ht34, h'⟩ := bE h; clear h
     refine sqa (m_rem (lq rfl) rfl rfl ht34) ?_
     refine sqa (a_eql (lq rfl) rfl rfl) ?_
     refine sqa (a_assign_d (lq rfl) rfl) ?_
     refine sq_nil ?_
     refine avc_if rfl ⟨fun c5 => ?_, fun c5 => ?_⟩
     ·
      replace h' := cT c5 h'
      refine avc_sq2 <| avc_sq ?_
      refine sqa (a_assign_d (lq rfl) rfl) ?_
      refine sq_nil ?_
      cases h'
      refine avc_ret ?_
      exact ret_1 rfl
     ·
      replace h' := cF c5 h'
      refine avc_skip <| avc_sq2 <| avc_sq ?_
      refine sqa (a_assign_d (lq rfl) rfl) ?_
      refine sq_nil ?_
      cases h'
      refine avc_ret ?_
      exact ret_1 rfl

theorem ordering_usable_c  {a0 : (List Span)}  {r : (List Span)} (h : ordering_usable a0 = some r) : Contract Tryd.prog 59 [(dsl eSpan a0)] [(dsl eSpan r)] := by
 refine contract_of Tryd.func59 (by kernel_rfl) rfl (lq rfl) (lq rfl) fun w0 I0 hI0 hG0 => ?_
 unfold ordering_usable at h
 refine avc_sq2 <| avc_sq ?_
 refine sqa (a_assign_d (lq rfl) rfl) ?_
 refine sq_nil <| avc_sq2 <| avc_sq2 <| avc_sq ?_
 refine sqa (a_move_d (lq rfl) rfl) ?_
 obtain ⟨t4, ht4, h'⟩ := bE h; clear h
 refine sqa (a_call (lq rfl) rfl (ordering_Check_c ht4)) ?_
 refine sqa (a_neq (lq rfl) rfl rfl) ?_
 refine sq_nil ?_
 refine avc_if rfl ⟨fun c1 => ?_, fun c1 => ?_⟩
 ·
  replace h' := cT c1 h'
  refine avc_sq2 <| avc_sq ?_
  refine sqa (a_assign_d (lq rfl) rfl) ?_
  refine sq_nil ?_
  refine avc_weak (weak_nil_d (t := 2) eSpan.size (lq rfl) rfl) ?_
  cases h'
  refine avc_ret ?_
  exact ret_1 rfl
 ·
  replace h' := cF c1 h'
  refine avc_skip <| avc_sq2 <| avc_sq ?_
  refine sqa (a_move_d (lq rfl) rfl) ?_
  refine sqa (a_assign_d (lq rfl) rfl) ?_
  refine sq_nil ?_
  cases h'
  refine avc_ret ?_
  exact ret_1 rfl

theorem slices_BinarySearchFunc_api_Span_api_Span_int_c {fv2 : DV} {a0 : (List Span)} {a1 : Int} {a2 : Span → Int → Option (Int)} (hf2 : ∀ x0 x1 y, a2 x0 x1 = some y → FnC Tryd.prog fv2 [(eSpan.dv x0), (di x1)] [(di y)]) {r : Int × Bool} (h : slices_BinarySearchFunc_api_Span_api_Span_int a0 a1 a2 = some r) : Contract Tryd.prog 79 [(dsl eSpan a0), (di a1), fv2] [(di r.1), (db r.2)] := by
 refine contract_of Tryd.func79 (by kernel_rfl) rfl (lq rfl) (lq rfl) fun w0 I0 hI0 hG0 => ?_
 unfold slices_BinarySearchFunc_api_Span_api_Span_int at h
 refine avc_sq2 <| avc_sq ?_
 refine sqa (a_assign_d (lq rfl) rfl) ?_
 refine sqa (a_assign_d (lq rfl) rfl) ?_
 refine sq_nil <| avc_sq2 <| avc_sq ?_
 refine sqa (a_move_d (lq rfl) rfl) ?_
 refine sqa (m_len (en := eSpan) (l := a0) (lq rfl) S37 rfl) ?_
 refine sqa (a_assign_d (lq rfl) rfl) ?_
 refine sq_nil <| avc_sq2 <| avc_sq ?_
 refine sqa (a_move_d (lq rfl) rfl) ?_
 refine sqa (a_assign_d (lq rfl) rfl) ?_
 refine sqa (a_assign_d (lq rfl) rfl) ?_
 refine sq_nil <| avc_sq2 <| avc_block ?_
 obtain ⟨y1, hy1, h'⟩ := bE h; clear h
 refine avc_tail (e := .exit 0) (S2 := ⟨[(0, .d (dsl eSpan a0)), (1, .d (di a1)), (2, .d fv2), (8, .d (di (a0.length : Int))), (9, .d (di y1))], []⟩) ?_ ?_
 ·
  refine avc_loopM (fun x => ⟨[(0, .d (dsl eSpan a0)), (1, .d (di a1)), (2, .d fv2), (8, .d (di (a0.length : Int))), (9, .d (di x.1)), (10, .d (di x.2))], []⟩) hy1 (weak_cov ⟨rfl, rfl, rfl, rfl, rfl, rfl, trivial⟩ trivial) ?_
  rintro ⟨v9, v10⟩ sy1 hsy1
  replace hsy1 : slices_BinarySearchFunc_api_Span_api_Span_int_L0 a0 a2 a1 v9 v10 = some sy1 := hsy1
  unfold slices_BinarySearchFunc_api_Span_api_Span_int_L0 at hsy1
  refine avc_sq2 <| avc_sq2 <| avc_sq ?_
  refine sqa (a_move_d (lq rfl) rfl) ?_
  refine sqa (a_move_d (lq rfl) rfl) ?_
  refine sqa (a_lss (lq rfl) rfl rfl) ?_
  refine sq_nil ?_
  refine avc_if rfl ⟨fun c1 => ?_, fun c1 => ?_⟩
  ·
   replace hsy1 := cT c1 hsy1
   refine avc_skip ?_
   obtain ⟨y2, hy2, hsy1'⟩ := bE hsy1; clear hsy1
   refine avc_tail (e := .normal) (S2 := ⟨[(0, .d (dsl eSpan a0)), (1, .d (di a1)), (2, .d fv2), (8, .d (di (a0.length : Int))), (9, .d (di y2.1)), (10, .d (di y2.2))], []⟩) ?_ ?_
   ·
    refine avc_block <| avc_sq2 <| avc_sq ?_
    refine sqa (a_move_d (lq rfl) rfl) ?_
    refine sqa (a_move_d (lq rfl) rfl) ?_
    refine sqa (m_add (lq rfl) rfl rfl) ?_
    refine sqa (m_conv (lq rfl) Tryd.underlying3 Tryd.underlying132 rfl) ?_
    refine sqa (a_shr (m := 1) (lq rfl) rfl rfl (by decide)) ?_
    refine sqa (m_conv (lq rfl) Tryd.underlying132 Tryd.underlying3 rfl) ?_
    refine sqa (a_assign_d (lq rfl) rfl) ?_
    refine sq_nil <| avc_sq2 <| avc_sq ?_
    refine sqa (a_move_d (lq rfl) rfl) ?_
    refine sqa (a_move_d (lq rfl) rfl) ?_
    refine sqa (a_move_d (lq rfl) rfl) ?_
    obtain ⟨t27, ht27, hy2'⟩ := bE hy2; clear hy2
    refine sqa (m_index (en := eSpan) (lq rfl) S37 rfl rfl ht27) ?_
    refine sqa (m_loadEA (en := eSpan) (l := a0) (i := (wi ((wu (wi (v9 + v10))) / 2 ^ 1))) (v := t27) (off := 0) (lq rfl) G61 rfl ht27 rfl rfl (by decide)) ?_
    refine sqa (a_move_d (lq rfl) rfl) ?_
    obtain ⟨t30, ht30, hy2⟩ := bE hy2'; clear hy2'
    refine sqa (a_callF (lq rfl) rfl rfl (hf2 _ _ _ ht30)) ?_
    refine sqa (a_lss (lq rfl) rfl rfl) ?_
    refine sq_nil ?_
    refine avc_if rfl ⟨fun c2 => ?_, fun c2 => ?_⟩
    ·
     replace hy2 := cT c2 hy2
     refine avc_sq ?_
     refine sqa (a_move_d (lq rfl) rfl) ?_
     refine sqa (m_add (lq rfl) rfl rfl) ?_
     refine sqa (a_assign_d (lq rfl) rfl) ?_
     refine sq_nil ?_
     cases hy2
     exact out_mk (weak_cov ⟨rfl, rfl, rfl, rfl, rfl, rfl, trivial⟩ trivial)
    ·
     replace hy2 := cF c2 hy2
     refine avc_sq ?_
     refine sqa (a_move_d (lq rfl) rfl) ?_
     refine sqa (a_assign_d (lq rfl) rfl) ?_
     refine sq_nil ?_
     cases hy2
     exact out_mk (weak_cov ⟨rfl, rfl, rfl, rfl, rfl, rfl, trivial⟩ trivial)
   ·
    cases hsy1'
    exact weak_cov ⟨rfl, rfl, rfl, rfl, rfl, rfl, trivial⟩ trivial
  ·
   replace hsy1 := cF c1 hsy1
   refine avc_exit ?_
   cases hsy1
   intro q; cases q
   exact out_mk (weak_cov ⟨rfl, rfl, rfl, rfl, rfl, trivial⟩ trivial)
 ·
  refine avc_sq2 <| avc_sq ?_
  refine sqa (a_move_d (lq rfl) rfl) ?_
  refine sqa (a_move_d (lq rfl) rfl) ?_
  refine sqa (a_move_d (lq rfl) rfl) ?_
  refine sqa (a_lss (lq rfl) rfl rfl) ?_
  obtain ⟨b39, hb39, h⟩ := bE h'; clear h'
  refine sqa ((a_move_d (lq rfl) rfl).bool (Option.some.inj hb39)) ?_
  refine sq_g (x := .d fv2) rfl rfl rfl (lq rfl) (lq rfl) rfl (fun hb => by obtain rfl : b39 = true := hb; exact a_move_d (lq rfl) rfl) ?_
  refine sq_g (x := .d (dsl eSpan a0)) rfl rfl rfl (lq rfl) (lq rfl) rfl (fun hb => by obtain rfl : b39 = true := hb; exact a_move_d (lq rfl) rfl) ?_
  refine sq_g (x := .d (di y1)) rfl rfl rfl (lq rfl) (lq rfl) rfl (fun hb => by obtain rfl : b39 = true := hb; exact a_move_d (lq rfl) rfl) ?_
  obtain ⟨t43, ht43, h'⟩ := bE h; clear h
  refine sq_g (x := .ip (eSpan.all a0) (y1.toNat * eSpan.size)) rfl rfl rfl (lq rfl) (lq rfl) rfl (fun hb => by obtain rfl : b39 = true := hb; exact m_index (en := eSpan) (lq rfl) S37 rfl rfl ht43) ?_
  refine sq_g (x := .d (eSpan.dv t43)) rfl rfl rfl (lq rfl) (lq rfl) rfl (fun hb => by obtain rfl : b39 = true := hb; exact m_loadEA (en := eSpan) (l := a0) (i := y1) (v := t43) (off := 0) (lq rfl) G61 rfl ht43 rfl rfl (by decide)) ?_
  refine sq_g (x := .d (di a1)) rfl rfl rfl (lq rfl) (lq rfl) rfl (fun hb => by obtain rfl : b39 = true := hb; exact a_move_d (lq rfl) rfl) ?_
  obtain ⟨t46, ht46, h⟩ := bE h'; clear h'
  refine sq_g (x := .d (di t46)) rfl rfl rfl (lq rfl) (lq rfl) rfl (fun hb => by obtain rfl : b39 = true := hb; exact a_callF (lq rfl) rfl rfl (hf2 _ _ _ ht46)) ?_
  refine sq_g (x := .d (db (decide (t46 = 0)))) rfl rfl rfl (lq rfl) (lq rfl) rfl (fun hb => by obtain rfl : b39 = true := hb; exact a_eql (lq rfl) rfl rfl) ?_
  refine sqa (a_pick_and (lq rfl) rfl rfl) ?_
  refine sqa (a_assign_d (lq rfl) rfl) ?_
  refine sqa (a_assign_d (lq rfl) rfl) ?_
  refine sq_nil ?_
  cases h
  refine avc_ret ?_
  exact ret_two rfl rfl

theorem ordering_class_1_c  {a0 : Span} {a1 : Int}  {r : Int} (h : ordering_class_1 a0 a1 = some r) : Contract Tryd.prog 80 [(eSpan.dv a0), (di a1)] [(di r)] := by
 refine contract_of Tryd.func80 (by kernel_rfl) rfl (lq rfl) (lq rfl) fun w0 I0 hI0 hG0 => ?_
 unfold ordering_class_1 at h
 refine avc_sq2 <| avc_sq ?_
 refine sqa (m_box (size := 3) (lq rfl) rfl rfl) ?_
 refine sqa (a_assign_d (lq rfl) rfl) ?_
 refine sq_nil <| avc_sq2 <| avc_block <| avc_sq2 <| avc_sq ?_
 refine sqa (m_fieldPt (lq rfl) L61_1 rfl) ?_
 refine sqa (a_load_ip (lq rfl) O3 rfl rfl) ?_
 refine sqa (a_move_d (lq rfl) rfl) ?_
 refine sqa (a_lss (lq rfl) rfl rfl) ?_
 refine sqa (a_assign_d (lq rfl) rfl) ?_
 refine sq_nil ?_
 refine avc_if rfl ⟨fun c1 => ?_, fun c1 => ?_⟩
 ·
  replace h := cT c1 h
  refine avc_sq2 <| avc_sq ?_
  refine sqa (a_assign_d (lq rfl) rfl) ?_
  refine sq_nil ?_
  cases h
  refine avc_ret ?_
  exact ret_1 rfl
 ·
  replace h := cF c1 h
  refine avc_sq2 <| avc_sq ?_
  refine sqa (m_fieldPt (lq rfl) L61_0 rfl) ?_
  refine sqa (a_load_ip (lq rfl) O3 rfl rfl) ?_
  refine sqa (a_move_d (lq rfl) rfl) ?_
  refine sqa (a_gtr (lq rfl) rfl rfl) ?_
  refine sqa (a_assign_d (lq rfl) rfl) ?_
  refine sq_nil ?_
  refine avc_if rfl ⟨fun c2 => ?_, fun c2 => ?_⟩
  ·
   replace h := cT c2 h
   refine avc_sq2 <| avc_sq ?_
   refine sqa (a_assign_d (lq rfl) rfl) ?_
   refine sq_nil ?_
   cases h
   refine avc_ret ?_
   exact ret_1 rfl
  ·
   replace h := cF c2 h
   refine avc_skip <| avc_sq2 <| avc_sq ?_
   refine sqa (a_assign_d (lq rfl) rfl) ?_
   refine sq_nil ?_
   cases h
   refine avc_ret ?_
   exact ret_1 rfl

end Go.Proofs.YtgeaoceiacdadaaDoor.Walk

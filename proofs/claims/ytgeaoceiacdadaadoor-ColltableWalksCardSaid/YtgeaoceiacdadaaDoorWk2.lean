/- Each function of the program answers as its plain counterpart does, where that answers. Conditions: none. -/
import Derived.Test.YtgeaoceiacdadaaDoorMir
import Derived.Test.YtgeaoceiacdadaaDoorProg
import Derived.Test.YtgeaoceiacdadaaDoorWk1
set_option linter.unusedSimpArgs false
set_option linter.unusedVariables false
set_option linter.unnecessarySimpa false
namespace Go.Proofs.YtgeaoceiacdadaaDoor.Walk
open Go.AV Go.M Go.RowKit Go.Proofs
theorem hangul_parts_c  {a0 : Int}  {r : A3Int} (h : hangul_parts a0 = some r) : Contract Tryd.prog 87 [(di a0)] [(eA3Int.dv r)] := by
 refine contract_of Tryd.func87 (by kernel_rfl) rfl (lq rfl) (lq rfl) fun w0 I0 hI0 hG0 => ?_
 unfold hangul_parts at h
 refine avc_sq2 <| avc_sq ?_
 refine sq_b rfl (step_alloc (zs := [(.int IntKind.i64 (0)), (.int IntKind.i64 (0)), (.int IntKind.i64 (0))]) (lq rfl) (by kernel_rfl) rfl rfl) ?_
 refine sq_nil <| avc_sq2 <| avc_sq2 <| avc_sq ?_
 refine sqa (a_move_d (lq rfl) rfl) ?_
 obtain ⟨t6, ht6, h'⟩ := bE h; clear h
 refine sqa (a_call (lq rfl) rfl (hangul_Kind_c ht6)) ?_
 refine sqa (a_lss (lq rfl) rfl rfl) ?_
 refine sq_nil ?_
 refine avc_if rfl ⟨fun c1 => ?_, fun c1 => ?_⟩
 ·
  replace h' := cT c1 h'
  refine avc_sq2 <| avc_sq ?_
  refine sqa (m_abuild (lq rfl) A107 rfl rfl) ?_
  refine sq_b rfl (s_store_boxA G107 rfl rfl rfl rfl rfl rfl) ?_
  refine sq_nil ?_
  cases h'
  refine avc_ret ?_
  exact ret_cellA rfl rfl G107 rfl
 ·
  replace h' := cF c1 h'
  refine avc_skip <| avc_sq2 <| avc_sq ?_
  refine sqa (a_move_d (lq rfl) rfl) ?_
  refine sqa (m_sub (lq rfl) rfl rfl) ?_
  refine sqa (a_assign_d (lq rfl) rfl) ?_
  refine sq_nil <| avc_sq2 <| avc_sq ?_
  refine sqa (a_move_d (lq rfl) rfl) ?_
  obtain ⟨t12, ht12, h⟩ := bE h'; clear h'
  refine sqa (m_quo (lq rfl) rfl rfl ht12) ?_
  obtain ⟨t13, ht13, h'⟩ := bE h; clear h
  refine sqa (m_quo (lq rfl) rfl rfl ht13) ?_
  refine sqa (m_add (lq rfl) rfl rfl) ?_
  refine sqa (a_move_d (lq rfl) rfl) ?_
  obtain ⟨t16, ht16, h⟩ := bE h'; clear h'
  refine sqa (m_quo (lq rfl) rfl rfl ht16) ?_
  obtain ⟨t17, ht17, h'⟩ := bE h; clear h
  refine sqa (m_rem (lq rfl) rfl rfl ht17) ?_
  refine sqa (m_add (lq rfl) rfl rfl) ?_
  refine sqa (m_abuild (lq rfl) A107 rfl rfl) ?_
  refine sq_b rfl (step_alloc (zs := [(.int IntKind.i64 (0)), (.int IntKind.i64 (0)), (.int IntKind.i64 (0))]) (lq rfl) (by kernel_rfl) rfl rfl) ?_
  refine sq_b rfl (s_store_boxA G107 rfl rfl rfl rfl rfl rfl) ?_
  refine sq_nil <| avc_sq2 <| avc_sq2 <| avc_sq ?_
  refine sqa (a_move_d (lq rfl) rfl) ?_
  obtain ⟨t21, ht21, h⟩ := bE h'; clear h'
  refine sqa (m_rem (lq rfl) rfl rfl ht21) ?_
  refine sqa (a_gtr (lq rfl) rfl rfl) ?_
  refine sq_nil ?_
  obtain ⟨y1, hy1, h'⟩ := bE h; clear h
  refine avc_tail (e := .normal) (S2 := ⟨[(2, .ptr 2 0), (4, .ptr 4 0)], [(2, .box 107 [.d (di 0), .d (di 0), .d (di 0)]), (4, .box 107 [.d (di (({ x0 := wi (4352 + t13), x1 := wi (4449 + t17), x2 := 0 } : A3Int).x0)), .d (di (({ x0 := wi (4352 + t13), x1 := wi (4449 + t17), x2 := 0 } : A3Int).x1)), .d (di y1)])]⟩) ?_ ?_
  ·
   refine avc_if rfl ⟨fun c2 => ?_, fun c2 => ?_⟩
   ·
    replace hy1 := cT c2 hy1
    refine avc_sq ?_
    refine sqa (a_move_d (lq rfl) rfl) ?_
    obtain ⟨t24, ht24, hy1'⟩ := bE hy1; clear hy1
    refine sqa (m_rem (lq rfl) rfl rfl ht24) ?_
    refine sqa (m_add (lq rfl) rfl rfl) ?_
    refine sqa (m_sub (lq rfl) rfl rfl) ?_
    refine sqa (a_indexAddr_ptr (k := 2) (lq rfl) A107 rfl rfl (by decide)) ?_
    refine sq_b rfl (s_store_box_d O3 rfl rfl (lq rfl) rfl rfl rfl) ?_
    refine sq_nil ?_
    cases hy1'
    exact out_mk (weak_cov ⟨rfl, rfl, trivial⟩ ⟨rfl, rfl, trivial⟩)
   ·
    replace hy1 := cF c2 hy1
    refine avc_skip ?_
    cases hy1
    exact out_mk (weak_cov ⟨rfl, rfl, trivial⟩ ⟨rfl, rfl, trivial⟩)
  ·
   refine avc_sq2 <| avc_sq ?_
   refine sqa ((a_load_boxA (lq rfl) G107 rfl rfl rfl rfl).data rfl) ?_
   refine sq_b rfl (s_store_boxA G107 rfl rfl rfl rfl rfl rfl) ?_
   refine sq_nil ?_
   cases h'
   refine avc_ret ?_
   exact ret_cellA rfl rfl G107 rfl
theorem hangul_Decompose_c  {a0 : Int}  {r : (List Int)} (h : hangul_Decompose a0 = some r) : Contract Tryd.prog 74 [(di a0)] [(dsl eI r)] := by
 refine contract_of Tryd.func74 (by kernel_rfl) rfl (lq rfl) (lq rfl) fun w0 I0 hI0 hG0 => ?_
 unfold hangul_Decompose at h
 refine avc_sq2 <| avc_sq ?_
 refine sqa (a_assign_d (lq rfl) rfl) ?_
 refine sq_nil <| avc_sq2 <| avc_sq ?_
 refine sqa (a_move_d (lq rfl) rfl) ?_
 obtain ⟨t5, ht5, h'⟩ := bE h; clear h
 refine sqa (a_call (lq rfl) rfl (hangul_parts_c ht5)) ?_
 refine sq_b rfl (step_alloc (zs := [(.int IntKind.i64 (0)), (.int IntKind.i64 (0)), (.int IntKind.i64 (0))]) (lq rfl) (by kernel_rfl) rfl rfl) ?_
 refine sq_b rfl (s_store_boxA G107 rfl rfl rfl rfl rfl rfl) ?_
 refine sq_nil ?_
 refine avc_weak (weak_freeze (t := 3) (lq rfl) rfl rfl rfl) ?_
 refine avc_sq2 <| avc_block <| avc_sq2 <| avc_sq ?_
 refine sqa (m_loadPt (lq rfl) G107 rfl rfl) ?_
 refine sqa (m_abuild (lq rfl) A107 rfl rfl) ?_
 refine sqa (m_steql (en := eA3Int) (a := t5) (b := ({ x0 := 0, x1 := 0, x2 := 0 } : A3Int)) (lq rfl) E107 rfl rfl) ?_
 refine sqa (a_assign_d (lq rfl) rfl) ?_
 refine sq_nil ?_
 refine avc_if rfl ⟨fun c1 => ?_, fun c1 => ?_⟩
 ·
  replace h' := cT c1 h'
  refine avc_sq2 <| avc_sq ?_
  refine sqa (a_move_d (lq rfl) rfl) ?_
  refine sqa (a_lit (lq rfl) S30 rfl rfl rfl rfl (by decide) rfl) ?_
  refine sqa (a_assign_d (lq rfl) rfl) ?_
  refine sq_nil ?_
  cases h'
  refine avc_ret ?_
  exact ret_1 rfl
 ·
  replace h' := cF c1 h'
  refine avc_sq2 <| avc_sq ?_
  refine sqa (m_indexPt (k := 2) (lq rfl) A107 rfl rfl (by decide)) ?_
  refine sqa (a_load_ip (lq rfl) O3 rfl rfl) ?_
  refine sqa (a_eql (lq rfl) rfl rfl) ?_
  refine sqa (a_assign_d (lq rfl) rfl) ?_
  refine sq_nil ?_
  refine avc_if rfl ⟨fun c2 => ?_, fun c2 => ?_⟩
  ·
   replace h' := cT c2 h'
   refine avc_sq2 <| avc_sq ?_
   refine sqa (m_indexPt (k := 0) (lq rfl) A107 rfl rfl (by decide)) ?_
   refine sqa (a_load_ip (lq rfl) O3 rfl rfl) ?_
   refine sqa (m_indexPt (k := 1) (lq rfl) A107 rfl rfl (by decide)) ?_
   refine sqa (a_load_ip (lq rfl) O3 rfl rfl) ?_
   refine sqa (a_lit (lq rfl) S30 rfl rfl rfl rfl (by decide) rfl) ?_
   refine sqa (a_assign_d (lq rfl) rfl) ?_
   refine sq_nil ?_
   cases h'
   refine avc_ret ?_
   exact ret_1 rfl
  ·
   replace h' := cF c2 h'
   refine avc_skip <| avc_sq2 <| avc_sq ?_
   refine sqa (m_indexPt (k := 0) (lq rfl) A107 rfl rfl (by decide)) ?_
   refine sqa (a_load_ip (lq rfl) O3 rfl rfl) ?_
   refine sqa (m_indexPt (k := 1) (lq rfl) A107 rfl rfl (by decide)) ?_
   refine sqa (a_load_ip (lq rfl) O3 rfl rfl) ?_
   refine sqa (m_indexPt (k := 2) (lq rfl) A107 rfl rfl (by decide)) ?_
   refine sqa (a_load_ip (lq rfl) O3 rfl rfl) ?_
   refine sqa (a_lit (lq rfl) S30 rfl rfl rfl rfl (by decide) rfl) ?_
   refine sqa (a_assign_d (lq rfl) rfl) ?_
   refine sq_nil ?_
   cases h'
   refine avc_ret ?_
   exact ret_1 rfl
theorem slices_BinarySearchFunc_api_Mapping_api_Mapping_int_c {fv2 : DV} {a0 : (List Mapping)} {a1 : Int} {a2 : Mapping → Int → Option (Int)} (hf2 : ∀ x0 x1 y, a2 x0 x1 = some y → FnC Tryd.prog fv2 [(eMapping.dv x0), (di x1)] [(di y)]) {r : Int × Bool} (h : slices_BinarySearchFunc_api_Mapping_api_Mapping_int a0 a1 a2 = some r) : Contract Tryd.prog 75 [(dsl eMapping a0), (di a1), fv2] [(di r.1), (db r.2)] := by
 refine contract_of Tryd.func75 (by kernel_rfl) rfl (lq rfl) (lq rfl) fun w0 I0 hI0 hG0 => ?_
 unfold slices_BinarySearchFunc_api_Mapping_api_Mapping_int at h
 refine avc_sq2 <| avc_sq ?_
 refine sqa (a_assign_d (lq rfl) rfl) ?_
 refine sqa (a_assign_d (lq rfl) rfl) ?_
 refine sq_nil <| avc_sq2 <| avc_sq ?_
 refine sqa (a_move_d (lq rfl) rfl) ?_
 refine sqa (m_len (en := eMapping) (l := a0) (lq rfl) S38 rfl) ?_
 refine sqa (a_assign_d (lq rfl) rfl) ?_
 refine sq_nil <| avc_sq2 <| avc_sq ?_
 refine sqa (a_move_d (lq rfl) rfl) ?_
 refine sqa (a_assign_d (lq rfl) rfl) ?_
 refine sqa (a_assign_d (lq rfl) rfl) ?_
 refine sq_nil <| avc_sq2 <| avc_block ?_
 obtain ⟨y1, hy1, h'⟩ := bE h; clear h
 refine avc_tail (e := (.exit 0)) (S2 := ⟨[(0, .d (dsl eMapping a0)), (1, .d (di a1)), (2, .d fv2), (8, .d (di (a0.length : Int))), (9, .d (di y1))], []⟩) ?_ ?_
 ·
  refine avc_loopM (fun x => ⟨[(0, .d (dsl eMapping a0)), (1, .d (di a1)), (2, .d fv2), (8, .d (di (a0.length : Int))), (9, .d (di x.1)), (10, .d (di x.2))], []⟩) hy1 (weak_cov ⟨rfl, rfl, rfl, rfl, rfl, rfl, trivial⟩ trivial) ?_
  rintro ⟨v9, v10⟩ sy1 hsy1
  replace hsy1 : slices_BinarySearchFunc_api_Mapping_api_Mapping_int_L0 a0 a2 a1 v9 v10 = some sy1 := hsy1
  unfold slices_BinarySearchFunc_api_Mapping_api_Mapping_int_L0 at hsy1
  refine avc_sq2 <| avc_sq2 <| avc_sq ?_
  refine sqa (a_move_d (lq rfl) rfl) ?_
  refine sqa (a_move_d (lq rfl) rfl) ?_
  refine sqa (a_lss (lq rfl) rfl rfl) ?_
  refine sq_nil ?_
  refine avc_if rfl ⟨fun c1 => ?_, fun c1 => ?_⟩
  ·
   replace hsy1 := cT c1 hsy1
   refine avc_skip ?_
   obtain ⟨y2, hy2, hsy1'⟩ := bE hsy1; clear hsy1
   refine avc_tail (e := .normal) (S2 := ⟨[(0, .d (dsl eMapping a0)), (1, .d (di a1)), (2, .d fv2), (8, .d (di (a0.length : Int))), (9, .d (di y2.1)), (10, .d (di y2.2))], []⟩) ?_ ?_
   ·
    refine avc_block <| avc_sq2 <| avc_sq ?_
    refine sqa (a_move_d (lq rfl) rfl) ?_
    refine sqa (a_move_d (lq rfl) rfl) ?_
    refine sqa (m_add (lq rfl) rfl rfl) ?_
    refine sqa (m_conv (lq rfl) Tryd.underlying3 Tryd.underlying132 rfl) ?_
    refine sqa (a_shr (m := 1) (lq rfl) rfl rfl (by decide)) ?_
    refine sqa (m_conv (lq rfl) Tryd.underlying132 Tryd.underlying3 rfl) ?_
    refine sqa (a_assign_d (lq rfl) rfl) ?_
    refine sq_nil <| avc_sq2 <| avc_sq ?_
    refine sqa (a_move_d (lq rfl) rfl) ?_
    refine sqa (a_move_d (lq rfl) rfl) ?_
    refine sqa (a_move_d (lq rfl) rfl) ?_
    obtain ⟨t27, ht27, hy2'⟩ := bE hy2; clear hy2
    refine sqa (m_index (en := eMapping) (lq rfl) S38 rfl rfl ht27) ?_
    refine sqa (m_loadEA (en := eMapping) (l := a0) (i := (wi ((wu (wi (v9 + v10))) / 2 ^ 1))) (v := t27) (off := 0) (lq rfl) G109 rfl ht27 rfl rfl (by decide)) ?_
    refine sqa (a_move_d (lq rfl) rfl) ?_
    obtain ⟨t30, ht30, hy2⟩ := bE hy2'; clear hy2'
    refine sqa (a_callF (lq rfl) rfl rfl (hf2 _ _ _ ht30)) ?_
    refine sqa (a_lss (lq rfl) rfl rfl) ?_
    refine sq_nil ?_
    refine avc_if rfl ⟨fun c2 => ?_, fun c2 => ?_⟩
    ·
     replace hy2 := cT c2 hy2
     refine avc_sq ?_
     refine sqa (a_move_d (lq rfl) rfl) ?_
     refine sqa (m_add (lq rfl) rfl rfl) ?_
     refine sqa (a_assign_d (lq rfl) rfl) ?_
     refine sq_nil ?_
     cases hy2
     exact out_mk (weak_cov ⟨rfl, rfl, rfl, rfl, rfl, rfl, trivial⟩ trivial)
    ·
     replace hy2 := cF c2 hy2
     refine avc_sq ?_
     refine sqa (a_move_d (lq rfl) rfl) ?_
     refine sqa (a_assign_d (lq rfl) rfl) ?_
     refine sq_nil ?_
     cases hy2
     exact out_mk (weak_cov ⟨rfl, rfl, rfl, rfl, rfl, rfl, trivial⟩ trivial)
   ·
    cases hsy1'
    exact weak_cov ⟨rfl, rfl, rfl, rfl, rfl, rfl, trivial⟩ trivial
  ·
   replace hsy1 := cF c1 hsy1
   refine avc_exit ?_
   cases hsy1
   intro q; cases q
   exact out_mk (weak_cov ⟨rfl, rfl, rfl, rfl, rfl, trivial⟩ trivial)
 ·
  refine avc_sq2 <| avc_sq ?_
  refine sqa (a_move_d (lq rfl) rfl) ?_
  refine sqa (a_move_d (lq rfl) rfl) ?_
  refine sqa (a_move_d (lq rfl) rfl) ?_
  refine sqa (a_lss (lq rfl) rfl rfl) ?_
  obtain ⟨b39, hb39, h⟩ := bE h'; clear h'
  refine sqa ((a_move_d (lq rfl) rfl).bool (Option.some.inj hb39)) ?_
  refine sq_g (x := .d fv2) rfl rfl rfl (lq rfl) (lq rfl) rfl (fun hb => by obtain rfl : b39 = true := hb; exact a_move_d (lq rfl) rfl) ?_
  refine sq_g (x := .d (dsl eMapping a0)) rfl rfl rfl (lq rfl) (lq rfl) rfl (fun hb => by obtain rfl : b39 = true := hb; exact a_move_d (lq rfl) rfl) ?_
  refine sq_g (x := .d (di y1)) rfl rfl rfl (lq rfl) (lq rfl) rfl (fun hb => by obtain rfl : b39 = true := hb; exact a_move_d (lq rfl) rfl) ?_
  obtain ⟨t43, ht43, h'⟩ := bE h; clear h
  refine sq_g (x := .ip (eMapping.all a0) (y1.toNat * eMapping.size)) rfl rfl rfl (lq rfl) (lq rfl) rfl (fun hb => by obtain rfl : b39 = true := hb; exact m_index (en := eMapping) (lq rfl) S38 rfl rfl ht43) ?_
  refine sq_g (x := .d (eMapping.dv t43)) rfl rfl rfl (lq rfl) (lq rfl) rfl (fun hb => by obtain rfl : b39 = true := hb; exact m_loadEA (en := eMapping) (l := a0) (i := y1) (v := t43) (off := 0) (lq rfl) G109 rfl ht43 rfl rfl (by decide)) ?_
  refine sq_g (x := .d (di a1)) rfl rfl rfl (lq rfl) (lq rfl) rfl (fun hb => by obtain rfl : b39 = true := hb; exact a_move_d (lq rfl) rfl) ?_
  obtain ⟨t46, ht46, h⟩ := bE h'; clear h'
  refine sq_g (x := .d (di t46)) rfl rfl rfl (lq rfl) (lq rfl) rfl (fun hb => by obtain rfl : b39 = true := hb; exact a_callF (lq rfl) rfl rfl (hf2 _ _ _ ht46)) ?_
  refine sq_g (x := .d (db (decide (t46 = 0)))) rfl rfl rfl (lq rfl) (lq rfl) rfl (fun hb => by obtain rfl : b39 = true := hb; exact a_eql (lq rfl) rfl rfl) ?_
  refine sqa (a_pick_and (lq rfl) rfl rfl) ?_
  refine sqa (a_assign_d (lq rfl) rfl) ?_
  refine sqa (a_assign_d (lq rfl) rfl) ?_
  refine sq_nil ?_
  cases h
  refine avc_ret ?_
  exact ret_two rfl rfl
theorem decompose_once_1_c  {a0 : Mapping} {a1 : Int}  {r : Int} (h : decompose_once_1 a0 a1 = some r) : Contract Tryd.prog 76 [(eMapping.dv a0), (di a1)] [(di r)] := by
 refine contract_of Tryd.func76 (by kernel_rfl) rfl (lq rfl) (lq rfl) fun w0 I0 hI0 hG0 => ?_
 unfold decompose_once_1 at h
 refine avc_sq2 <| avc_sq ?_
 refine sqa (m_box (size := 3) (lq rfl) rfl rfl) ?_
 refine sqa (a_assign_d (lq rfl) rfl) ?_
 refine sq_nil <| avc_sq2 <| avc_sq ?_
 refine sqa (m_fieldPt (lq rfl) L109_0 rfl) ?_
 refine sqa (a_load_ip (lq rfl) O3 rfl rfl) ?_
 refine sqa (a_move_d (lq rfl) rfl) ?_
 obtain ⟨t8, ht8, h'⟩ := bE h; clear h
 refine sqa (a_call (lq rfl) rfl (cmp_Compare_int_c ht8)) ?_
 refine sqa (a_assign_d (lq rfl) rfl) ?_
 refine sq_nil ?_
 cases h'
 refine avc_ret ?_
 exact ret_1 rfl
theorem decompose_once_c  {a0 : Norm} {a1 : Int} {a2 : Bool}  {r : (List Int) × Bool} (h : decompose_once a0 a1 a2 = some r) : Contract Tryd.prog 58 [(eNorm.dv a0), (di a1), (db a2)] [(dsl eI r.1), (db r.2)] := by
 refine contract_of Tryd.func58 (by kernel_rfl) rfl (lq rfl) (lq rfl) fun w0 I0 hI0 hG0 => ?_
 unfold decompose_once at h
 refine avc_sq2 <| avc_sq ?_
 refine sqa (m_box (size := 3) (lq rfl) rfl rfl) ?_
 refine sqa (a_assign_d (lq rfl) rfl) ?_
 refine sqa (a_assign_d (lq rfl) rfl) ?_
 refine sq_nil <| avc_sq2 <| avc_sq2 <| avc_sq ?_
 refine sqa (a_move_d (lq rfl) rfl) ?_
 obtain ⟨t11, ht11, h'⟩ := bE h; clear h
 refine sqa (a_call (lq rfl) rfl (hangul_Kind_c ht11)) ?_
 refine sqa (a_geq (lq rfl) rfl rfl) ?_
 refine sq_nil ?_
 refine avc_if rfl ⟨fun c1 => ?_, fun c1 => ?_⟩
 ·
  replace h' := cT c1 h'
  refine avc_sq2 <| avc_sq ?_
  refine sqa (a_move_d (lq rfl) rfl) ?_
  obtain ⟨t14, ht14, h⟩ := bE h'; clear h'
  refine sqa (a_call (lq rfl) rfl (hangul_Decompose_c ht14)) ?_
  refine sqa (a_assign_d (lq rfl) rfl) ?_
  refine sqa (a_assign_d (lq rfl) rfl) ?_
  refine sq_nil ?_
  cases h
  refine avc_ret ?_
  exact ret_two rfl rfl
 ·
  replace h' := cF c1 h'
  refine avc_skip <| avc_sq2 <| avc_sq ?_
  refine sqa (m_fieldPt (lq rfl) L43_1 rfl) ?_
  refine sqa (a_load_ip (lq rfl) O38 rfl rfl) ?_
  refine sqa (a_move_d (lq rfl) rfl) ?_
  obtain ⟨t19, ht19, h⟩ := bE h'; clear h'
  refine sqa (a_call (lq rfl) rfl (slices_BinarySearchFunc_api_Mapping_api_Mapping_int_c (fun _ _ _ q => .inr ⟨_, rfl, decompose_once_1_c q⟩) ht19)) ?_
  refine sqa (a_move_tup (lq rfl) rfl) ?_
  refine sqa (a_extract (lq rfl) rfl rfl) ?_
  refine sqa (a_extract (lq rfl) rfl rfl) ?_
  refine sqa (a_assign_d (lq rfl) rfl) ?_
  refine sqa (a_assign_d (lq rfl) rfl) ?_
  refine sq_nil <| avc_sq2 <| avc_sq2 <| avc_sq ?_
  refine sqa (a_move_d (lq rfl) rfl) ?_
  refine sqa (a_not (lq rfl) rfl) ?_
  obtain ⟨b24, hb24, h'⟩ := bE h; clear h
  refine sqa ((a_move_d (lq rfl) rfl).bool (Option.some.inj hb24)) ?_
  refine sq_g (x := .ip (eNorm.cells a0) (0 + 1)) rfl rfl rfl (lq rfl) (lq rfl) rfl (fun hb => by obtain rfl := gF hb; exact m_fieldPt (lq rfl) L43_1 rfl) ?_
  refine sq_g (x := .d (dsl eMapping a0.Decomp)) rfl rfl rfl (lq rfl) (lq rfl) rfl (fun hb => by obtain rfl := gF hb; exact a_load_ip (lq rfl) O38 rfl rfl) ?_
  refine sq_g (x := .d (di t19.1)) rfl rfl rfl (lq rfl) (lq rfl) rfl (fun hb => by obtain rfl := gF hb; exact a_move_d (lq rfl) rfl) ?_
  obtain ⟨t28, ht28, h⟩ := bE h'; clear h'
  refine sq_g (x := .ip (eMapping.all a0.Decomp) (t19.1.toNat * eMapping.size)) rfl rfl rfl (lq rfl) (lq rfl) rfl (fun hb => by obtain rfl := gF hb; exact m_index (en := eMapping) (lq rfl) S38 rfl rfl ht28) ?_
  refine sq_g (x := .ip (eMapping.all a0.Decomp) (t19.1.toNat * eMapping.size + 2)) rfl rfl rfl (lq rfl) (lq rfl) rfl (fun hb => by obtain rfl := gF hb; exact a_fieldAddr_ip (lq rfl) L109_2 rfl) ?_
  refine sq_g (x := .d (ds t28.Tag)) rfl rfl rfl (lq rfl) (lq rfl) rfl (fun hb => by obtain rfl := gF hb; exact m_loadE (en := eMapping) (l := a0.Decomp) (i := t19.1) (v := t28) (off := 2) (lq rfl) O9 rfl ht28 rfl) ?_
  refine sq_g (x := .d (db (!(t28.Tag == [])))) rfl rfl rfl (lq rfl) (lq rfl) rfl (fun hb => by obtain rfl := gF hb; exact m_sneq (a := t28.Tag) (b := []) (lq rfl) rfl rfl) ?_
  obtain ⟨b32, hb32, h'⟩ := bE h; clear h
  refine sq_g (x := .d (db b32)) rfl rfl rfl (lq rfl) (lq rfl) rfl (fun hb => by obtain rfl := gF hb; exact (a_move_d (lq rfl) rfl).bool (Option.some.inj hb32)) ?_
  refine sq_g2 (x := .d (db a2)) rfl rfl rfl (lq rfl) (lq rfl) rfl (fun hb => by obtain ⟨hb, hb1⟩ := and_split hb; obtain rfl := gF hb; obtain rfl : b32 = true := hb1; exact a_move_d (lq rfl) rfl) ?_
  refine sq_g2 (x := .d (db (!a2))) rfl rfl rfl (lq rfl) (lq rfl) rfl (fun hb => by obtain ⟨hb, hb1⟩ := and_split hb; obtain rfl := gF hb; obtain rfl : b32 = true := hb1; exact a_not (lq rfl) rfl) ?_
  refine sq_g (x := .d (db (b32 && (!a2)))) rfl rfl rfl (lq rfl) (lq rfl) rfl (fun hb => by obtain rfl := gF hb; exact a_pick_and (lq rfl) rfl rfl) ?_
  refine sqa (a_pick_or (lq rfl) rfl rfl) ?_
  refine sq_nil ?_
  refine avc_if rfl ⟨fun c2 => ?_, fun c2 => ?_⟩
  ·
   replace h' := cT c2 h'
   refine avc_sq2 <| avc_sq ?_
   refine sqa (a_assign_d (lq rfl) rfl) ?_
   refine sqa (a_assign_d (lq rfl) rfl) ?_
   refine sq_nil ?_
   refine avc_weak (weak_nil_d (t := 6) eI.size (lq rfl) rfl) ?_
   cases h'
   refine avc_ret ?_
   exact ret_two rfl rfl
  ·
   replace h' := cF c2 h'
   refine avc_skip <| avc_sq2 <| avc_sq ?_
   refine sqa (m_fieldPt (lq rfl) L43_1 rfl) ?_
   refine sqa (a_load_ip (lq rfl) O38 rfl rfl) ?_
   refine sqa (a_move_d (lq rfl) rfl) ?_
   obtain ⟨t40, ht40, h⟩ := bE h'; clear h'
   refine sqa (m_index (en := eMapping) (lq rfl) S38 rfl rfl ht40) ?_
   refine sqa (a_fieldAddr_ip (lq rfl) L109_1 rfl) ?_
   refine sqa (m_loadE (en := eMapping) (l := a0.Decomp) (i := t19.1) (v := t40) (off := 1) (lq rfl) O30 rfl ht40 rfl) ?_
   refine sqa (a_assign_d (lq rfl) rfl) ?_
   refine sqa (a_assign_d (lq rfl) rfl) ?_
   refine sq_nil ?_
   cases h
   refine avc_ret ?_
   exact ret_two rfl rfl
theorem decompose_measure_1_g : ∀ (n : Nat) {a0 : Int} {a1 : Norm} {a2 : (List (Int × Int))} {a3 : Bool} {a5 : Bool} {r : Int × Bool × Bool × (List (Int × Int))}, decompose_measure_1 n a0 a1 a2 a3 a5 = some r → GC Tryd.prog 86 [.d (di a0), .d (.pt (eNorm.cells a1)), .ptr 3002 0, .ptr 3003 0, .ptr 3004 0, .ptr 3005 0] [(3002, .box 131 [.row 3140]), (3003, .box 4 [.d (db a3)]), (3004, .box 95 [.clo 86 [.d (.pt (eNorm.cells a1)), .ptr 3002 0, .ptr 3003 0, .ptr 3004 0, .ptr 3005 0]]), (3005, .box 4 [.d (db a5)]), (3140, .map (mapE kI eI a2))] [3002, 3003, 3004, 3005, 3140] [.d (di r.1)] [(3002, .box 131 [.row 3140]), (3003, .box 4 [.d (db r.2.1)]), (3004, .box 95 [.clo 86 [.d (.pt (eNorm.cells a1)), .ptr 3002 0, .ptr 3003 0, .ptr 3004 0, .ptr 3005 0]]), (3005, .box 4 [.d (db r.2.2.1)]), (3140, .map (mapE kI eI r.2.2.2))] := by
 intro n
 induction n with
 | zero => intro a0 a1 a2 a3 a5 r h; cases h
 | succ n ih =>
 intro a0 a1 a2 a3 a5 r h
 replace h : decompose_measure_1_B (decompose_measure_1 n) a0 a1 a2 a3 a5 = some r := h
 generalize decompose_measure_1 n = rec at h ih
 refine gc_of Tryd.func86 (by kernel_rfl) rfl (lq rfl) (lq rfl) fun w0 I0 hG0 p0 => ?_
 unfold decompose_measure_1_B at h
 refine avc_sq2 <| avc_sq ?_
 refine sqa (a_assign_d (lq rfl) rfl) ?_
 refine sq_nil <| avc_sq2 <| avc_sq ?_
 refine sqa (m_loadPt (lq rfl) G43 rfl rfl) ?_
 refine sqa (a_move_d (lq rfl) rfl) ?_
 obtain ⟨t18, ht18, h'⟩ := bE h; clear h
 refine sqa (a_call (lq rfl) rfl (decompose_once_c ht18)) ?_
 refine sqa (a_move_tup (lq rfl) rfl) ?_
 refine sqa (a_extract (lq rfl) rfl rfl) ?_
 refine sqa (a_extract (lq rfl) rfl rfl) ?_
 refine sqa (a_assign_d (lq rfl) rfl) ?_
 refine sqa (a_assign_d (lq rfl) rfl) ?_
 refine sq_nil <| avc_sq2 <| avc_sq2 <| avc_sq ?_
 refine sqa (a_move_d (lq rfl) rfl) ?_
 refine sqa (a_not (lq rfl) rfl) ?_
 obtain ⟨b23, hb23, h⟩ := bE h'; clear h'
 refine sqa ((a_move_d (lq rfl) rfl).bool (Option.some.inj hb23)) ?_
 refine sq_g (x := .d (dsl eI t18.1)) rfl rfl rfl (lq rfl) (lq rfl) rfl (fun hb => by obtain rfl := gF hb; exact a_move_d (lq rfl) rfl) ?_
 refine sq_g (x := .d (di (t18.1.length : Int))) rfl rfl rfl (lq rfl) (lq rfl) rfl (fun hb => by obtain rfl := gF hb; exact m_len (en := eI) (l := t18.1) (lq rfl) S30 rfl) ?_
 refine sq_g (x := .d (db (decide ((t18.1.length : Int) = 0)))) rfl rfl rfl (lq rfl) (lq rfl) rfl (fun hb => by obtain rfl := gF hb; exact a_eql (lq rfl) rfl rfl) ?_
 refine sqa (a_pick_or (lq rfl) rfl rfl) ?_
 refine sq_nil ?_
 refine avc_if rfl ⟨fun c1 => ?_, fun c1 => ?_⟩
 ·
  replace h := cT c1 h
  refine avc_sq2 <| avc_sq ?_
  refine sqa (a_assign_d (lq rfl) rfl) ?_
  refine sq_nil ?_
  cases h
  refine avc_ret ?_
  exact ⟨⟨_, _, rfl, rfl, rfl⟩, ⟨rfl, rfl, rfl, rfl, rfl, trivial⟩⟩
 ·
  replace h := cF c1 h
  refine avc_skip <| avc_sq2 <| avc_sq2 <| avc_sq ?_
  refine sqa (a_load_box (lq rfl) O131 rfl rfl rfl) ?_
  refine sqa (a_move_d (lq rfl) rfl) ?_
  refine sqa (m_lookup2 (kv := kI) (ev := eI) (mp := a2) (k := a0) (zero := 0) (lq rfl) M131 K3 rfl rfl rfl (fun _ _ => .v _)) ?_
  refine sqa (a_move_tup (lq rfl) rfl) ?_
  refine sqa (a_extract (lq rfl) rfl rfl) ?_
  refine sqa (a_extract (lq rfl) rfl rfl) ?_
  refine sqa (a_assign_d (lq rfl) rfl) ?_
  refine sqa (a_assign_d (lq rfl) rfl) ?_
  refine sq_nil <| avc_sq2 <| avc_sq ?_
  refine sqa (a_move_d (lq rfl) rfl) ?_
  refine sq_nil ?_
  refine avc_if rfl ⟨fun c2 => ?_, fun c2 => ?_⟩
  ·
   replace h := cT c2 h
   refine avc_sq2 <| avc_sq ?_
   refine sqa (a_load_box (lq rfl) O4 rfl rfl rfl) ?_
   obtain ⟨b36, hb36, h'⟩ := bE h; clear h
   refine sqa ((a_move_d (lq rfl) rfl).bool (Option.some.inj hb36)) ?_
   refine sq_g (x := .d (di (mgetD a2 a0 0))) rfl rfl rfl (lq rfl) (lq rfl) rfl (fun hb => by obtain rfl := gF hb; exact a_move_d (lq rfl) rfl) ?_
   refine sq_g (x := .d (db (decide ((mgetD a2 a0 0) = (-1))))) rfl rfl rfl (lq rfl) (lq rfl) rfl (fun hb => by obtain rfl := gF hb; exact a_eql (lq rfl) rfl rfl) ?_
   refine sqa (a_pick_or (lq rfl) rfl rfl) ?_
   refine sq_b rfl (s_store_box_d O4 rfl rfl (lq rfl) rfl rfl rfl) ?_
   refine sq_nil <| avc_sq2 <| avc_sq ?_
   refine sqa (a_move_d (lq rfl) rfl) ?_
   refine sqa (a_max (lq rfl) rfl rfl) ?_
   refine sqa (a_assign_d (lq rfl) rfl) ?_
   refine sq_nil ?_
   cases h'
   refine avc_ret ?_
   exact ⟨⟨_, _, rfl, rfl, rfl⟩, ⟨rfl, rfl, rfl, rfl, rfl, trivial⟩⟩
  ·
   replace h := cF c2 h
   refine avc_skip <| avc_sq2 <| avc_sq ?_
   refine sqa (a_load_box (lq rfl) O131 rfl rfl rfl) ?_
   refine sqa (a_move_d (lq rfl) rfl) ?_
   refine sq_b rfl (m_mapUpdate (kv := kI) (ev := eI) (mp := a2) (k := a0) (v := (-1)) M131 K3 rfl rfl rfl rfl rfl rfl) ?_
   refine sq_nil <| avc_sq2 <| avc_sq ?_
   refine sqa (a_assign_d (lq rfl) rfl) ?_
   refine sq_nil <| avc_sq2 <| avc_sq2 <| avc_sq ?_
   refine sqa (a_move_d (lq rfl) rfl) ?_
   refine sqa (m_len (en := eI) (l := t18.1) (lq rfl) S30 rfl) ?_
   refine sqa (a_move_d (lq rfl) rfl) ?_
   refine sq_nil <| avc_block ?_
   obtain ⟨y1, hy1, h'⟩ := bE h; clear h
   refine avc_tail (e := (.exit 0)) (S2 := ⟨[(0, .d (di a0)), (2, .ptr 3002 0), (3, .ptr 3003 0), (4, .ptr 3004 0), (5, .ptr 3005 0), (12, .d (di y1.1))], [(3002, .box 131 [.row 3140]), (3003, .box 4 [.d (db y1.2.1)]), (3004, .box 95 [.clo 86 [.d (.pt (eNorm.cells a1)), .ptr 3002 0, .ptr 3003 0, .ptr 3004 0, .ptr 3005 0]]), (3005, .box 4 [.d (db y1.2.2.1)]), (3140, .map (mapE kI eI y1.2.2.2))]⟩) ?_ ?_
   ·
    refine avc_loopM (fun x => ⟨[(0, .d (di a0)), (2, .ptr 3002 0), (3, .ptr 3003 0), (4, .ptr 3004 0), (5, .ptr 3005 0), (12, .d (di x.1)), (44, .d (dsl eI t18.1)), (45, .d (di (t18.1.length : Int))), (46, .d (di x.2.1))], [(3002, .box 131 [.row 3140]), (3003, .box 4 [.d (db x.2.2.1)]), (3004, .box 95 [.clo 86 [.d (.pt (eNorm.cells a1)), .ptr 3002 0, .ptr 3003 0, .ptr 3004 0, .ptr 3005 0]]), (3005, .box 4 [.d (db x.2.2.2.1)]), (3140, .map (mapE kI eI x.2.2.2.2))]⟩) hy1 (weak_cov ⟨rfl, rfl, rfl, rfl, rfl, rfl, rfl, rfl, rfl, trivial⟩ ⟨rfl, rfl, rfl, rfl, rfl, trivial⟩) ?_
    rintro ⟨v12, v46, k3003_0, k3005_0, r3140⟩ sy1 hsy1
    replace hsy1 : decompose_measure_1_L0 t18 rec a1 v12 v46 k3003_0 k3005_0 r3140 = some sy1 := hsy1
    unfold decompose_measure_1_L0 at hsy1
    refine avc_sq2 <| avc_sq ?_
    refine sqa (a_lss (lq rfl) rfl rfl) ?_
    refine sq_nil <| avc_sq2 ?_
    refine avc_if rfl ⟨fun c3 => ?_, fun c3 => ?_⟩
    ·
     replace hsy1 := cT c3 hsy1
     refine avc_skip <| avc_sq2 <| avc_block <| avc_sq2 <| avc_sq ?_
     obtain ⟨t48, ht48, hsy1'⟩ := bE hsy1; clear hsy1
     refine sqa (m_index (en := eI) (lq rfl) S30 rfl rfl ht48) ?_
     refine sqa (m_loadE (en := eI) (l := t18.1) (i := v46) (v := t48) (off := 0) (lq rfl) O3 rfl ht48 rfl) ?_
     refine sqa (a_assign_d (lq rfl) rfl) ?_
     refine sq_nil <| avc_sq ?_
     refine sqa (a_move_d (lq rfl) rfl) ?_
     refine sqa (a_load_box (lq rfl) O95 rfl rfl rfl) ?_
     refine sqa (a_move_d (lq rfl) rfl) ?_
     obtain ⟨t53, ht53, hsy1⟩ := bE hsy1'; clear hsy1'
     refine sq_b rfl (g_callCN [(3002, 3002), (3003, 3003), (3004, 3004), (3005, 3005), (3140, 3140)] (ih ht53) (lq rfl) (by decide) rfl ⟨rfl, rfl, rfl, rfl, rfl, rfl, trivial⟩ rfl rfl ⟨rfl, rfl, rfl, rfl, rfl, trivial⟩ rfl rfl rfl rfl) ?_
     refine sqa (m_add (lq rfl) rfl rfl) ?_
     refine sqa (a_min (lq rfl) rfl rfl) ?_
     refine sqa (a_assign_d (lq rfl) rfl) ?_
     refine sq_nil <| avc_sq ?_
     refine sqa (m_add (lq rfl) rfl rfl) ?_
     refine sqa (a_move_d (lq rfl) rfl) ?_
     refine sq_nil ?_
     cases hsy1
     exact weak_cov ⟨rfl, rfl, rfl, rfl, rfl, rfl, rfl, rfl, rfl, trivial⟩ ⟨rfl, rfl, rfl, rfl, rfl, trivial⟩
    ·
     replace hsy1 := cF c3 hsy1
     refine avc_exit ?_
     cases hsy1
     intro q; cases q
     exact out_mk (weak_cov ⟨rfl, rfl, rfl, rfl, rfl, rfl, trivial⟩ ⟨rfl, rfl, rfl, rfl, rfl, trivial⟩)
   ·
    refine avc_sq2 <| avc_sq ?_
    refine sqa (a_load_box (lq rfl) O131 rfl rfl rfl) ?_
    refine sqa (a_move_d (lq rfl) rfl) ?_
    refine sqa (a_move_d (lq rfl) rfl) ?_
    refine sq_b rfl (m_mapUpdate (kv := kI) (ev := eI) (mp := y1.2.2.2) (k := a0) (v := y1.1) M131 K3 rfl rfl rfl rfl rfl rfl) ?_
    refine sq_nil <| avc_sq2 <| avc_sq ?_
    refine sqa (a_load_box (lq rfl) O4 rfl rfl rfl) ?_
    obtain ⟨b61, hb61, h⟩ := bE h'; clear h'
    refine sqa ((a_move_d (lq rfl) rfl).bool (Option.some.inj hb61)) ?_
    refine sq_g (x := .d (di y1.1)) rfl rfl rfl (lq rfl) (lq rfl) rfl (fun hb => by obtain rfl := gF hb; exact a_move_d (lq rfl) rfl) ?_
    refine sq_g (x := .d (db (decide (64 < y1.1)))) rfl rfl rfl (lq rfl) (lq rfl) rfl (fun hb => by obtain rfl := gF hb; exact a_gtr (lq rfl) rfl rfl) ?_
    refine sqa (a_pick_or (lq rfl) rfl rfl) ?_
    refine sq_b rfl (s_store_box_d O4 rfl rfl (lq rfl) rfl rfl rfl) ?_
    refine sq_nil <| avc_sq2 <| avc_sq ?_
    refine sqa (a_move_d (lq rfl) rfl) ?_
    refine sqa (a_assign_d (lq rfl) rfl) ?_
    refine sq_nil ?_
    cases h
    refine avc_ret ?_
    exact ⟨⟨_, _, rfl, rfl, rfl⟩, ⟨rfl, rfl, rfl, rfl, rfl, trivial⟩⟩
set_option maxHeartbeats 8000000 in
theorem decompose_measure_c  {a0 : Norm}  {r : Bool × Bool} (h : decompose_measure a0 = some r) : Contract Tryd.prog 71 [(eNorm.dv a0)] [(db r.1), (db r.2)] := by
 refine contract_of Tryd.func71 (by kernel_rfl) rfl (lq rfl) (lq rfl) fun w0 I0 hI0 hG0 => ?_
 unfold decompose_measure at h
 refine avc_sq2 <| avc_sq ?_
 refine sqa (m_box (size := 3) (lq rfl) rfl rfl) ?_
 refine sq_b rfl (step_alloc (zs := [(.bool false)]) (lq rfl) (by kernel_rfl) rfl rfl) ?_
 refine sq_b rfl (step_alloc (zs := [(.bool false)]) (lq rfl) (by kernel_rfl) rfl rfl) ?_
 refine sq_nil <| avc_sq2 <| avc_sq ?_
 refine sq_b rfl (m_makeMap (lq rfl) rfl) ?_
 refine sq_b rfl (step_alloc (zs := [(.map none)]) (lq rfl) (by kernel_rfl) rfl rfl) ?_
 refine sq_b rfl (s_store_box_row O131 rfl rfl (lq rfl) rfl rfl rfl) ?_
 refine sq_nil <| avc_sq2 <| avc_sq ?_
 refine sq_b rfl (step_alloc (zs := [.nilFunc]) (lq rfl) (by kernel_rfl) rfl rfl) ?_
 refine sq_nil <| avc_sq2 <| avc_sq ?_
 refine sqa (a_makeClo (cs := [.d (.pt (eNorm.cells a0)), .ptr 4 0, .ptr 2 0, .ptr 5 0, .ptr 3 0]) (lq rfl) ⟨_, _, rfl, rfl, ⟨_, _, rfl, rfl, ⟨_, _, rfl, rfl, ⟨_, _, rfl, rfl, ⟨_, _, rfl, rfl, rfl⟩⟩⟩⟩⟩) ?_
 refine sq_b rfl (s_store_box_av O95 rfl rfl (lq rfl) rfl rfl rfl rfl) ?_
 refine sq_nil <| avc_sq2 <| avc_sq2 <| avc_sq ?_
 refine sqa (m_fieldPt (lq rfl) L43_1 rfl) ?_
 refine sqa (a_load_ip (lq rfl) O38 rfl rfl) ?_
 refine sqa (m_len (en := eMapping) (l := a0.Decomp) (lq rfl) S38 rfl) ?_
 refine sqa (a_move_d (lq rfl) rfl) ?_
 refine sq_nil <| avc_block ?_
 obtain ⟨y1, hy1, h'⟩ := bE h; clear h
 refine avc_tail (e := (.exit 0)) (S2 := ⟨[(2, .ptr 2 0), (3, .ptr 3 0)], [(2, .box 4 [.d (db y1.1)]), (3, .box 4 [.d (db y1.2)])]⟩) ?_ ?_
 ·
  refine avc_loopM (fun x => ⟨[(2, .ptr 2 0), (3, .ptr 3 0), (5, .ptr 5 0), (11, .d (dsl eMapping a0.Decomp)), (12, .d (di (a0.Decomp.length : Int))), (13, .d (di x.1))], [(2, .box 4 [.d (db x.2.1)]), (3, .box 4 [.d (db x.2.2.1)]), (4, .box 131 [.row 8]), (5, .box 95 [.clo 86 [.d (.pt (eNorm.cells a0)), .ptr 4 0, .ptr 2 0, .ptr 5 0, .ptr 3 0]]), (8, .map (mapE kI eI x.2.2.2))]⟩) hy1 (weak_cov ⟨rfl, rfl, rfl, rfl, rfl, rfl, trivial⟩ ⟨rfl, rfl, rfl, rfl, rfl, trivial⟩) ?_
  rintro ⟨v13, k2_0, k3_0, r8⟩ sy1 hsy1
  replace hsy1 : decompose_measure_L0 a0 v13 k2_0 k3_0 r8 = some sy1 := hsy1
  unfold decompose_measure_L0 at hsy1
  refine avc_sq2 <| avc_sq ?_
  refine sqa (a_lss (lq rfl) rfl rfl) ?_
  refine sq_nil <| avc_sq2 ?_
  refine avc_if rfl ⟨fun c1 => ?_, fun c1 => ?_⟩
  ·
   replace hsy1 := cT c1 hsy1
   refine avc_skip <| avc_sq2 <| avc_block <| avc_sq2 <| avc_sq ?_
   obtain ⟨t15, ht15, hsy1'⟩ := bE hsy1; clear hsy1
   refine sqa (m_index (en := eMapping) (lq rfl) S38 rfl rfl ht15) ?_
   refine sqa (m_loadEA (en := eMapping) (l := a0.Decomp) (i := v13) (v := t15) (off := 0) (lq rfl) G109 rfl ht15 rfl rfl (by decide)) ?_
   refine sq_b rfl (step_alloc (zs := [(.int IntKind.i64 (0)), (.slice none 0 0), (.string ⟨#[]⟩)]) (lq rfl) (by kernel_rfl) rfl rfl) ?_
   refine sq_b rfl (s_store_boxA G109 rfl rfl rfl rfl rfl rfl) ?_
   refine sq_nil ?_
   refine avc_weak (weak_freeze (t := 7) (lq rfl) rfl rfl rfl) ?_
   refine avc_sq ?_
   refine sqa (a_load_box (lq rfl) O95 rfl rfl rfl) ?_
   refine sqa (m_fieldPt (lq rfl) L109_0 rfl) ?_
   refine sqa (a_load_ip (lq rfl) O3 rfl rfl) ?_
   obtain ⟨t20, ht20, hsy1⟩ := bE hsy1'; clear hsy1'
   refine sq_b rfl (g_callC [(3002, 4), (3003, 2), (3004, 5), (3005, 3), (3140, 8)] (decompose_measure_1_g _ ht20) (lq rfl) (by decide) rfl ⟨rfl, rfl, rfl, rfl, rfl, rfl, trivial⟩ rfl rfl ⟨rfl, rfl, rfl, rfl, rfl, trivial⟩ rfl rfl rfl (fun _ => rfl) rfl) ?_
   refine sq_nil <| avc_sq ?_
   refine sqa (m_add (lq rfl) rfl rfl) ?_
   refine sqa (a_move_d (lq rfl) rfl) ?_
   refine sq_nil ?_
   cases hsy1
   exact weak_cov ⟨rfl, rfl, rfl, rfl, rfl, rfl, trivial⟩ ⟨rfl, rfl, rfl, rfl, rfl, trivial⟩
  ·
   replace hsy1 := cF c1 hsy1
   refine avc_exit ?_
   cases hsy1
   intro q; cases q
   exact out_mk (weak_cov ⟨rfl, rfl, trivial⟩ ⟨rfl, rfl, trivial⟩)
 ·
  refine avc_sq2 ?_
  refine avc_tail (e := .normal) (S2 := ⟨[(2, .ptr 2 0), (3, .ptr 3 0)], [(2, .box 4 [.d (db y1.1)]), (3, .box 4 [.d (db y1.2)])]⟩) ?_ ?_
  ·
   refine avc_any MX ?_
   refine any_n [0, 1] (by kernel_rfl) rfl ?_
   refine any_a (i := 0) rfl rfl (a_load_box (lq rfl) O4 rfl rfl rfl) ?_ ?_
   ·
    refine any_n [1, 2] (by kernel_rfl) rfl ?_
    refine any_a (i := 1) rfl rfl (a_load_box (lq rfl) O4 rfl rfl rfl) ?_ ?_
    ·
     refine any_n [2] (by kernel_rfl) rfl ?_
     refine any_b (i := 2) rfl rfl (s_store_box_d O4 rfl rfl (lq rfl) rfl rfl rfl) ?_ ?_
     ·
      refine any_n [3] (by kernel_rfl) rfl ?_
      refine any_b (i := 3) rfl rfl (s_store_box_d O4 rfl rfl (lq rfl) rfl rfl rfl) ?_ ?_
      ·
       exact any_end rfl (out_mk (weak_cov ⟨rfl, rfl, trivial⟩ ⟨rfl, rfl, trivial⟩))
      ·
       exact any_nil
     ·
      exact any_nil
    refine any_b (i := 2) rfl rfl (s_store_box_d O4 rfl rfl (lq rfl) rfl rfl rfl) ?_ ?_
    ·
     refine any_n [1] (by kernel_rfl) rfl ?_
     refine any_a (i := 1) rfl rfl (a_load_box (lq rfl) O4 rfl rfl rfl) ?_ ?_
     ·
      refine any_n [3] (by kernel_rfl) rfl ?_
      refine any_b (i := 3) rfl rfl (s_store_box_d O4 rfl rfl (lq rfl) rfl rfl rfl) ?_ ?_
      ·
       exact any_end rfl (out_mk (weak_cov ⟨rfl, rfl, trivial⟩ ⟨rfl, rfl, trivial⟩))
      ·
       exact any_nil
     ·
      exact any_nil
    exact any_nil
   refine any_a (i := 1) rfl rfl (a_load_box (lq rfl) O4 rfl rfl rfl) ?_ ?_
   ·
    refine any_n [0] (by kernel_rfl) rfl ?_
    refine any_a (i := 0) rfl rfl (a_load_box (lq rfl) O4 rfl rfl rfl) ?_ ?_
    ·
     refine any_n [2] (by kernel_rfl) rfl ?_
     refine any_b (i := 2) rfl rfl (s_store_box_d O4 rfl rfl (lq rfl) rfl rfl rfl) ?_ ?_
     ·
      refine any_n [3] (by kernel_rfl) rfl ?_
      refine any_b (i := 3) rfl rfl (s_store_box_d O4 rfl rfl (lq rfl) rfl rfl rfl) ?_ ?_
      ·
       exact any_end rfl (out_mk (weak_cov ⟨rfl, rfl, trivial⟩ ⟨rfl, rfl, trivial⟩))
      ·
       exact any_nil
     ·
      exact any_nil
    ·
     exact any_nil
   exact any_nil
  cases h'
  refine avc_ret ?_
  exact ret_cells2 rfl rfl O4 rfl rfl O4
theorem decompose_Check_c  {a0 : Norm}  {r : Int} (h : decompose_Check a0 = some r) : Contract Tryd.prog 55 [(eNorm.dv a0)] [(di r)] := by
 refine contract_of Tryd.func55 (by kernel_rfl) rfl (lq rfl) (lq rfl) fun w0 I0 hI0 hG0 => ?_
 unfold decompose_Check at h
 refine avc_sq2 <| avc_sq ?_
 refine sqa (m_box (size := 3) (lq rfl) rfl rfl) ?_
 refine sqa (a_assign_d (lq rfl) rfl) ?_
 refine sq_nil <| avc_sq2 <| avc_sq2 <| avc_sq ?_
 refine sqa (m_fieldPt (lq rfl) L43_0 rfl) ?_
 refine sqa (a_load_ip (lq rfl) O37 rfl rfl) ?_
 obtain ⟨t15, ht15, h'⟩ := bE h; clear h
 refine sqa (a_call (lq rfl) rfl (ordering_Check_c ht15)) ?_
 refine sqa (a_assign_d (lq rfl) rfl) ?_
 refine sq_nil <| avc_sq2 <| avc_sq ?_
 refine sqa (a_move_d (lq rfl) rfl) ?_
 refine sqa (a_neq (lq rfl) rfl rfl) ?_
 refine sq_nil ?_
 refine avc_if rfl ⟨fun c1 => ?_, fun c1 => ?_⟩
 ·
  replace h' := cT c1 h'
  refine avc_sq2 <| avc_sq ?_
  refine sqa (a_move_d (lq rfl) rfl) ?_
  refine sqa (a_assign_d (lq rfl) rfl) ?_
  refine sq_nil ?_
  cases h'
  refine avc_ret ?_
  exact ret_1 rfl
 ·
  replace h' := cF c1 h'
  refine avc_skip <| avc_sq2 <| avc_sq2 <| avc_sq ?_
  refine sqa (m_fieldPt (lq rfl) L43_1 rfl) ?_
  refine sqa (a_load_ip (lq rfl) O38 rfl rfl) ?_
  obtain ⟨t21, ht21, h⟩ := bE h'; clear h'
  refine sqa (a_call (lq rfl) rfl (mapping_Check_c ht21)) ?_
  refine sqa (a_assign_d (lq rfl) rfl) ?_
  refine sq_nil <| avc_sq2 <| avc_sq ?_
  refine sqa (a_move_d (lq rfl) rfl) ?_
  refine sqa (a_neq (lq rfl) rfl rfl) ?_
  refine sq_nil ?_
  refine avc_if rfl ⟨fun c2 => ?_, fun c2 => ?_⟩
  ·
   replace h := cT c2 h
   refine avc_sq2 <| avc_sq ?_
   refine sqa (a_move_d (lq rfl) rfl) ?_
   refine sqa (a_assign_d (lq rfl) rfl) ?_
   refine sq_nil ?_
   cases h
   refine avc_ret ?_
   exact ret_1 rfl
  ·
   replace h := cF c2 h
   refine avc_skip <| avc_sq2 <| avc_sq2 <| avc_sq ?_
   refine sqa (m_fieldPt (lq rfl) L43_2 rfl) ?_
   refine sqa (a_load_ipA (lq rfl) G41 rfl rfl rfl) ?_
   obtain ⟨t27, ht27, h'⟩ := bE h; clear h
   refine sqa (a_call (lq rfl) rfl (cpset_Valid_c ht27)) ?_
   refine sqa (a_not (lq rfl) rfl) ?_
   refine sq_nil ?_
   refine avc_if rfl ⟨fun c3 => ?_, fun c3 => ?_⟩
   ·
    replace h' := cT c3 h'
    refine avc_sq2 <| avc_sq ?_
    refine sqa (a_assign_d (lq rfl) rfl) ?_
    refine sq_nil ?_
    cases h'
    refine avc_ret ?_
    exact ret_1 rfl
   ·
    replace h' := cF c3 h'
    refine avc_skip <| avc_sq2 <| avc_sq2 <| avc_sq ?_
    refine sqa (a_assign_d (lq rfl) rfl) ?_
    refine sq_nil <| avc_block ?_
    obtain ⟨y1, hy1, h⟩ := bE h'; clear h'
    refine avc_tail2 y1 (.exit 0) (fun y1 => ⟨[(1, .d (.pt (eNorm.cells a0)))], []⟩) .ret (fun y1 => ⟨[(2, .d (di y1))], []⟩) ?_ ?_ ?_
    ·
     refine avc_loopM (fun x => ⟨[(1, .d (.pt (eNorm.cells a0))), (5, .d (di x))], []⟩) hy1 (weak_cov ⟨rfl, rfl, trivial⟩ trivial) ?_
     rintro v5 sy1 hsy1
     replace hsy1 : decompose_Check_L0 a0 v5 = some sy1 := hsy1
     unfold decompose_Check_L0 at hsy1
     refine avc_sq2 <| avc_sq2 <| avc_sq ?_
     refine sqa (a_move_d (lq rfl) rfl) ?_
     refine sqa (m_fieldPt (lq rfl) L43_1 rfl) ?_
     refine sqa (a_load_ip (lq rfl) O38 rfl rfl) ?_
     refine sqa (m_len (en := eMapping) (l := a0.Decomp) (lq rfl) S38 rfl) ?_
     refine sqa (a_lss (lq rfl) rfl rfl) ?_
     refine sq_nil ?_
     refine avc_if rfl ⟨fun c4 => ?_, fun c4 => ?_⟩
     ·
      replace hsy1 := cT c4 hsy1
      refine avc_skip <| avc_sq2 <| avc_block <| avc_sq2 ?_
      refine avc_drawA MX rfl ?_
      refine daa (m_fieldPt (lq rfl) L43_1 rfl) ?_
      refine daa (a_load_ip (lq rfl) O38 rfl rfl) ?_
      refine daa (a_move_d (lq rfl) rfl) ?_
      obtain ⟨t39, ht39, hsy1'⟩ := bE hsy1; clear hsy1
      refine daa (m_index (en := eMapping) (lq rfl) S38 rfl rfl ht39) ?_
      refine daa (a_fieldAddr_ip (lq rfl) L109_0 rfl) ?_
      refine daa (m_loadE (en := eMapping) (l := a0.Decomp) (i := v5) (v := t39) (off := 0) (lq rfl) O3 rfl ht39 rfl) ?_
      refine daa (m_fieldPt (lq rfl) L43_1 rfl) ?_
      refine daa (a_load_ip (lq rfl) O38 rfl rfl) ?_
      refine daa (a_move_d (lq rfl) rfl) ?_
      refine daa (m_sub (lq rfl) rfl rfl) ?_
      obtain ⟨t46, ht46, hsy1⟩ := bE hsy1'; clear hsy1'
      refine daa (m_index (en := eMapping) (lq rfl) S38 rfl rfl ht46) ?_
      refine daa (a_fieldAddr_ip (lq rfl) L109_0 rfl) ?_
      refine daa (m_loadE (en := eMapping) (l := a0.Decomp) (i := (wi (v5 - 1))) (v := t46) (off := 0) (lq rfl) O3 rfl ht46 rfl) ?_
      refine daa (a_eql (lq rfl) rfl rfl) ?_
      refine da_nil ?_
      refine avc_if rfl ⟨fun c5 => ?_, fun c5 => ?_⟩
      ·
       replace hsy1 := cT c5 hsy1
       refine avc_sq2 <| avc_sq ?_
       refine sqa (a_assign_d (lq rfl) rfl) ?_
       refine sq_nil ?_
       refine avc_ret ?_
       cases hsy1
       intro q; cases q
       exact ⟨rfl, weak_cov ⟨rfl, trivial⟩ trivial⟩
      ·
       replace hsy1 := cF c5 hsy1
       refine avc_skip <| avc_sq ?_
       refine sqa (a_move_d (lq rfl) rfl) ?_
       refine sqa (m_add (lq rfl) rfl rfl) ?_
       refine sqa (a_assign_d (lq rfl) rfl) ?_
       refine sq_nil ?_
       cases hsy1
       exact weak_cov ⟨rfl, rfl, trivial⟩ trivial
     ·
      replace hsy1 := cF c4 hsy1
      refine avc_exit ?_
      cases hsy1
      intro q; cases q
      exact ⟨rfl, weak_cov ⟨rfl, trivial⟩ trivial⟩
    ·
     rintro y1 rfl
     replace h := eL h
     refine avc_sq2 <| avc_sq2 <| avc_sq ?_
     refine sqa (m_fieldPt (lq rfl) L43_1 rfl) ?_
     refine sqa (a_load_ip (lq rfl) O38 rfl rfl) ?_
     refine sqa (m_len (en := eMapping) (l := a0.Decomp) (lq rfl) S38 rfl) ?_
     refine sqa (a_move_d (lq rfl) rfl) ?_
     refine sq_nil <| avc_block ?_
     obtain ⟨y2, hy2, h'⟩ := bE h; clear h
     refine avc_tail2 y2 (.exit 2) (fun y2 => ⟨[(1, .d (.pt (eNorm.cells a0)))], []⟩) .ret (fun y2 => ⟨[(2, .d (di y2))], []⟩) ?_ ?_ ?_
     ·
      refine avc_loopM (fun x => ⟨[(1, .d (.pt (eNorm.cells a0))), (51, .d (dsl eMapping a0.Decomp)), (52, .d (di (a0.Decomp.length : Int))), (53, .d (di x))], []⟩) hy2 (weak_cov ⟨rfl, rfl, rfl, rfl, trivial⟩ trivial) ?_
      rintro v53 sy2 hsy2
      replace hsy2 : decompose_Check_L1 a0 v53 = some sy2 := hsy2
      unfold decompose_Check_L1 at hsy2
      refine avc_sq2 <| avc_sq ?_
      refine sqa (a_lss (lq rfl) rfl rfl) ?_
      refine sq_nil <| avc_sq2 ?_
      refine avc_if rfl ⟨fun c6 => ?_, fun c6 => ?_⟩
      ·
       replace hsy2 := cT c6 hsy2
       refine avc_skip <| avc_sq2 <| avc_block <| avc_sq2 <| avc_sq ?_
       obtain ⟨t55, ht55, hsy2'⟩ := bE hsy2; clear hsy2
       refine sqa (m_index (en := eMapping) (lq rfl) S38 rfl rfl ht55) ?_
       refine sqa (m_loadEA (en := eMapping) (l := a0.Decomp) (i := v53) (v := t55) (off := 0) (lq rfl) G109 rfl ht55 rfl rfl (by decide)) ?_
       refine sq_b rfl (step_alloc (zs := [(.int IntKind.i64 (0)), (.slice none 0 0), (.string ⟨#[]⟩)]) (lq rfl) (by kernel_rfl) rfl rfl) ?_
       refine sq_b rfl (s_store_boxA G109 rfl rfl rfl rfl rfl rfl) ?_
       refine sq_nil ?_
       refine avc_weak (weak_freeze (t := 7) (lq rfl) rfl rfl rfl) ?_
       refine avc_sq2 <| avc_sq ?_
       refine sqa (m_fieldPt (lq rfl) L109_2 rfl) ?_
       refine sqa (a_load_ip (lq rfl) O9 rfl rfl) ?_
       refine sqa (m_seql (a := t55.Tag) (b := []) (lq rfl) rfl rfl) ?_
       obtain ⟨b60, hb60, hsy2⟩ := bE hsy2'; clear hsy2'
       refine sqa ((a_move_d (lq rfl) rfl).bool (Option.some.inj hb60)) ?_
       refine sq_g (x := .ip (eMapping.cells t55) (0 + 1)) rfl rfl rfl (lq rfl) (lq rfl) rfl (fun hb => by obtain rfl : b60 = true := hb; exact m_fieldPt (lq rfl) L109_1 rfl) ?_
       refine sq_g (x := .d (dsl eI t55.To)) rfl rfl rfl (lq rfl) (lq rfl) rfl (fun hb => by obtain rfl : b60 = true := hb; exact a_load_ip (lq rfl) O30 rfl rfl) ?_
       refine sq_g (x := .d (di (t55.To.length : Int))) rfl rfl rfl (lq rfl) (lq rfl) rfl (fun hb => by obtain rfl : b60 = true := hb; exact m_len (en := eI) (l := t55.To) (lq rfl) S30 rfl) ?_
       refine sq_g (x := .d (db (!decide ((t55.To.length : Int) = 1)))) rfl rfl rfl (lq rfl) (lq rfl) rfl (fun hb => by obtain rfl : b60 = true := hb; exact a_neq (lq rfl) rfl rfl) ?_
       refine sqa (a_pick_and (lq rfl) rfl rfl) ?_
       obtain ⟨b66, hb66, hsy2'⟩ := bE hsy2; clear hsy2
       refine sqa ((a_move_d (lq rfl) rfl).bool (Option.some.inj hb66)) ?_
       refine sq_g (x := .ip (eMapping.cells t55) (0 + 1)) rfl rfl rfl (lq rfl) (lq rfl) rfl (fun hb => by obtain rfl : b66 = true := hb; exact m_fieldPt (lq rfl) L109_1 rfl) ?_
       refine sq_g (x := .d (dsl eI t55.To)) rfl rfl rfl (lq rfl) (lq rfl) rfl (fun hb => by obtain rfl : b66 = true := hb; exact a_load_ip (lq rfl) O30 rfl rfl) ?_
       refine sq_g (x := .d (di (t55.To.length : Int))) rfl rfl rfl (lq rfl) (lq rfl) rfl (fun hb => by obtain rfl : b66 = true := hb; exact m_len (en := eI) (l := t55.To) (lq rfl) S30 rfl) ?_
       refine sq_g (x := .d (db (!decide ((t55.To.length : Int) = 2)))) rfl rfl rfl (lq rfl) (lq rfl) rfl (fun hb => by obtain rfl : b66 = true := hb; exact a_neq (lq rfl) rfl rfl) ?_
       refine sqa (a_pick_and (lq rfl) rfl rfl) ?_
       refine sq_nil ?_
       refine avc_if rfl ⟨fun c7 => ?_, fun c7 => ?_⟩
       ·
        replace hsy2' := cT c7 hsy2'
        refine avc_sq2 <| avc_sq ?_
        refine sqa (a_assign_d (lq rfl) rfl) ?_
        refine sq_nil ?_
        refine avc_ret ?_
        cases hsy2'
        intro q; cases q
        exact ⟨rfl, weak_cov ⟨rfl, trivial⟩ trivial⟩
       ·
        replace hsy2' := cF c7 hsy2'
        refine avc_skip <| avc_sq ?_
        refine sqa (m_add (lq rfl) rfl rfl) ?_
        refine sqa (a_move_d (lq rfl) rfl) ?_
        refine sq_nil ?_
        cases hsy2'
        exact weak_cov ⟨rfl, rfl, rfl, rfl, trivial⟩ trivial
      ·
       replace hsy2 := cF c6 hsy2
       refine avc_exit ?_
       cases hsy2
       intro q; cases q
       exact ⟨rfl, weak_cov ⟨rfl, trivial⟩ trivial⟩
     ·
      rintro y2 rfl
      replace h' := eL h'
      refine avc_sq2 <| avc_sq ?_
      refine sqa (a_assign_d (lq rfl) rfl) ?_
      refine sq_nil ?_
      refine avc_weak (weak_nil (t := 8) 1008 3 eI.size (lq rfl) (lq rfl) rfl rfl) ?_
      refine avc_sq2 <| avc_sq2 <| avc_sq ?_
      refine sqa (m_fieldPt (lq rfl) L43_1 rfl) ?_
      refine sqa (a_load_ip (lq rfl) O38 rfl rfl) ?_
      refine sqa (m_len (en := eMapping) (l := a0.Decomp) (lq rfl) S38 rfl) ?_
      refine sqa (a_move_d (lq rfl) rfl) ?_
      refine sq_nil <| avc_block ?_
      obtain ⟨y3, hy3, h⟩ := bE h'; clear h'
      refine avc_tail2 y3 (.exit 4) (fun y3 => ⟨[(1, .d (.pt (eNorm.cells a0))), (8, .row 1008)], [(1008, .row 3 eI.size false (eI.all y3))]⟩) .ret (fun y3 => ⟨[(2, .d (di y3))], []⟩) ?_ ?_ ?_
      ·
       refine avc_loopM (fun x => ⟨[(1, .d (.pt (eNorm.cells a0))), (8, .row 1008), (74, .d (dsl eMapping a0.Decomp)), (75, .d (di (a0.Decomp.length : Int))), (76, .d (di x.1))], [(1008, .row 3 eI.size false (eI.all x.2))]⟩) hy3 (weak_cov ⟨rfl, rfl, rfl, rfl, rfl, trivial⟩ ⟨rfl, trivial⟩) ?_
       rintro ⟨v76, r1008⟩ sy3 hsy3
       replace hsy3 : decompose_Check_L2 a0 v76 r1008 = some sy3 := hsy3
       unfold decompose_Check_L2 at hsy3
       refine avc_sq2 <| avc_sq ?_
       refine sqa (a_lss (lq rfl) rfl rfl) ?_
       refine sq_nil <| avc_sq2 ?_
       refine avc_if rfl ⟨fun c8 => ?_, fun c8 => ?_⟩
       ·
        replace hsy3 := cT c8 hsy3
        refine avc_skip <| avc_sq2 ?_
        obtain ⟨y4, hy4, hsy3'⟩ := bE hsy3; clear hsy3
        refine avc_tail2 y4 .normal (fun y4 => ⟨[(1, .d (.pt (eNorm.cells a0))), (8, .row 1008), (74, .d (dsl eMapping a0.Decomp)), (75, .d (di (a0.Decomp.length : Int))), (76, .d (di v76))], [(1008, .row 3 eI.size false (eI.all y4))]⟩) .ret (fun y4 => ⟨[(2, .d (di 11))], []⟩) ?_ ?_ ?_
        ·
         refine avc_block <| avc_sq2 <| avc_sq ?_
         obtain ⟨t78, ht78, hy4'⟩ := bE hy4; clear hy4
         refine sqa (m_index (en := eMapping) (lq rfl) S38 rfl rfl ht78) ?_
         refine sqa (m_loadEA (en := eMapping) (l := a0.Decomp) (i := v76) (v := t78) (off := 0) (lq rfl) G109 rfl ht78 rfl rfl (by decide)) ?_
         refine sq_b rfl (step_alloc (zs := [(.int IntKind.i64 (0)), (.slice none 0 0), (.string ⟨#[]⟩)]) (lq rfl) (by kernel_rfl) rfl rfl) ?_
         refine sq_b rfl (s_store_boxA G109 rfl rfl rfl rfl rfl rfl) ?_
         refine sq_nil ?_
         refine avc_weak (weak_freeze (t := 10) (lq rfl) rfl rfl rfl) ?_
         refine avc_sq2 <| avc_sq2 <| avc_sq ?_
         refine sqa (m_fieldPt (lq rfl) L109_0 rfl) ?_
         refine sqa (a_load_ip (lq rfl) O3 rfl rfl) ?_
         obtain ⟨t82, ht82, hy4⟩ := bE hy4'; clear hy4'
         refine sqa (a_call (lq rfl) rfl (hangul_Kind_c ht82)) ?_
         refine sqa (a_neq (lq rfl) rfl rfl) ?_
         refine sq_nil ?_
         refine avc_if rfl ⟨fun c9 => ?_, fun c9 => ?_⟩
         ·
          replace hy4 := cT c9 hy4
          refine avc_sq2 <| avc_sq ?_
          refine sqa (a_assign_d (lq rfl) rfl) ?_
          refine sq_nil ?_
          refine avc_ret ?_
          cases hy4
          exact ⟨rfl, weak_cov ⟨rfl, trivial⟩ trivial⟩
         ·
          replace hy4 := cF c9 hy4
          refine avc_skip <| avc_sq2 <| avc_sq ?_
          refine sqa (m_fieldPt (lq rfl) L109_2 rfl) ?_
          refine sqa (a_load_ip (lq rfl) O9 rfl rfl) ?_
          refine sqa (m_sneq (a := t78.Tag) (b := []) (lq rfl) rfl rfl) ?_
          refine sq_nil ?_
          refine avc_if rfl ⟨fun c10 => ?_, fun c10 => ?_⟩
          ·
           replace hy4 := cT c10 hy4
           refine avc_sq ?_
           refine sqa (a_move_row (lq rfl) rfl) ?_
           refine sqa (m_fieldPt (lq rfl) L109_0 rfl) ?_
           refine sqa (a_load_ip (lq rfl) O3 rfl rfl) ?_
           refine sqa (a_lit (lq rfl) S30 rfl rfl rfl rfl (by decide) rfl) ?_
           obtain ⟨r1008_5, hr1008_5, hy4'⟩ := bE hy4; clear hy4
           refine sq_b rfl (m_append (en := eI) (l := r1008) (m := [t78.From]) (lq rfl) S30 rfl rfl rfl hr1008_5 (by decide) (by decide) rfl rfl) ?_
           refine sqa (a_assign_row (lq rfl) rfl) ?_
           refine sq_nil ?_
           cases hy4'
           exact ⟨rfl, weak_cov ⟨rfl, rfl, rfl, rfl, rfl, trivial⟩ ⟨rfl, trivial⟩⟩
          ·
           replace hy4 := cF c10 hy4
           refine avc_skip ?_
           cases hy4
           exact ⟨rfl, weak_cov ⟨rfl, rfl, rfl, rfl, rfl, trivial⟩ ⟨rfl, trivial⟩⟩
        ·
         rintro y4 rfl
         replace hsy3' := eL hsy3'
         refine avc_sq ?_
         refine sqa (m_add (lq rfl) rfl rfl) ?_
         refine sqa (a_move_d (lq rfl) rfl) ?_
         refine sq_nil ?_
         cases hsy3'
         exact weak_cov ⟨rfl, rfl, rfl, rfl, rfl, trivial⟩ ⟨rfl, trivial⟩
        ·
         rintro y4 rfl
         replace hsy3' := eR hsy3'
         cases hsy3'
         intro q; cases q
         exact ⟨rfl, weak_cov ⟨rfl, trivial⟩ trivial⟩
       ·
        replace hsy3 := cF c8 hsy3
        refine avc_exit ?_
        cases hsy3
        intro q; cases q
        exact ⟨rfl, weak_cov ⟨rfl, rfl, trivial⟩ ⟨rfl, trivial⟩⟩
      ·
       rintro y3 rfl
       replace h := eL h
       refine avc_sq2 <| avc_sq2 <| avc_sq ?_
       refine sqa (m_fieldPt (lq rfl) L43_0 rfl) ?_
       refine sqa (a_load_ip (lq rfl) O37 rfl rfl) ?_
       refine sqa (a_move_row (lq rfl) rfl) ?_
       obtain ⟨t96, ht96, h'⟩ := bE h; clear h
       refine sq_b rfl (s_call (lq rfl) rfl rfl (ordering_Runs_c ht96)) ?_
       refine sqa (m_len (en := eRange) (l := t96) (lq rfl) S39 rfl) ?_
       refine sqa (a_gtr (lq rfl) rfl rfl) ?_
       refine sq_nil ?_
       refine avc_if rfl ⟨fun c11 => ?_, fun c11 => ?_⟩
       ·
        replace h' := cT c11 h'
        refine avc_sq2 <| avc_sq ?_
        refine sqa (a_assign_d (lq rfl) rfl) ?_
        refine sq_nil ?_
        cases h'
        refine avc_ret ?_
        exact ret_1 rfl
       ·
        replace h' := cF c11 h'
        refine avc_skip <| avc_sq2 <| avc_sq ?_
        refine sqa (m_loadPt (lq rfl) G43 rfl rfl) ?_
        obtain ⟨t101, ht101, h⟩ := bE h'; clear h'
        refine sqa (a_call (lq rfl) rfl (decompose_measure_c ht101)) ?_
        refine sqa (a_move_tup (lq rfl) rfl) ?_
        refine sqa (a_extract (lq rfl) rfl rfl) ?_
        refine sqa (a_extract (lq rfl) rfl rfl) ?_
        refine sqa (a_assign_d (lq rfl) rfl) ?_
        refine sqa (a_assign_d (lq rfl) rfl) ?_
        refine sq_nil <| avc_sq2 <| avc_block <| avc_sq2 <| avc_sq ?_
        refine sqa (a_move_d (lq rfl) rfl) ?_
        refine sqa (a_assign_d (lq rfl) rfl) ?_
        refine sq_nil ?_
        refine avc_if rfl ⟨fun c12 => ?_, fun c12 => ?_⟩
        ·
         replace h := cT c12 h
         refine avc_sq2 <| avc_sq ?_
         refine sqa (a_assign_d (lq rfl) rfl) ?_
         refine sq_nil ?_
         cases h
         refine avc_ret ?_
         exact ret_1 rfl
        ·
         replace h := cF c12 h
         refine avc_sq2 <| avc_sq ?_
         refine sqa (a_move_d (lq rfl) rfl) ?_
         refine sqa (a_assign_d (lq rfl) rfl) ?_
         refine sq_nil ?_
         refine avc_if rfl ⟨fun c13 => ?_, fun c13 => ?_⟩
         ·
          replace h := cT c13 h
          refine avc_sq2 <| avc_sq ?_
          refine sqa (a_assign_d (lq rfl) rfl) ?_
          refine sq_nil ?_
          cases h
          refine avc_ret ?_
          exact ret_1 rfl
         ·
          replace h := cF c13 h
          refine avc_skip <| avc_sq2 <| avc_sq ?_
          refine sqa (a_assign_d (lq rfl) rfl) ?_
          refine sq_nil ?_
          cases h
          refine avc_ret ?_
          exact ret_1 rfl
      ·
       rintro y3 rfl
       replace h := eR h
       cases h
       exact ret_1 rfl
     ·
      rintro y2 rfl
      replace h' := eR h'
      cases h'
      exact ret_1 rfl
    ·
     rintro y1 rfl
     replace h := eR h
     cases h
     exact ret_1 rfl
theorem colltable_table_with_g  {a0 : Colltable_table} {a1 : Norm}  {r : Colltable_table} (h : colltable_table_with a0 a1 = some r) : GC Tryd.prog 39 [.ptr 3000 0, .d (eNorm.dv a1)] [(3000, .box 87 [.d (dsl eEntry a0.c.Entries), .d (dsl eGroup a0.c.Groups), .d (di a0.c.Base), .d (di a0.c.Second), .d (di a0.c.Third), .row 3105, .d (di a0.longest), .d (dsl eSpan a0.classes), .d (di a0.top)]), (3105, .map (mapE kA9Int (eL eElement) a0.entries))] [3000, 3105] [.ptr 3000 0] [(3000, .box 87 [.d (dsl eEntry r.c.Entries), .d (dsl eGroup r.c.Groups), .d (di r.c.Base), .d (di r.c.Second), .d (di r.c.Third), .row 3105, .d (di r.longest), .d (dsl eSpan r.classes), .d (di r.top)]), (3105, .map (mapE kA9Int (eL eElement) r.entries))] := by
 refine gc_of Tryd.func39 (by kernel_rfl) rfl (lq rfl) (lq rfl) fun w0 I0 hG0 p0 => ?_
 unfold colltable_table_with at h
 refine avc_sq2 <| avc_sq ?_
 refine sqa (m_box (size := 3) (lq rfl) rfl rfl) ?_
 refine sqa (a_assign_d (lq rfl) rfl) ?_
 refine sq_nil <| avc_sq2 <| avc_sq2 <| avc_sq ?_
 refine sqa (m_loadPt (lq rfl) G43 rfl rfl) ?_
 obtain ⟨t8, ht8, h'⟩ := bE h; clear h
 refine sqa (a_call (lq rfl) rfl (decompose_Check_c ht8)) ?_
 refine sqa (a_eql (lq rfl) rfl rfl) ?_
 refine sq_nil ?_
 obtain ⟨y1, hy1, h⟩ := bE h'; clear h'
 refine avc_tail (e := .normal) (S2 := ⟨[(0, .ptr 3000 0)], [(3000, .box 87 [.d (dsl eEntry a0.c.Entries), .d (dsl eGroup a0.c.Groups), .d (di a0.c.Base), .d (di a0.c.Second), .d (di a0.c.Third), .row 3105, .d (di a0.longest), .d (dsl eSpan y1), .d (di a0.top)]), (3105, .map (mapE kA9Int (eL eElement) a0.entries))]⟩) ?_ ?_
 ·
  refine avc_if rfl ⟨fun c1 => ?_, fun c1 => ?_⟩
  ·
   replace hy1 := cT c1 hy1
   refine avc_sq ?_
   refine sqa (a_move_ptr (lq rfl) rfl) ?_
   refine sqa (m_fieldPt (lq rfl) L43_0 rfl) ?_
   refine sqa (a_load_ip (lq rfl) O37 rfl rfl) ?_
   refine sqa (a_nil_ptr (lq rfl) rfl) ?_
   refine sqa (a_fieldAddr_ptr (lq rfl) L87_3 rfl) ?_
   refine sq_b rfl (s_store_box_d O37 rfl rfl (lq rfl) rfl rfl rfl) ?_
   refine sq_nil ?_
   cases hy1
   exact out_mk (weak_cov ⟨rfl, trivial⟩ ⟨rfl, rfl, trivial⟩)
  ·
   replace hy1 := cF c1 hy1
   refine avc_skip ?_
   cases hy1
   exact out_mk (weak_cov ⟨rfl, trivial⟩ ⟨rfl, rfl, trivial⟩)
 ·
  refine avc_sq2 <| avc_sq2 <| avc_sq ?_
  refine sqa (a_move_ptr (lq rfl) rfl) ?_
  refine sqa (a_nil_ptr (lq rfl) rfl) ?_
  refine sqa (a_fieldAddr_ptr (lq rfl) L87_3 rfl) ?_
  refine sqa (a_load_box (lq rfl) O37 rfl rfl rfl) ?_
  refine sqa (m_len (en := eSpan) (l := y1) (lq rfl) S37 rfl) ?_
  refine sqa (a_move_d (lq rfl) rfl) ?_
  refine sq_nil <| avc_block ?_
  obtain ⟨y2, hy2, h'⟩ := bE h; clear h
  refine avc_tail (e := (.exit 0)) (S2 := ⟨[(0, .ptr 3000 0)], [(3000, .box 87 [.d (dsl eEntry a0.c.Entries), .d (dsl eGroup a0.c.Groups), .d (di a0.c.Base), .d (di a0.c.Second), .d (di a0.c.Third), .row 3105, .d (di a0.longest), .d (dsl eSpan y1), .d (di y2)]), (3105, .map (mapE kA9Int (eL eElement) a0.entries))]⟩) ?_ ?_
  ·
   refine avc_loopM (fun x => ⟨[(0, .ptr 3000 0), (18, .d (dsl eSpan y1)), (19, .d (di (y1.length : Int))), (20, .d (di x.1))], [(3000, .box 87 [.d (dsl eEntry a0.c.Entries), .d (dsl eGroup a0.c.Groups), .d (di a0.c.Base), .d (di a0.c.Second), .d (di a0.c.Third), .row 3105, .d (di a0.longest), .d (dsl eSpan y1), .d (di x.2)]), (3105, .map (mapE kA9Int (eL eElement) a0.entries))]⟩) hy2 (weak_cov ⟨rfl, rfl, rfl, rfl, trivial⟩ ⟨rfl, rfl, trivial⟩) ?_
   rintro ⟨v20, k3000_8⟩ sy2 hsy2
   replace hsy2 : colltable_table_with_L0 y1 v20 k3000_8 = some sy2 := hsy2
   unfold colltable_table_with_L0 at hsy2
   refine avc_sq2 <| avc_sq ?_
   refine sqa (a_lss (lq rfl) rfl rfl) ?_
   refine sq_nil <| avc_sq2 ?_
   refine avc_if rfl ⟨fun c2 => ?_, fun c2 => ?_⟩
   ·
    replace hsy2 := cT c2 hsy2
    refine avc_skip <| avc_sq2 <| avc_block <| avc_sq2 <| avc_sq ?_
    obtain ⟨t22, ht22, hsy2'⟩ := bE hsy2; clear hsy2
    refine sqa (m_index (en := eSpan) (lq rfl) S37 rfl rfl ht22) ?_
    refine sqa (m_loadEA (en := eSpan) (l := y1) (i := v20) (v := t22) (off := 0) (lq rfl) G61 rfl ht22 rfl rfl (by decide)) ?_
    refine sq_b rfl (step_alloc (zs := [(.int IntKind.i64 (0)), (.int IntKind.i64 (0)), (.int IntKind.i64 (0))]) (lq rfl) (by kernel_rfl) rfl rfl) ?_
    refine sq_b rfl (s_store_boxA G61 rfl rfl rfl rfl rfl rfl) ?_
    refine sq_nil ?_
    refine avc_weak (weak_freeze (t := 6) (lq rfl) rfl rfl rfl) ?_
    refine avc_draw 10 MX rfl ?_
    refine daa (a_move_ptr (lq rfl) rfl) ?_
    refine daa (a_move_ptr (lq rfl) rfl) ?_
    refine daa (a_nil_ptr (lq rfl) rfl) ?_
    refine daa (a_fieldAddr_ptr (lq rfl) L87_4 rfl) ?_
    refine daa (a_load_box (lq rfl) O3 rfl rfl rfl) ?_
    refine daa (m_fieldPt (lq rfl) L61_2 rfl) ?_
    refine daa (a_load_ip (lq rfl) O3 rfl rfl) ?_
    refine daa (a_max (lq rfl) rfl rfl) ?_
    refine daa (a_nil_ptr (lq rfl) rfl) ?_
    refine daa (a_fieldAddr_ptr (lq rfl) L87_4 rfl) ?_
    refine da_nil ?_
    refine sq_b rfl (s_store_box_d O3 rfl rfl (lq rfl) rfl rfl rfl) ?_
    refine sq_nil <| avc_sq ?_
    refine sqa (m_add (lq rfl) rfl rfl) ?_
    refine sqa (a_move_d (lq rfl) rfl) ?_
    refine sq_nil ?_
    cases hsy2'
    exact weak_cov ⟨rfl, rfl, rfl, rfl, trivial⟩ ⟨rfl, rfl, trivial⟩
   ·
    replace hsy2 := cF c2 hsy2
    refine avc_exit ?_
    cases hsy2
    intro q; cases q
    exact out_mk (weak_cov ⟨rfl, trivial⟩ ⟨rfl, rfl, trivial⟩)
  ·
   refine avc_sq2 <| avc_sq ?_
   refine sqa (a_move_ptr (lq rfl) rfl) ?_
   refine sqa (a_assign_ptr (lq rfl) rfl) ?_
   refine sq_nil ?_
   cases h'
   refine avc_ret ?_
   exact ⟨⟨_, _, rfl, rfl, rfl⟩, ⟨rfl, rfl, trivial⟩⟩
theorem colltable_table_find_c  {a0 : Colltable_table} {a1 : (List Int)}  {r : (List Element) × Bool} (h : colltable_table_find a0 a1 = some r) : Contract Tryd.prog 31 [(.pt (eColltable_table.cells a0)), (dsl eI a1)] [(dsl eElement r.1), (db r.2)] := by
 refine contract_of Tryd.func31 (by kernel_rfl) rfl (lq rfl) (lq rfl) fun w0 I0 hI0 hG0 => ?_
 unfold colltable_table_find at h
 refine avc_sq2 <| avc_sq ?_
 refine sqa (a_assign_d (lq rfl) rfl) ?_
 refine sqa (a_assign_d (lq rfl) rfl) ?_
 refine sq_nil <| avc_sq2 <| avc_sq2 <| avc_sq ?_
 refine sqa (a_move_d (lq rfl) rfl) ?_
 refine sqa (m_len (en := eI) (l := a1) (lq rfl) S30 rfl) ?_
 refine sqa (a_eql (lq rfl) rfl rfl) ?_
 obtain ⟨b11, hb11, h'⟩ := bE h; clear h
 refine sqa ((a_move_d (lq rfl) rfl).bool (Option.some.inj hb11)) ?_
 refine sq_g (x := .d (dsl eI a1)) rfl rfl rfl (lq rfl) (lq rfl) rfl (fun hb => by obtain rfl := gF hb; exact a_move_d (lq rfl) rfl) ?_
 refine sq_g (x := .d (di (a1.length : Int))) rfl rfl rfl (lq rfl) (lq rfl) rfl (fun hb => by obtain rfl := gF hb; exact m_len (en := eI) (l := a1) (lq rfl) S30 rfl) ?_
 refine sq_g (x := .d (.pt (eColltable_table.cells a0))) rfl rfl rfl (lq rfl) (lq rfl) rfl (fun hb => by obtain rfl := gF hb; exact a_move_d (lq rfl) rfl) ?_
 refine sq_g (x := .d (.pt (eColltable_table.cells a0))) rfl rfl rfl (lq rfl) (lq rfl) rfl (fun hb => by obtain rfl := gF hb; exact a_nil_pt (lq rfl) rfl) ?_
 refine sq_g (x := .ip (eColltable_table.cells a0) (0 + 6)) rfl rfl rfl (lq rfl) (lq rfl) rfl (fun hb => by obtain rfl := gF hb; exact m_fieldPt (lq rfl) L87_2 rfl) ?_
 refine sq_g (x := .d (di a0.longest)) rfl rfl rfl (lq rfl) (lq rfl) rfl (fun hb => by obtain rfl := gF hb; exact a_load_ip (lq rfl) O3 rfl rfl) ?_
 refine sq_g (x := .d (db (decide (a0.longest < (a1.length : Int))))) rfl rfl rfl (lq rfl) (lq rfl) rfl (fun hb => by obtain rfl := gF hb; exact a_gtr (lq rfl) rfl rfl) ?_
 refine sqa (a_pick_or (lq rfl) rfl rfl) ?_
 refine sq_nil ?_
 refine avc_if rfl ⟨fun c1 => ?_, fun c1 => ?_⟩
 ·
  replace h' := cT c1 h'
  refine avc_sq2 <| avc_sq ?_
  refine sqa (a_assign_d (lq rfl) rfl) ?_
  refine sqa (a_assign_d (lq rfl) rfl) ?_
  refine sq_nil ?_
  refine avc_weak (weak_nil_d (t := 4) eElement.size (lq rfl) rfl) ?_
  cases h'
  refine avc_ret ?_
  exact ret_two rfl rfl
 ·
  replace h' := cF c1 h'
  refine avc_skip <| avc_sq2 ?_
  refine avc_drawA MX rfl ?_
  refine daa (a_move_d (lq rfl) rfl) ?_
  refine daa (a_nil_pt (lq rfl) rfl) ?_
  refine daa (m_fieldPt (lq rfl) L87_1 rfl) ?_
  refine daa (a_load_ip (lq rfl) O85 rfl rfl) ?_
  refine daa (a_move_d (lq rfl) rfl) ?_
  obtain ⟨t26, ht26, h⟩ := bE h'; clear h'
  refine daa (a_call (lq rfl) rfl (colltable_keyOf_c ht26)) ?_
  refine daa (m_lookup2F (kv := kA9Int) (ev := (eL eElement)) (mp := a0.entries) (k := t26) (zero := []) (lq rfl) M85 K89 rfl rfl (kAgg rfl) (fun _ _ => .nil _ _ _)) ?_
  refine daa (a_move_tup (lq rfl) rfl) ?_
  refine daa (a_extract (lq rfl) rfl rfl) ?_
  refine daa (a_extract (lq rfl) rfl rfl) ?_
  refine daa (a_assign_d (lq rfl) rfl) ?_
  refine daa (a_assign_d (lq rfl) rfl) ?_
  refine da_nil ?_
  refine avc_sq2 <| avc_sq ?_
  refine sqa (a_move_d (lq rfl) rfl) ?_
  refine sqa (a_move_d (lq rfl) rfl) ?_
  refine sqa (a_assign_d (lq rfl) rfl) ?_
  refine sqa (a_assign_d (lq rfl) rfl) ?_
  refine sq_nil ?_
  cases h
  refine avc_ret ?_
  exact ret_two rfl rfl
theorem colltable_table_implicit_c  {a0 : Colltable_table} {a1 : Int}  {r : (List Element)} (h : colltable_table_implicit a0 a1 = some r) : Contract Tryd.prog 35 [(.pt (eColltable_table.cells a0)), (di a1)] [(dsl eElement r)] := by
 refine contract_of Tryd.func35 (by kernel_rfl) rfl (lq rfl) (lq rfl) fun w0 I0 hI0 hG0 => ?_
 unfold colltable_table_implicit at h
 refine avc_sq2 <| avc_sq ?_
 refine sqa (a_assign_d (lq rfl) rfl) ?_
 refine sq_nil <| avc_sq2 <| avc_sq2 <| avc_sq ?_
 refine sqa (a_move_d (lq rfl) rfl) ?_
 obtain ⟨t6, ht6, h'⟩ := bE h; clear h
 refine sqa (a_call (lq rfl) rfl (codepoint_Valid_c ht6)) ?_
 refine sqa (a_not (lq rfl) rfl) ?_
 refine sq_nil ?_
 refine avc_if rfl ⟨fun c1 => ?_, fun c1 => ?_⟩
 ·
  replace h' := cT c1 h'
  refine avc_sq2 <| avc_sq ?_
  refine sqa (a_assign_d (lq rfl) rfl) ?_
  refine sq_nil ?_
  refine avc_weak (weak_nil_d (t := 4) eElement.size (lq rfl) rfl) ?_
  cases h'
  refine avc_ret ?_
  exact ret_1 rfl
 ·
  replace h' := cF c1 h'
  refine avc_skip <| avc_sq2 ?_
  refine avc_drawA MX rfl ?_
  refine daa (a_move_d (lq rfl) rfl) ?_
  refine daa (a_nil_pt (lq rfl) rfl) ?_
  refine daa (m_fieldPt (lq rfl) L87_0 rfl) ?_
  refine daa (a_fieldAddr_ip (lq rfl) L25_2 rfl) ?_
  refine daa (a_load_ip (lq rfl) O3 rfl rfl) ?_
  refine daa (a_move_d (lq rfl) rfl) ?_
  obtain ⟨t14, ht14, h⟩ := bE h'; clear h'
  refine daa (m_quo (lq rfl) rfl rfl ht14) ?_
  refine daa (m_add (lq rfl) rfl rfl) ?_
  refine daa (a_move_d (lq rfl) rfl) ?_
  refine daa (a_nil_pt (lq rfl) rfl) ?_
  refine daa (m_fieldPt (lq rfl) L87_0 rfl) ?_
  refine daa (a_fieldAddr_ip (lq rfl) L25_3 rfl) ?_
  refine daa (a_load_ip (lq rfl) O3 rfl rfl) ?_
  refine daa (a_move_d (lq rfl) rfl) ?_
  refine daa (a_nil_pt (lq rfl) rfl) ?_
  refine daa (m_fieldPt (lq rfl) L87_0 rfl) ?_
  refine daa (a_fieldAddr_ip (lq rfl) L25_4 rfl) ?_
  refine daa (a_load_ip (lq rfl) O3 rfl rfl) ?_
  refine daa (m_build (lq rfl) B63 rfl rfl) ?_
  refine daa (a_move_d (lq rfl) rfl) ?_
  obtain ⟨t28, ht28, h'⟩ := bE h; clear h
  refine daa (m_rem (lq rfl) rfl rfl ht28) ?_
  refine daa (m_add (lq rfl) rfl rfl) ?_
  refine daa (m_build (lq rfl) B63 rfl rfl) ?_
  refine daa (a_lit (lq rfl) S31 rfl rfl rfl rfl (by decide) rfl) ?_
  refine daa (a_assign_d (lq rfl) rfl) ?_
  refine da_nil ?_
  cases h'
  refine avc_ret ?_
  exact ret_1 rfl
theorem colltable_table_class_1_c  {a0 : Int} {a1 : Colltable_table} {a2 : Int}  {r : Bool} (h : colltable_table_class_1 a0 a1 a2 = some r) : Contract Tryd.prog 73 [(di a0), (.pt [(.pt (eColltable_table.cells a1))]), (.pt [(di a2)])] [(db r)] := by
 refine contract_of Tryd.func73 (by kernel_rfl) rfl (lq rfl) (lq rfl) fun w0 I0 hI0 hG0 => ?_
 unfold colltable_table_class_1 at h
 refine avc_sq2 <| avc_sq ?_
 refine sqa (a_assign_d (lq rfl) rfl) ?_
 refine sq_nil <| avc_sq2 ?_
 refine avc_drawA MX rfl ?_
 refine daa (m_loadPt1 (lq rfl) O64 rfl) ?_
 refine daa (a_nil_pt (lq rfl) rfl) ?_
 refine daa (m_fieldPt (lq rfl) L87_3 rfl) ?_
 refine daa (a_load_ip (lq rfl) O37 rfl rfl) ?_
 refine daa (a_move_d (lq rfl) rfl) ?_
 obtain ⟨t10, ht10, h'⟩ := bE h; clear h
 refine daa (m_index (en := eSpan) (lq rfl) S37 rfl rfl ht10) ?_
 refine daa (a_fieldAddr_ip (lq rfl) L61_1 rfl) ?_
 refine daa (m_loadE (en := eSpan) (l := a1.classes) (i := a0) (v := t10) (off := 1) (lq rfl) O3 rfl ht10 rfl) ?_
 refine daa (m_loadPt1 (lq rfl) O3 rfl) ?_
 refine daa (a_geq (lq rfl) rfl rfl) ?_
 refine daa (a_assign_d (lq rfl) rfl) ?_
 refine da_nil ?_
 cases h'
 refine avc_ret ?_
 exact ret_1 rfl
theorem sort_Search_c {fv1 : DV} {a0 : Int} {a1 : Int → Option (Bool)} (hf1 : ∀ x0 y, a1 x0 = some y → FnC Tryd.prog fv1 [(di x0)] [(db y)]) {r : Int} (h : sort_Search a0 a1 = some r) : Contract Tryd.prog 72 [(di a0), fv1] [(di r)] := by
 refine contract_of Tryd.func72 (by kernel_rfl) rfl (lq rfl) (lq rfl) fun w0 I0 hI0 hG0 => ?_
 unfold sort_Search at h
 refine avc_sq2 <| avc_sq ?_
 refine sqa (a_assign_d (lq rfl) rfl) ?_
 refine sq_nil <| avc_sq2 <| avc_sq ?_
 refine sqa (a_move_d (lq rfl) rfl) ?_
 refine sqa (a_assign_d (lq rfl) rfl) ?_
 refine sqa (a_assign_d (lq rfl) rfl) ?_
 refine sq_nil <| avc_sq2 <| avc_block ?_
 obtain ⟨y1, hy1, h'⟩ := bE h; clear h
 refine avc_tail (e := (.exit 0)) (S2 := ⟨[(5, .d (di y1))], []⟩) ?_ ?_
 ·
  refine avc_loopM (fun x => ⟨[(1, .d fv1), (5, .d (di x.1)), (6, .d (di x.2))], []⟩) hy1 (weak_cov ⟨rfl, rfl, rfl, trivial⟩ trivial) ?_
  rintro ⟨v5, v6⟩ sy1 hsy1
  replace hsy1 : sort_Search_L0 a1 v5 v6 = some sy1 := hsy1
  unfold sort_Search_L0 at hsy1
  refine avc_sq2 <| avc_sq2 <| avc_sq ?_
  refine sqa (a_move_d (lq rfl) rfl) ?_
  refine sqa (a_move_d (lq rfl) rfl) ?_
  refine sqa (a_lss (lq rfl) rfl rfl) ?_
  refine sq_nil ?_
  refine avc_if rfl ⟨fun c1 => ?_, fun c1 => ?_⟩
  ·
   replace hsy1 := cT c1 hsy1
   refine avc_skip ?_
   obtain ⟨y2, hy2, hsy1'⟩ := bE hsy1; clear hsy1
   refine avc_tail (e := .normal) (S2 := ⟨[(1, .d fv1), (5, .d (di y2.1)), (6, .d (di y2.2))], []⟩) ?_ ?_
   ·
    refine avc_block <| avc_sq2 <| avc_sq ?_
    refine sqa (a_move_d (lq rfl) rfl) ?_
    refine sqa (a_move_d (lq rfl) rfl) ?_
    refine sqa (m_add (lq rfl) rfl rfl) ?_
    refine sqa (m_conv (lq rfl) Tryd.underlying3 Tryd.underlying132 rfl) ?_
    refine sqa (a_shr (m := 1) (lq rfl) rfl rfl (by decide)) ?_
    refine sqa (m_conv (lq rfl) Tryd.underlying132 Tryd.underlying3 rfl) ?_
    refine sqa (a_assign_d (lq rfl) rfl) ?_
    refine sq_nil <| avc_sq2 <| avc_sq ?_
    refine sqa (a_move_d (lq rfl) rfl) ?_
    refine sqa (a_move_d (lq rfl) rfl) ?_
    obtain ⟨t20, ht20, hy2'⟩ := bE hy2; clear hy2
    refine sqa (a_callF (lq rfl) rfl rfl (hf1 _ _ ht20)) ?_
    refine sqa (a_not (lq rfl) rfl) ?_
    refine sq_nil ?_
    refine avc_if rfl ⟨fun c2 => ?_, fun c2 => ?_⟩
    ·
     replace hy2' := cT c2 hy2'
     refine avc_sq ?_
     refine sqa (a_move_d (lq rfl) rfl) ?_
     refine sqa (m_add (lq rfl) rfl rfl) ?_
     refine sqa (a_assign_d (lq rfl) rfl) ?_
     refine sq_nil ?_
     cases hy2'
     exact out_mk (weak_cov ⟨rfl, rfl, rfl, trivial⟩ trivial)
    ·
     replace hy2' := cF c2 hy2'
     refine avc_sq ?_
     refine sqa (a_move_d (lq rfl) rfl) ?_
     refine sqa (a_assign_d (lq rfl) rfl) ?_
     refine sq_nil ?_
     cases hy2'
     exact out_mk (weak_cov ⟨rfl, rfl, rfl, trivial⟩ trivial)
   ·
    cases hsy1'
    exact weak_cov ⟨rfl, rfl, rfl, trivial⟩ trivial
  ·
   replace hsy1 := cF c1 hsy1
   refine avc_exit ?_
   cases hsy1
   intro q; cases q
   exact out_mk (weak_cov ⟨rfl, trivial⟩ trivial)
 ·
  refine avc_sq2 <| avc_sq ?_
  refine sqa (a_move_d (lq rfl) rfl) ?_
  refine sqa (a_assign_d (lq rfl) rfl) ?_
  refine sq_nil ?_
  cases h'
  refine avc_ret ?_
  exact ret_1 rfl
theorem colltable_table_class_c  {a0 : Colltable_table} {a1 : Int}  {r : Int} (h : colltable_table_class a0 a1 = some r) : Contract Tryd.prog 56 [(.pt (eColltable_table.cells a0)), (di a1)] [(di r)] := by
 refine contract_of Tryd.func56 (by kernel_rfl) rfl (lq rfl) (lq rfl) fun w0 I0 hI0 hG0 => ?_
 unfold colltable_table_class at h
 refine avc_sq2 <| avc_sq ?_
 refine sqa (m_box (size := 1) (lq rfl) rfl rfl) ?_
 refine sqa (m_box (size := 1) (lq rfl) rfl rfl) ?_
 refine sqa (a_assign_d (lq rfl) rfl) ?_
 refine sq_nil <| avc_sq2 <| avc_sq ?_
 refine sqa (m_loadPt1 (lq rfl) O64 rfl) ?_
 refine sqa (a_nil_pt (lq rfl) rfl) ?_
 refine sqa (m_fieldPt (lq rfl) L87_3 rfl) ?_
 refine sqa (a_load_ip (lq rfl) O37 rfl rfl) ?_
 refine sqa (m_len (en := eSpan) (l := a0.classes) (lq rfl) S37 rfl) ?_
 refine sqa (a_makeFunc (lq rfl) rfl) ?_
 obtain ⟨t12, ht12, h'⟩ := bE h; clear h
 refine sqa (a_call (lq rfl) rfl (sort_Search_c (fun _ _ q => .inl ⟨_, _, rfl, colltable_table_class_1_c q⟩) ht12)) ?_
 refine sqa (a_assign_d (lq rfl) rfl) ?_
 refine sq_nil <| avc_sq2 <| avc_sq2 ?_
 refine avc_drawA MX rfl ?_
 refine daa (a_move_d (lq rfl) rfl) ?_
 refine daa (m_loadPt1 (lq rfl) O64 rfl) ?_
 refine daa (a_nil_pt (lq rfl) rfl) ?_
 refine daa (m_fieldPt (lq rfl) L87_3 rfl) ?_
 refine daa (a_load_ip (lq rfl) O37 rfl rfl) ?_
 refine daa (m_len (en := eSpan) (l := a0.classes) (lq rfl) S37 rfl) ?_
 refine daa (a_lss (lq rfl) rfl rfl) ?_
 obtain ⟨b20, hb20, h⟩ := bE h'; clear h'
 refine daa ((a_move_d (lq rfl) rfl).bool (Option.some.inj hb20)) ?_
 refine da_g (x := .d (.pt (eColltable_table.cells a0))) rfl rfl rfl (lq rfl) (lq rfl) rfl (fun hb => by obtain rfl : b20 = true := hb; exact m_loadPt1 (lq rfl) O64 rfl) ?_
 refine da_g (x := .d (.pt (eColltable_table.cells a0))) rfl rfl rfl (lq rfl) (lq rfl) rfl (fun hb => by obtain rfl : b20 = true := hb; exact a_nil_pt (lq rfl) rfl) ?_
 refine da_g (x := .ip (eColltable_table.cells a0) (0 + 7)) rfl rfl rfl (lq rfl) (lq rfl) rfl (fun hb => by obtain rfl : b20 = true := hb; exact m_fieldPt (lq rfl) L87_3 rfl) ?_
 refine da_g (x := .d (dsl eSpan a0.classes)) rfl rfl rfl (lq rfl) (lq rfl) rfl (fun hb => by obtain rfl : b20 = true := hb; exact a_load_ip (lq rfl) O37 rfl rfl) ?_
 refine da_g (x := .d (di t12)) rfl rfl rfl (lq rfl) (lq rfl) rfl (fun hb => by obtain rfl : b20 = true := hb; exact a_move_d (lq rfl) rfl) ?_
 obtain ⟨t26, ht26, h'⟩ := bE h; clear h
 refine da_g (x := .ip (eSpan.all a0.classes) (t12.toNat * eSpan.size)) rfl rfl rfl (lq rfl) (lq rfl) rfl (fun hb => by obtain rfl : b20 = true := hb; exact m_index (en := eSpan) (lq rfl) S37 rfl rfl ht26) ?_
 refine da_g (x := .ip (eSpan.all a0.classes) (t12.toNat * eSpan.size + 0)) rfl rfl rfl (lq rfl) (lq rfl) rfl (fun hb => by obtain rfl : b20 = true := hb; exact a_fieldAddr_ip (lq rfl) L61_0 rfl) ?_
 refine da_g (x := .d (di t26.Lo)) rfl rfl rfl (lq rfl) (lq rfl) rfl (fun hb => by obtain rfl : b20 = true := hb; exact m_loadE (en := eSpan) (l := a0.classes) (i := t12) (v := t26) (off := 0) (lq rfl) O3 rfl ht26 rfl) ?_
 refine da_g (x := .d (di a1)) rfl rfl rfl (lq rfl) (lq rfl) rfl (fun hb => by obtain rfl : b20 = true := hb; exact m_loadPt1 (lq rfl) O3 rfl) ?_
 refine da_g (x := .d (db (decide (t26.Lo ≤ a1)))) rfl rfl rfl (lq rfl) (lq rfl) rfl (fun hb => by obtain rfl : b20 = true := hb; exact a_leq (lq rfl) rfl rfl) ?_
 refine daa (a_pick_and (lq rfl) rfl rfl) ?_
 refine da_nil ?_
 refine avc_if rfl ⟨fun c1 => ?_, fun c1 => ?_⟩
 ·
  replace h' := cT c1 h'
  refine avc_sq2 <| avc_sq ?_
  refine sqa (m_loadPt1 (lq rfl) O64 rfl) ?_
  refine sqa (a_nil_pt (lq rfl) rfl) ?_
  refine sqa (m_fieldPt (lq rfl) L87_3 rfl) ?_
  refine sqa (a_load_ip (lq rfl) O37 rfl rfl) ?_
  refine sqa (a_move_d (lq rfl) rfl) ?_
  obtain ⟨t37, ht37, h⟩ := bE h'; clear h'
  refine sqa (m_index (en := eSpan) (lq rfl) S37 rfl rfl ht37) ?_
  refine sqa (a_fieldAddr_ip (lq rfl) L61_2 rfl) ?_
  refine sqa (m_loadE (en := eSpan) (l := a0.classes) (i := t12) (v := t37) (off := 2) (lq rfl) O3 rfl ht37 rfl) ?_
  refine sqa (a_assign_d (lq rfl) rfl) ?_
  refine sq_nil ?_
  cases h
  refine avc_ret ?_
  exact ret_1 rfl
 ·
  replace h' := cF c1 h'
  refine avc_skip <| avc_sq2 <| avc_sq ?_
  refine sqa (a_assign_d (lq rfl) rfl) ?_
  refine sq_nil ?_
  cases h'
  refine avc_ret ?_
  exact ret_1 rfl
theorem colltable_table_match_g  {a0 : Colltable_table} {a1 : (List Int)}  {r : Int × (List Element) × Bool × (List Int)} (h : colltable_table_match a0 a1 = some r) : GC Tryd.prog 40 [.d (.pt (eColltable_table.cells a0)), .row 3001] [(3001, .win 3 eI.size 0 (eI.all a1))] [3001] [.d (di r.1), .d (dsl eElement r.2.1), .d (db r.2.2.1)] [(3001, .win 3 eI.size r.1.toNat (eI.all r.2.2.2))] := by
 refine gc_of Tryd.func40 (by kernel_rfl) rfl (lq rfl) (lq rfl) fun w0 I0 hG0 p0 => ?_
 unfold colltable_table_match at h
 refine avc_sq2 <| avc_sq ?_
 refine sqa (a_assign_d (lq rfl) rfl) ?_
 refine sqa (a_assign_d (lq rfl) rfl) ?_
 refine sqa (a_assign_d (lq rfl) rfl) ?_
 refine sq_nil <| avc_sq2 <| avc_sq ?_
 refine sqa (a_move_d (lq rfl) rfl) ?_
 refine sqa (a_nil_pt (lq rfl) rfl) ?_
 refine sqa (m_fieldPt (lq rfl) L87_2 rfl) ?_
 refine sqa (a_load_ip (lq rfl) O3 rfl rfl) ?_
 refine sqa (a_move_row (lq rfl) rfl) ?_
 refine sqa (m_lenW (en := eI) (l := a1) (lq rfl) S30 rfl rfl) ?_
 refine sqa (a_min (lq rfl) rfl rfl) ?_
 refine sqa (a_assign_d (lq rfl) rfl) ?_
 refine sq_nil <| avc_sq2 <| avc_block ?_
 obtain ⟨y1, hy1, h'⟩ := bE h; clear h
 refine avc_tail (e := (.exit 0)) (S2 := ⟨[(0, .d (.pt (eColltable_table.cells a0))), (1, .row 3001), (7, .d (di y1))], [(3001, .win 3 eI.size 0 (eI.all a1))]⟩) ?_ ?_
 ·
  refine avc_loopM (fun x => ⟨[(0, .d (.pt (eColltable_table.cells a0))), (1, .row 3001), (7, .d (di x))], [(3001, .win 3 eI.size 0 (eI.all a1))]⟩) hy1 (weak_cov ⟨rfl, rfl, rfl, trivial⟩ ⟨rfl, trivial⟩) ?_
  rintro v7 sy1 hsy1
  replace hsy1 : colltable_table_match_L0 a1 a0 v7 = some sy1 := hsy1
  unfold colltable_table_match_L0 at hsy1
  refine avc_sq2 <| avc_sq2 <| avc_sq ?_
  refine sqa (a_move_d (lq rfl) rfl) ?_
  refine sqa (a_gtr (lq rfl) rfl rfl) ?_
  refine sq_nil ?_
  refine avc_if rfl ⟨fun c1 => ?_, fun c1 => ?_⟩
  ·
   replace hsy1 := cT c1 hsy1
   refine avc_skip <| avc_block <| avc_sq2 <| avc_sq2 <| avc_sq ?_
   refine sqa (a_move_d (lq rfl) rfl) ?_
   refine sqa (a_move_row (lq rfl) rfl) ?_
   refine sqa (a_move_d (lq rfl) rfl) ?_
   obtain ⟨t31, ht31, hsy1'⟩ := bE hsy1; clear hsy1
   refine sqa (m_sliceHW (en := eI) (l := a1) (lq rfl) S30 rfl rfl rfl ht31) ?_
   obtain ⟨t32, ht32, hsy1⟩ := bE hsy1'; clear hsy1'
   refine sq_b rfl (s_callT (lq rfl) ⟨_, _, rfl, .d _, ⟨_, _, rfl, .front rfl ht31, rfl⟩⟩ (colltable_table_find_c ht32)) ?_
   refine sqa (a_move_tupc (lq rfl) rfl) ?_
   refine sqa (a_extractC (lq rfl) rfl rfl) ?_
   refine sqa (a_extractC (lq rfl) rfl rfl) ?_
   refine sqa (a_assign_top (lq rfl)) ?_
   refine sqa (a_assign_d (lq rfl) rfl) ?_
   refine sq_nil <| avc_sq2 <| avc_sq ?_
   refine sqa (a_move_d (lq rfl) rfl) ?_
   refine sq_nil ?_
   refine avc_if rfl ⟨fun c2 => ?_, fun c2 => ?_⟩
   ·
    replace hsy1 := cT c2 hsy1
    refine avc_exit ?_
    cases hsy1
    intro q; cases q
    exact out_mk (weak_cov ⟨rfl, rfl, rfl, trivial⟩ ⟨rfl, trivial⟩)
   ·
    replace hsy1 := cF c2 hsy1
    refine avc_skip <| avc_sq ?_
    refine sqa (a_move_d (lq rfl) rfl) ?_
    refine sqa (m_sub (lq rfl) rfl rfl) ?_
    refine sqa (a_assign_d (lq rfl) rfl) ?_
    refine sq_nil ?_
    cases hsy1
    exact weak_cov ⟨rfl, rfl, rfl, trivial⟩ ⟨rfl, trivial⟩
  ·
   replace hsy1 := cF c1 hsy1
   refine avc_exit ?_
   cases hsy1
   intro q; cases q
   exact out_mk (weak_cov ⟨rfl, rfl, rfl, trivial⟩ ⟨rfl, trivial⟩)
 ·
  refine avc_sq2 <| avc_sq2 <| avc_sq ?_
  refine sqa (a_move_d (lq rfl) rfl) ?_
  refine sqa (a_eql (lq rfl) rfl rfl) ?_
  refine sq_nil ?_
  refine avc_if rfl ⟨fun c3 => ?_, fun c3 => ?_⟩
  ·
   replace h' := cT c3 h'
   refine avc_sq2 <| avc_sq ?_
   refine sqa (a_move_d (lq rfl) rfl) ?_
   refine sqa (a_move_row (lq rfl) rfl) ?_
   obtain ⟨t42, ht42, h⟩ := bE h'; clear h'
   refine sqa (m_indexW (en := eI) (l := a1) (lq rfl) S30 rfl rfl rfl ht42) ?_
   refine sqa (m_loadW (en := eI) (l := a1) (i := (0 : Int)) (v := t42) (lq rfl) O3 rfl rfl ht42 rfl) ?_
   obtain ⟨t44, ht44, h'⟩ := bE h; clear h
   refine sqa (a_call (lq rfl) rfl (colltable_table_implicit_c ht44)) ?_
   refine sqa (a_assign_d (lq rfl) rfl) ?_
   refine sqa (a_assign_d (lq rfl) rfl) ?_
   refine sqa (a_assign_d (lq rfl) rfl) ?_
   refine sq_nil ?_
   refine avc_weak (weak_win_k (id := 3001) ((1 : Int).toNat) rfl (Nat.zero_le _)) ?_
   cases h'
   refine avc_ret ?_
   exact ⟨⟨_, _, rfl, rfl, ⟨_, _, rfl, rfl, ⟨_, _, rfl, rfl, rfl⟩⟩⟩, ⟨rfl, trivial⟩⟩
  ·
   replace h' := cF c3 h'
   refine avc_skip <| avc_sq2 <| avc_sq ?_
   refine sqa (a_assign_d (lq rfl) rfl) ?_
   refine sq_nil <| avc_sq2 <| avc_sq2 <| avc_sq ?_
   refine sqa (a_move_d (lq rfl) rfl) ?_
   refine sqa (a_assign_d (lq rfl) rfl) ?_
   refine sq_nil <| avc_block ?_
   obtain ⟨y2, hy2, h⟩ := bE h'; clear h'
   refine avc_tail (e := (.exit 2)) (S2 := ⟨[(0, .d (.pt (eColltable_table.cells a0))), (1, .row 3001), (7, .d (di y2.1))], [(3001, .win 3 eI.size 0 (eI.all y2.2))]⟩) ?_ ?_
   ·
    refine avc_loopM (fun x => ⟨[(0, .d (.pt (eColltable_table.cells a0))), (1, .row 3001), (7, .d (di x.1)), (10, .d (di x.2.1)), (11, .d (di x.2.2.1))], [(3001, .win 3 eI.size 0 (eI.all x.2.2.2))]⟩) hy2 (weak_cov ⟨rfl, rfl, rfl, rfl, rfl, trivial⟩ ⟨rfl, trivial⟩) ?_
    rintro ⟨v7, v10, v11, r3001⟩ sy2 hsy2
    replace hsy2 : colltable_table_match_L1 a0 v7 v10 v11 r3001 = some sy2 := hsy2
    unfold colltable_table_match_L1 at hsy2
    refine avc_sq2 <| avc_sq2 <| avc_sq ?_
    refine sqa (a_move_d (lq rfl) rfl) ?_
    refine sqa (a_move_row (lq rfl) rfl) ?_
    refine sqa (m_lenW (en := eI) (l := r3001) (lq rfl) S30 rfl rfl) ?_
    refine sqa (a_lss (lq rfl) rfl rfl) ?_
    obtain ⟨b50, hb50, hsy2'⟩ := bE hsy2; clear hsy2
    refine sqa ((a_move_d (lq rfl) rfl).bool (Option.some.inj hb50)) ?_
    refine sq_g (x := .d (di v10)) rfl rfl rfl (lq rfl) (lq rfl) rfl (fun hb => by obtain rfl : b50 = true := hb; exact a_move_d (lq rfl) rfl) ?_
    refine sq_g (x := .d (.pt (eColltable_table.cells a0))) rfl rfl rfl (lq rfl) (lq rfl) rfl (fun hb => by obtain rfl : b50 = true := hb; exact a_move_d (lq rfl) rfl) ?_
    refine sq_g (x := .d (.pt (eColltable_table.cells a0))) rfl rfl rfl (lq rfl) (lq rfl) rfl (fun hb => by obtain rfl : b50 = true := hb; exact a_nil_pt (lq rfl) rfl) ?_
    refine sq_g (x := .ip (eColltable_table.cells a0) (0 + 8)) rfl rfl rfl (lq rfl) (lq rfl) rfl (fun hb => by obtain rfl : b50 = true := hb; exact m_fieldPt (lq rfl) L87_4 rfl) ?_
    refine sq_g (x := .d (di a0.top)) rfl rfl rfl (lq rfl) (lq rfl) rfl (fun hb => by obtain rfl : b50 = true := hb; exact a_load_ip (lq rfl) O3 rfl rfl) ?_
    refine sq_g (x := .d (db (decide (v10 < a0.top)))) rfl rfl rfl (lq rfl) (lq rfl) rfl (fun hb => by obtain rfl : b50 = true := hb; exact a_lss (lq rfl) rfl rfl) ?_
    refine sqa (a_pick_and (lq rfl) rfl rfl) ?_
    refine sq_nil ?_
    refine avc_if rfl ⟨fun c4 => ?_, fun c4 => ?_⟩
    ·
     replace hsy2' := cT c4 hsy2'
     refine avc_skip <| avc_sq2 ?_
     obtain ⟨y3, hy3, hsy2⟩ := bE hsy2'; clear hsy2'
     refine avc_tail2 y3 (.exit 2) (fun y3 => ⟨[(0, .d (.pt (eColltable_table.cells a0))), (1, .row 3001), (7, .d (di v7))], [(3001, .win 3 eI.size 0 (eI.all r3001))]⟩) .normal (fun y3 => ⟨[(0, .d (.pt (eColltable_table.cells a0))), (1, .row 3001), (7, .d (di y3.1)), (10, .d (di y3.2.1)), (11, .d (di v11))], [(3001, .win 3 eI.size 0 (eI.all y3.2.2))]⟩) ?_ ?_ ?_
     ·
      refine avc_block <| avc_sq2 <| avc_sq ?_
      refine sqa (a_move_row (lq rfl) rfl) ?_
      refine sqa (a_move_d (lq rfl) rfl) ?_
      obtain ⟨t62, ht62, hy3'⟩ := bE hy3; clear hy3
      refine sqa (m_indexW (en := eI) (l := r3001) (lq rfl) S30 rfl rfl rfl ht62) ?_
      refine sqa (m_loadW (en := eI) (l := r3001) (i := v11) (v := t62) (lq rfl) O3 rfl rfl ht62 rfl) ?_
      refine sqa (a_assign_d (lq rfl) rfl) ?_
      refine sq_nil <| avc_sq2 <| avc_sq ?_
      refine sqa (a_move_d (lq rfl) rfl) ?_
      refine sqa (a_move_d (lq rfl) rfl) ?_
      obtain ⟨t66, ht66, hy3⟩ := bE hy3'; clear hy3'
      refine sqa (a_call (lq rfl) rfl (colltable_table_class_c ht66)) ?_
      refine sqa (a_assign_d (lq rfl) rfl) ?_
      refine sq_nil <| avc_sq2 <| avc_sq2 <| avc_sq ?_
      refine sqa (a_move_d (lq rfl) rfl) ?_
      refine sqa (a_eql (lq rfl) rfl rfl) ?_
      refine sq_nil ?_
      refine avc_if rfl ⟨fun c5 => ?_, fun c5 => ?_⟩
      ·
       replace hy3 := cT c5 hy3
       refine avc_exit ?_
       cases hy3
       exact ⟨rfl, weak_cov ⟨rfl, rfl, rfl, trivial⟩ ⟨rfl, trivial⟩⟩
      ·
       replace hy3 := cF c5 hy3
       refine avc_skip <| avc_sq2 <| avc_sq2 <| avc_sq ?_
       refine sqa (a_move_d (lq rfl) rfl) ?_
       refine sqa (a_move_d (lq rfl) rfl) ?_
       refine sqa (a_leq (lq rfl) rfl rfl) ?_
       refine sq_nil ?_
       refine avc_if rfl ⟨fun c6 => ?_, fun c6 => ?_⟩
       ·
        replace hy3 := cT c6 hy3
        refine avc_exit ?_
        cases hy3
        exact ⟨rfl, weak_cov ⟨rfl, rfl, rfl, rfl, rfl, trivial⟩ ⟨rfl, trivial⟩⟩
       ·
        replace hy3 := cF c6 hy3
        refine avc_skip <| avc_sq2 <| avc_sq2 <| avc_sq ?_
        refine sqa (a_move_d (lq rfl) rfl) ?_
        refine sqa (a_move_row (lq rfl) rfl) ?_
        refine sqa (a_move_d (lq rfl) rfl) ?_
        refine sqa (a_move_d (lq rfl) rfl) ?_
        obtain ⟨t77, ht77, hy3'⟩ := bE hy3; clear hy3
        refine sqa (m_slice3W (en := eI) (l := r3001) (lq rfl) S30 rfl rfl rfl rfl ht77) ?_
        refine sqa (a_move_d (lq rfl) rfl) ?_
        refine sqa (a_lit (lq rfl) S30 rfl rfl rfl rfl (by decide) rfl) ?_
        obtain ⟨r80_4, hr80_4, hy3⟩ := bE hy3'; clear hy3'
        refine sq_b rfl (m_appendW (en := eI) (l := r3001) (b := v7) (lq rfl) S30 rfl rfl ht77 rfl (by simp) hr80_4 (by decide) rfl) ?_
        obtain ⟨t81, ht81, hy3'⟩ := bE hy3; clear hy3
        refine sq_b rfl (s_call (lq rfl) rfl rfl (colltable_table_find_c ht81)) ?_
        refine sqa (a_move_tup (lq rfl) rfl) ?_
        refine sqa (a_extract (lq rfl) rfl rfl) ?_
        refine sqa (a_extract (lq rfl) rfl rfl) ?_
        refine sqa (a_assign_d (lq rfl) rfl) ?_
        refine sqa (a_assign_d (lq rfl) rfl) ?_
        refine sq_nil <| avc_sq2 <| avc_sq ?_
        refine sqa (a_move_d (lq rfl) rfl) ?_
        refine sqa (a_not (lq rfl) rfl) ?_
        refine sq_nil ?_
        refine avc_if rfl ⟨fun c7 => ?_, fun c7 => ?_⟩
        ·
         replace hy3' := cT c7 hy3'
         refine avc_sq2 <| avc_sq ?_
         refine sqa (a_move_d (lq rfl) rfl) ?_
         refine sqa (a_assign_d (lq rfl) rfl) ?_
         refine sq_nil ?_
         refine avc_exit ?_
         cases hy3'
         exact ⟨rfl, weak_cov ⟨rfl, rfl, rfl, rfl, rfl, trivial⟩ ⟨rfl, trivial⟩⟩
        ·
         replace hy3' := cF c7 hy3'
         refine avc_skip <| avc_sq2 ?_
         refine avc_draw 10 MX rfl ?_
         refine daa (a_move_row (lq rfl) rfl) ?_
         refine daa (a_move_d (lq rfl) rfl) ?_
         refine daa (m_add (lq rfl) rfl rfl) ?_
         refine daa (a_move_d (lq rfl) rfl) ?_
         refine daa (m_add (lq rfl) rfl rfl) ?_
         obtain ⟨t92, ht92, hy3⟩ := bE hy3'; clear hy3'
         refine daa (m_sliceW (en := eI) (l := r3001) (lq rfl) S30 rfl rfl rfl rfl ht92) ?_
         refine daa (a_move_row (lq rfl) rfl) ?_
         refine daa (a_move_d (lq rfl) rfl) ?_
         refine daa (a_move_d (lq rfl) rfl) ?_
         obtain ⟨t96, ht96, hy3'⟩ := bE hy3; clear hy3
         refine daa (m_sliceW (en := eI) (l := r3001) (lq rfl) S30 rfl rfl rfl rfl ht96) ?_
         refine da_nil ?_
         refine sq_b rfl (m_copyW (en := eI) (l := r3001) (a1 := (wi (v7 + 1))) (b1 := (wi (v11 + 1))) (a2 := v7) (b2 := v11) (lq rfl) S30 rfl rfl rfl ht92 ht96 rfl) ?_
         refine sq_nil <| avc_sq2 <| avc_sq ?_
         refine sqa (a_move_row (lq rfl) rfl) ?_
         refine sqa (a_move_d (lq rfl) rfl) ?_
         refine sqa (a_move_d (lq rfl) rfl) ?_
         obtain ⟨t101, ht101, hy3⟩ := bE hy3'; clear hy3'
         refine sqa (m_indexW (en := eI) (l := (cpM r3001 (wi (v7 + 1)) (wi (v11 + 1)) v7 v11)) (lq rfl) S30 rfl rfl rfl ht101) ?_
         obtain ⟨r3001_5, hr3001_5, hy3'⟩ := bE hy3; clear hy3
         refine sq_b rfl (m_storeW (en := eI) (l := (cpM r3001 (wi (v7 + 1)) (wi (v11 + 1)) v7 v11)) (i := v7) (v := t62) O3 rfl rfl rfl ht101 hr3001_5 rfl rfl rfl rfl) ?_
         refine sq_nil <| avc_sq ?_
         refine sqa (a_move_d (lq rfl) rfl) ?_
         refine sqa (m_add (lq rfl) rfl rfl) ?_
         refine sqa (a_assign_d (lq rfl) rfl) ?_
         refine sq_nil ?_
         cases hy3'
         exact ⟨rfl, weak_cov ⟨rfl, rfl, rfl, rfl, rfl, trivial⟩ ⟨rfl, trivial⟩⟩
     ·
      rintro y3 rfl
      replace hsy2 := eL hsy2
      cases hsy2
      intro q; cases q
      exact out_mk (weak_cov ⟨rfl, rfl, rfl, trivial⟩ ⟨rfl, trivial⟩)
     ·
      rintro y3 rfl
      replace hsy2 := eR hsy2
      refine avc_sq ?_
      refine sqa (a_move_d (lq rfl) rfl) ?_
      refine sqa (m_add (lq rfl) rfl rfl) ?_
      refine sqa (a_assign_d (lq rfl) rfl) ?_
      refine sq_nil ?_
      cases hsy2
      exact weak_cov ⟨rfl, rfl, rfl, rfl, rfl, trivial⟩ ⟨rfl, trivial⟩
    ·
     replace hsy2' := cF c4 hsy2'
     refine avc_exit ?_
     cases hsy2'
     intro q; cases q
     exact out_mk (weak_cov ⟨rfl, rfl, rfl, trivial⟩ ⟨rfl, trivial⟩)
   ·
    refine avc_sq2 <| avc_sq ?_
    refine sqa (a_move_d (lq rfl) rfl) ?_
    refine sqa (a_move_row (lq rfl) rfl) ?_
    refine sqa (a_move_d (lq rfl) rfl) ?_
    obtain ⟨t108, ht108, h'⟩ := bE h; clear h
    refine sqa (m_sliceHW (en := eI) (l := y2.2) (lq rfl) S30 rfl rfl rfl ht108) ?_
    refine sq_weak (weak_front (tm := 108) (en := eI) (l := y2.2) (b := y2.1) (lq rfl) rfl rfl ht108) ?_ (by simp)
    obtain ⟨t109, ht109, h⟩ := bE h'; clear h'
    refine sq_b rfl ((a_call (lq rfl) rfl (colltable_table_find_c ht109)).step) ?_
    refine sqa (a_move_tup (lq rfl) rfl) ?_
    refine sqa (a_extract (lq rfl) rfl rfl) ?_
    refine sqa (a_extract (lq rfl) rfl rfl) ?_
    refine sqa (a_assign_d (lq rfl) rfl) ?_
    refine sqa (a_assign_d (lq rfl) rfl) ?_
    refine sq_nil <| avc_sq2 <| avc_sq ?_
    refine sqa (a_move_d (lq rfl) rfl) ?_
    refine sqa (a_move_d (lq rfl) rfl) ?_
    refine sqa (a_assign_d (lq rfl) rfl) ?_
    refine sqa (a_assign_d (lq rfl) rfl) ?_
    refine sqa (a_assign_d (lq rfl) rfl) ?_
    refine sq_nil ?_
    cases h
    refine avc_ret ?_
    exact ⟨⟨_, _, rfl, rfl, ⟨_, _, rfl, rfl, ⟨_, _, rfl, rfl, rfl⟩⟩⟩, ⟨rfl, trivial⟩⟩
theorem slices_Clone_api_Element_api_Element_g {a0 r : (List Element)} (h : slices_Clone_api_Element_api_Element a0 = some r) : GC Tryd.prog 32 [.d (dsl eElement a0)] [] [] [.row 5] [(5, .row 63 eElement.size false (eElement.all r))] := by
 unfold slices_Clone_api_Element_api_Element at h
 cases a0 with
 | nil =>
  refine gc_empty (by decide) fun B c => ?_
  refine gc_of Tryd.func32 (by kernel_rfl) rfl (lq rfl) (lq rfl) fun w0 I0 hG0 p0 => ?_
  refine avc_sq2 <| avc_sq ?_
  refine sqa (a_assign_d (lq rfl) rfl) ?_
  refine sq_nil <| avc_sq2 <| avc_sq2 <| avc_sq ?_
  refine sqa (a_move_d (lq rfl) rfl) ?_
  refine sqa (a_eqnil_v (lq rfl) Tryd.underlying31 rfl) ?_
  refine sq_nil ?_
  refine avc_if rfl ⟨fun c1 => ?_, fun c1 => ?_⟩
  ·
   obtain ⟨rfl, _⟩ := app_some h
   refine avc_sq2 <| avc_sq ?_
   refine sqa (a_assign_d (lq rfl) rfl) ?_
   refine sq_nil ?_
   refine avc_weak (weak_nil (t := 2) 5 63 eElement.size (lq rfl) (lq rfl) rfl rfl) ?_
   refine avc_ret ?_
   exact ⟨⟨_, _, rfl, rfl, rfl⟩, rfl, trivial⟩
  ·
   refine avc_skip <| avc_sq2 <| avc_sq ?_
   refine sq_b rfl (step_buildSlice (lq rfl) S31 rfl rfl rfl rfl (by decide) rfl) ?_
   refine sqa (a_move_d (lq rfl) rfl) ?_
   refine sq_weak (weak_empty_d (t := 6) eElement.size (lq rfl) rfl) ?_ (by simp)
   refine sq_b rfl (m_append (en := eElement) (l := []) (m := []) (lq rfl) S31 rfl rfl rfl h (by decide) (by decide) rfl rfl) ?_
   refine sqa (a_assign_row (lq rfl) rfl) ?_
   refine sq_nil ?_
   refine avc_ret ?_
   exact ⟨⟨_, _, rfl, rfl, rfl⟩, rfl, trivial⟩
 | cons x l =>
  refine gc_of Tryd.func32 (by kernel_rfl) rfl (lq rfl) (lq rfl) fun w0 I0 hG0 p0 => ?_
  refine avc_sq2 <| avc_sq ?_
  refine sqa (a_assign_d (lq rfl) rfl) ?_
  refine sq_nil <| avc_sq2 <| avc_sq2 <| avc_sq ?_
  refine sqa (a_move_d (lq rfl) rfl) ?_
  refine sqa (a_eqnil (lq rfl) Tryd.underlying31 rfl (all_ne (by decide))) ?_
  refine sq_nil ?_
  refine avc_if rfl ⟨fun c1 => (by cases c1), fun c1 => ?_⟩
  refine avc_skip <| avc_sq2 <| avc_sq ?_
  refine sq_b rfl (step_buildSlice (lq rfl) S31 rfl rfl rfl rfl (by decide) rfl) ?_
  refine sqa (a_move_d (lq rfl) rfl) ?_
  refine sq_b rfl (m_append (en := eElement) (l := []) (m := x :: l) (lq rfl) S31 rfl rfl rfl h (by decide) (by decide) rfl rfl) ?_
  refine sqa (a_assign_row (lq rfl) rfl) ?_
  refine sq_nil ?_
  refine avc_ret ?_
  exact ⟨⟨_, _, rfl, rfl, rfl⟩, rfl, trivial⟩
set_option maxHeartbeats 8000000 in
theorem colltable_Step_c  {a0 : Norm} {a1 : Collation} {a2 : (List Int)}  {r : Int × (List Int) × (List Element)} (h : colltable_Step a0 a1 a2 = some r) : Contract Tryd.prog 18 [(eNorm.dv a0), (eCollation.dv a1), (dsl eI a2)] [(di r.1), (dsl eI r.2.1), (dsl eElement r.2.2)] := by
 refine contract_of Tryd.func18 (by kernel_rfl) rfl (lq rfl) (lq rfl) fun w0 I0 hI0 hG0 => ?_
 unfold colltable_Step at h
 refine avc_sq2 <| avc_sq ?_
 refine sqa (m_box (size := 3) (lq rfl) rfl rfl) ?_
 refine sqa (m_box (size := 5) (lq rfl) rfl rfl) ?_
 refine sqa (a_assign_d (lq rfl) rfl) ?_
 refine sqa (a_assign_d (lq rfl) rfl) ?_
 refine sqa (a_assign_d (lq rfl) rfl) ?_
 refine sq_nil <| avc_sq2 <| avc_sq2 <| avc_sq ?_
 refine sqa (a_move_d (lq rfl) rfl) ?_
 refine sqa (m_len (en := eI) (l := a2) (lq rfl) S30 rfl) ?_
 refine sqa (a_eql (lq rfl) rfl rfl) ?_
 refine sq_nil ?_
 refine avc_if rfl ⟨fun c1 => ?_, fun c1 => ?_⟩
 ·
  replace h := cT c1 h
  refine avc_sq2 <| avc_sq ?_
  refine sqa (a_assign_d (lq rfl) rfl) ?_
  refine sqa (a_assign_d (lq rfl) rfl) ?_
  refine sqa (a_assign_d (lq rfl) rfl) ?_
  refine sq_nil ?_
  refine avc_weak (weak_nil_d (t := 7) eI.size (lq rfl) rfl) ?_
  refine avc_weak (weak_nil_d (t := 8) eElement.size (lq rfl) rfl) ?_
  cases h
  refine avc_ret ?_
  exact ret_three rfl rfl rfl
 ·
  replace h := cF c1 h
  refine avc_skip <| avc_sq2 <| avc_sq ?_
  refine sqa (a_move_d (lq rfl) rfl) ?_
  obtain ⟨t17, ht17, h'⟩ := bE h; clear h
  refine sq_b rfl (g_call [(5, 2517)] (slices_Clone_int_int_g ht17) (lq rfl) (by decide) ⟨rfl, trivial⟩ rfl rfl trivial rfl rfl rfl (fun _ => rfl) rfl) ?_
  refine sqa (a_assign_row (lq rfl) rfl) ?_
  refine sq_nil <| avc_sq2 ?_
  obtain ⟨t20, ht20, h⟩ := bE h'; clear h'
  obtain ⟨t22, ht22, h'⟩ := bE h; clear h
  obtain ⟨t24, ht24, h⟩ := bE h'; clear h'
  refine avc_tail (e := .normal) (S2 := ⟨[(9, .row 2517), (10, .d (di t24.1)), (11, .d (dsl eElement t24.2.1))], [(2517, .win 3 eI.size t24.1.toNat (eI.all t24.2.2.2))]⟩) ?_ ?_
  ·
   refine avc_any MX ?_
   refine any_move (i := 4) rfl (lq rfl) rfl rfl rfl rfl ?_
   refine any_n [0, 2] (by kernel_rfl) rfl ?_
   refine any_a (i := 0) rfl rfl (m_loadPt (lq rfl) G25 rfl rfl) ?_ ?_
   ·
    refine any_n [1, 2] (by kernel_rfl) rfl ?_
    refine any_b (i := 1) rfl rfl (g_call [(13, 2520), (11, 3020)] (colltable_made_g ht20) (lq rfl) (by decide) ⟨rfl, trivial⟩ rfl rfl trivial rfl rfl rfl (fun _ => rfl) rfl) ?_ ?_
    ·
     refine any_n [2] (by kernel_rfl) rfl ?_
     refine any_a (i := 2) rfl rfl (m_loadPt (lq rfl) G43 rfl rfl) ?_ ?_
     ·
      refine any_n [3] (by kernel_rfl) rfl ?_
      refine any_b (i := 3) rfl rfl (g_call [(3000, 2520), (3105, 3020)] (colltable_table_with_g ht22) (lq rfl) (by decide) ⟨rfl, rfl, trivial⟩ rfl rfl ⟨rfl, rfl, trivial⟩ rfl rfl rfl (fun _ => rfl) rfl) ?_ ?_
      ·
       refine any_w (weak_map_box (bid := 2520) (off := 5) rfl rfl rfl) ?_
       refine any_w (weak_freeze (t := 22) (lq rfl) rfl rfl rfl) ?_
       refine any_w (weak_row_win (id := 2517) rfl) ?_
       refine any_n [5] (by kernel_rfl) rfl ?_
       refine any_b (i := 5) rfl rfl (g_call [(3001, 2517)] (colltable_table_match_g ht24) (lq rfl) (by decide) ⟨rfl, rfl, trivial⟩ rfl rfl ⟨rfl, trivial⟩ rfl rfl rfl (fun _ => rfl) rfl) ?_ ?_
       ·
        refine any_move (i := 6) rfl (lq rfl) rfl rfl rfl rfl ?_
        refine any_extractC (i := 7) rfl (lq rfl) rfl rfl rfl rfl rfl rfl ?_
        refine any_extractC (i := 8) rfl (lq rfl) rfl rfl rfl rfl rfl rfl ?_
        refine any_extractC (i := 9) rfl (lq rfl) rfl rfl rfl rfl rfl rfl ?_
        refine any_n [10] (by kernel_rfl) rfl ?_
        refine any_a (i := 10) rfl rfl (a_assign_d (lq rfl) rfl) ?_ ?_
        ·
         refine any_n [11] (by kernel_rfl) rfl ?_
         refine any_a (i := 11) rfl rfl (a_assign_d (lq rfl) rfl) ?_ ?_
         ·
          refine any_n [12] (by kernel_rfl) rfl ?_
          refine any_a (i := 12) rfl rfl (a_assign_d (lq rfl) rfl) ?_ ?_
          ·
           exact any_end rfl (out_mk (weak_cov ⟨rfl, rfl, rfl, trivial⟩ ⟨rfl, trivial⟩))
          ·
           exact any_nil
         ·
          exact any_nil
        ·
         exact any_nil
       ·
        exact any_nil
      ·
       exact any_nil
     ·
      exact any_nil
    refine any_a (i := 2) rfl rfl (m_loadPt (lq rfl) G43 rfl rfl) ?_ ?_
    ·
     refine any_n [1] (by kernel_rfl) rfl ?_
     refine any_b (i := 1) rfl rfl (g_call [(13, 2520), (11, 3020)] (colltable_made_g ht20) (lq rfl) (by decide) ⟨rfl, trivial⟩ rfl rfl trivial rfl rfl rfl (fun _ => rfl) rfl) ?_ ?_
     ·
      refine any_n [3] (by kernel_rfl) rfl ?_
      refine any_b (i := 3) rfl rfl (g_call [(3000, 2520), (3105, 3020)] (colltable_table_with_g ht22) (lq rfl) (by decide) ⟨rfl, rfl, trivial⟩ rfl rfl ⟨rfl, rfl, trivial⟩ rfl rfl rfl (fun _ => rfl) rfl) ?_ ?_
      ·
       refine any_w (weak_map_box (bid := 2520) (off := 5) rfl rfl rfl) ?_
       refine any_w (weak_freeze (t := 22) (lq rfl) rfl rfl rfl) ?_
       refine any_w (weak_row_win (id := 2517) rfl) ?_
       refine any_n [5] (by kernel_rfl) rfl ?_
       refine any_b (i := 5) rfl rfl (g_call [(3001, 2517)] (colltable_table_match_g ht24) (lq rfl) (by decide) ⟨rfl, rfl, trivial⟩ rfl rfl ⟨rfl, trivial⟩ rfl rfl rfl (fun _ => rfl) rfl) ?_ ?_
       ·
        refine any_move (i := 6) rfl (lq rfl) rfl rfl rfl rfl ?_
        refine any_extractC (i := 7) rfl (lq rfl) rfl rfl rfl rfl rfl rfl ?_
        refine any_extractC (i := 8) rfl (lq rfl) rfl rfl rfl rfl rfl rfl ?_
        refine any_extractC (i := 9) rfl (lq rfl) rfl rfl rfl rfl rfl rfl ?_
        refine any_n [10] (by kernel_rfl) rfl ?_
        refine any_a (i := 10) rfl rfl (a_assign_d (lq rfl) rfl) ?_ ?_
        ·
         refine any_n [11] (by kernel_rfl) rfl ?_
         refine any_a (i := 11) rfl rfl (a_assign_d (lq rfl) rfl) ?_ ?_
         ·
          refine any_n [12] (by kernel_rfl) rfl ?_
          refine any_a (i := 12) rfl rfl (a_assign_d (lq rfl) rfl) ?_ ?_
          ·
           exact any_end rfl (out_mk (weak_cov ⟨rfl, rfl, rfl, trivial⟩ ⟨rfl, trivial⟩))
          ·
           exact any_nil
         ·
          exact any_nil
        ·
         exact any_nil
       ·
        exact any_nil
      ·
       exact any_nil
     ·
      exact any_nil
    exact any_nil
   refine any_a (i := 2) rfl rfl (m_loadPt (lq rfl) G43 rfl rfl) ?_ ?_
   ·
    refine any_n [0] (by kernel_rfl) rfl ?_
    refine any_a (i := 0) rfl rfl (m_loadPt (lq rfl) G25 rfl rfl) ?_ ?_
    ·
     refine any_n [1] (by kernel_rfl) rfl ?_
     refine any_b (i := 1) rfl rfl (g_call [(13, 2520), (11, 3020)] (colltable_made_g ht20) (lq rfl) (by decide) ⟨rfl, trivial⟩ rfl rfl trivial rfl rfl rfl (fun _ => rfl) rfl) ?_ ?_
     ·
      refine any_n [3] (by kernel_rfl) rfl ?_
      refine any_b (i := 3) rfl rfl (g_call [(3000, 2520), (3105, 3020)] (colltable_table_with_g ht22) (lq rfl) (by decide) ⟨rfl, rfl, trivial⟩ rfl rfl ⟨rfl, rfl, trivial⟩ rfl rfl rfl (fun _ => rfl) rfl) ?_ ?_
      ·
       refine any_w (weak_map_box (bid := 2520) (off := 5) rfl rfl rfl) ?_
       refine any_w (weak_freeze (t := 22) (lq rfl) rfl rfl rfl) ?_
       refine any_w (weak_row_win (id := 2517) rfl) ?_
       refine any_n [5] (by kernel_rfl) rfl ?_
       refine any_b (i := 5) rfl rfl (g_call [(3001, 2517)] (colltable_table_match_g ht24) (lq rfl) (by decide) ⟨rfl, rfl, trivial⟩ rfl rfl ⟨rfl, trivial⟩ rfl rfl rfl (fun _ => rfl) rfl) ?_ ?_
       ·
        refine any_move (i := 6) rfl (lq rfl) rfl rfl rfl rfl ?_
        refine any_extractC (i := 7) rfl (lq rfl) rfl rfl rfl rfl rfl rfl ?_
        refine any_extractC (i := 8) rfl (lq rfl) rfl rfl rfl rfl rfl rfl ?_
        refine any_extractC (i := 9) rfl (lq rfl) rfl rfl rfl rfl rfl rfl ?_
        refine any_n [10] (by kernel_rfl) rfl ?_
        refine any_a (i := 10) rfl rfl (a_assign_d (lq rfl) rfl) ?_ ?_
        ·
         refine any_n [11] (by kernel_rfl) rfl ?_
         refine any_a (i := 11) rfl rfl (a_assign_d (lq rfl) rfl) ?_ ?_
         ·
          refine any_n [12] (by kernel_rfl) rfl ?_
          refine any_a (i := 12) rfl rfl (a_assign_d (lq rfl) rfl) ?_ ?_
          ·
           exact any_end rfl (out_mk (weak_cov ⟨rfl, rfl, rfl, trivial⟩ ⟨rfl, trivial⟩))
          ·
           exact any_nil
         ·
          exact any_nil
        ·
         exact any_nil
       ·
        exact any_nil
      ·
       exact any_nil
     ·
      exact any_nil
    ·
     exact any_nil
   exact any_nil
  refine avc_weak (weak_win_d (t := 9) (lq rfl) rfl rfl) ?_
  refine avc_sq2 ?_
  obtain ⟨t35, ht35, h'⟩ := bE h; clear h
  obtain ⟨t37, ht37, h⟩ := bE h'; clear h'
  refine avc_tail (e := .normal) (S2 := ⟨[(6, .d (di t24.1)), (7, .d (dsl eI t35)), (8, .row 2537)], [(2537, .row 63 eElement.size false (eElement.all t37))]⟩) ?_ ?_
  ·
   refine avc_any MX ?_
   refine any_move (i := 0) rfl (lq rfl) rfl rfl rfl rfl ?_
   refine any_move (i := 1) rfl (lq rfl) rfl rfl rfl rfl ?_
   refine any_move (i := 2) rfl (lq rfl) rfl rfl rfl rfl ?_
   refine any_move (i := 3) rfl (lq rfl) rfl rfl rfl rfl ?_
   refine any_move (i := 5) rfl (lq rfl) rfl rfl rfl rfl ?_
   refine any_move (i := 8) rfl (lq rfl) rfl rfl rfl rfl ?_
   refine any_n [4, 6, 9] (by kernel_rfl) rfl ?_
   refine any_a (i := 4) rfl rfl (m_len (en := eI) (l := t24.2.2.2) (lq rfl) S30 rfl) ?_ ?_
   ·
    refine any_n [6, 9] (by kernel_rfl) rfl ?_
    refine any_a (i := 6) rfl rfl (m_len (en := eI) (l := t24.2.2.2) (lq rfl) S30 rfl) ?_ ?_
    ·
     refine any_n [7, 9] (by kernel_rfl) rfl ?_
     refine any_a (i := 7) rfl rfl (m_slice3 (en := eI) (lq rfl) S30 rfl rfl rfl rfl ht35) ?_ ?_
     ·
      refine any_n [9] (by kernel_rfl) rfl ?_
      refine any_b (i := 9) rfl rfl (g_call [(5, 2537)] (slices_Clone_api_Element_api_Element_g ht37) (lq rfl) (by decide) ⟨rfl, trivial⟩ rfl rfl trivial rfl rfl rfl (fun _ => rfl) rfl) ?_ ?_
      ·
       refine any_n [10] (by kernel_rfl) rfl ?_
       refine any_a (i := 10) rfl rfl (a_assign_d (lq rfl) rfl) ?_ ?_
       ·
        refine any_n [11] (by kernel_rfl) rfl ?_
        refine any_a (i := 11) rfl rfl (a_assign_d (lq rfl) rfl) ?_ ?_
        ·
         refine any_n [12] (by kernel_rfl) rfl ?_
         refine any_a (i := 12) rfl rfl (a_assign_row (lq rfl) rfl) ?_ ?_
         ·
          exact any_end rfl (out_mk (weak_cov ⟨rfl, rfl, rfl, trivial⟩ ⟨rfl, trivial⟩))
         ·
          exact any_nil
        ·
         exact any_nil
       ·
        exact any_nil
      ·
       exact any_nil
     refine any_b (i := 9) rfl rfl (g_call [(5, 2537)] (slices_Clone_api_Element_api_Element_g ht37) (lq rfl) (by decide) ⟨rfl, trivial⟩ rfl rfl trivial rfl rfl rfl (fun _ => rfl) rfl) ?_ ?_
     ·
      refine any_n [7, 10] (by kernel_rfl) rfl ?_
      refine any_a (i := 7) rfl rfl (m_slice3 (en := eI) (lq rfl) S30 rfl rfl rfl rfl ht35) ?_ ?_
      ·
       refine any_n [10] (by kernel_rfl) rfl ?_
       refine any_a (i := 10) rfl rfl (a_assign_d (lq rfl) rfl) ?_ ?_
       ·
        refine any_n [11] (by kernel_rfl) rfl ?_
        refine any_a (i := 11) rfl rfl (a_assign_d (lq rfl) rfl) ?_ ?_
        ·
         refine any_n [12] (by kernel_rfl) rfl ?_
         refine any_a (i := 12) rfl rfl (a_assign_row (lq rfl) rfl) ?_ ?_
         ·
          exact any_end rfl (out_mk (weak_cov ⟨rfl, rfl, rfl, trivial⟩ ⟨rfl, trivial⟩))
         ·
          exact any_nil
        ·
         exact any_nil
       ·
        exact any_nil
      refine any_a (i := 10) rfl rfl (a_assign_d (lq rfl) rfl) ?_ ?_
      ·
       refine any_n [7] (by kernel_rfl) rfl ?_
       refine any_a (i := 7) rfl rfl (m_slice3 (en := eI) (lq rfl) S30 rfl rfl rfl rfl ht35) ?_ ?_
       ·
        refine any_n [11] (by kernel_rfl) rfl ?_
        refine any_a (i := 11) rfl rfl (a_assign_d (lq rfl) rfl) ?_ ?_
        ·
         refine any_n [12] (by kernel_rfl) rfl ?_
         refine any_a (i := 12) rfl rfl (a_assign_row (lq rfl) rfl) ?_ ?_
         ·
          exact any_end rfl (out_mk (weak_cov ⟨rfl, rfl, rfl, trivial⟩ ⟨rfl, trivial⟩))
         ·
          exact any_nil
        ·
         exact any_nil
       ·
        exact any_nil
      exact any_nil
     exact any_nil
    refine any_b (i := 9) rfl rfl (g_call [(5, 2537)] (slices_Clone_api_Element_api_Element_g ht37) (lq rfl) (by decide) ⟨rfl, trivial⟩ rfl rfl trivial rfl rfl rfl (fun _ => rfl) rfl) ?_ ?_
    ·
     refine any_n [6, 10] (by kernel_rfl) rfl ?_
     refine any_a (i := 6) rfl rfl (m_len (en := eI) (l := t24.2.2.2) (lq rfl) S30 rfl) ?_ ?_
     ·
      refine any_n [7, 10] (by kernel_rfl) rfl ?_
      refine any_a (i := 7) rfl rfl (m_slice3 (en := eI) (lq rfl) S30 rfl rfl rfl rfl ht35) ?_ ?_
      ·
       refine any_n [10] (by kernel_rfl) rfl ?_
       refine any_a (i := 10) rfl rfl (a_assign_d (lq rfl) rfl) ?_ ?_
       ·
        refine any_n [11] (by kernel_rfl) rfl ?_
        refine any_a (i := 11) rfl rfl (a_assign_d (lq rfl) rfl) ?_ ?_
        ·
         refine any_n [12] (by kernel_rfl) rfl ?_
         refine any_a (i := 12) rfl rfl (a_assign_row (lq rfl) rfl) ?_ ?_
         ·
          exact any_end rfl (out_mk (weak_cov ⟨rfl, rfl, rfl, trivial⟩ ⟨rfl, trivial⟩))
         ·
          exact any_nil
        ·
         exact any_nil
       ·
        exact any_nil
      refine any_a (i := 10) rfl rfl (a_assign_d (lq rfl) rfl) ?_ ?_
      ·
       refine any_n [7] (by kernel_rfl) rfl ?_
       refine any_a (i := 7) rfl rfl (m_slice3 (en := eI) (lq rfl) S30 rfl rfl rfl rfl ht35) ?_ ?_
       ·
        refine any_n [11] (by kernel_rfl) rfl ?_
        refine any_a (i := 11) rfl rfl (a_assign_d (lq rfl) rfl) ?_ ?_
        ·
         refine any_n [12] (by kernel_rfl) rfl ?_
         refine any_a (i := 12) rfl rfl (a_assign_row (lq rfl) rfl) ?_ ?_
         ·
          exact any_end rfl (out_mk (weak_cov ⟨rfl, rfl, rfl, trivial⟩ ⟨rfl, trivial⟩))
         ·
          exact any_nil
        ·
         exact any_nil
       ·
        exact any_nil
      exact any_nil
     refine any_a (i := 10) rfl rfl (a_assign_d (lq rfl) rfl) ?_ ?_
     ·
      refine any_n [6] (by kernel_rfl) rfl ?_
      refine any_a (i := 6) rfl rfl (m_len (en := eI) (l := t24.2.2.2) (lq rfl) S30 rfl) ?_ ?_
      ·
       refine any_n [7] (by kernel_rfl) rfl ?_
       refine any_a (i := 7) rfl rfl (m_slice3 (en := eI) (lq rfl) S30 rfl rfl rfl rfl ht35) ?_ ?_
       ·
        refine any_n [11] (by kernel_rfl) rfl ?_
        refine any_a (i := 11) rfl rfl (a_assign_d (lq rfl) rfl) ?_ ?_
        ·
         refine any_n [12] (by kernel_rfl) rfl ?_
         refine any_a (i := 12) rfl rfl (a_assign_row (lq rfl) rfl) ?_ ?_
         ·
          exact any_end rfl (out_mk (weak_cov ⟨rfl, rfl, rfl, trivial⟩ ⟨rfl, trivial⟩))
         ·
          exact any_nil
        ·
         exact any_nil
       ·
        exact any_nil
      ·
       exact any_nil
     exact any_nil
    exact any_nil
   refine any_a (i := 6) rfl rfl (m_len (en := eI) (l := t24.2.2.2) (lq rfl) S30 rfl) ?_ ?_
   ·
    refine any_n [4, 9] (by kernel_rfl) rfl ?_
    refine any_a (i := 4) rfl rfl (m_len (en := eI) (l := t24.2.2.2) (lq rfl) S30 rfl) ?_ ?_
    ·
     refine any_n [7, 9] (by kernel_rfl) rfl ?_
     refine any_a (i := 7) rfl rfl (m_slice3 (en := eI) (lq rfl) S30 rfl rfl rfl rfl ht35) ?_ ?_
     ·
      refine any_n [9] (by kernel_rfl) rfl ?_
      refine any_b (i := 9) rfl rfl (g_call [(5, 2537)] (slices_Clone_api_Element_api_Element_g ht37) (lq rfl) (by decide) ⟨rfl, trivial⟩ rfl rfl trivial rfl rfl rfl (fun _ => rfl) rfl) ?_ ?_
      ·
       refine any_n [10] (by kernel_rfl) rfl ?_
       refine any_a (i := 10) rfl rfl (a_assign_d (lq rfl) rfl) ?_ ?_
       ·
        refine any_n [11] (by kernel_rfl) rfl ?_
        refine any_a (i := 11) rfl rfl (a_assign_d (lq rfl) rfl) ?_ ?_
        ·
         refine any_n [12] (by kernel_rfl) rfl ?_
         refine any_a (i := 12) rfl rfl (a_assign_row (lq rfl) rfl) ?_ ?_
         ·
          exact any_end rfl (out_mk (weak_cov ⟨rfl, rfl, rfl, trivial⟩ ⟨rfl, trivial⟩))
         ·
          exact any_nil
        ·
         exact any_nil
       ·
        exact any_nil
      ·
       exact any_nil
     refine any_b (i := 9) rfl rfl (g_call [(5, 2537)] (slices_Clone_api_Element_api_Element_g ht37) (lq rfl) (by decide) ⟨rfl, trivial⟩ rfl rfl trivial rfl rfl rfl (fun _ => rfl) rfl) ?_ ?_
     ·
      refine any_n [7, 10] (by kernel_rfl) rfl ?_
      refine any_a (i := 7) rfl rfl (m_slice3 (en := eI) (lq rfl) S30 rfl rfl rfl rfl ht35) ?_ ?_
      ·
       refine any_n [10] (by kernel_rfl) rfl ?_
       refine any_a (i := 10) rfl rfl (a_assign_d (lq rfl) rfl) ?_ ?_
       ·
        refine any_n [11] (by kernel_rfl) rfl ?_
        refine any_a (i := 11) rfl rfl (a_assign_d (lq rfl) rfl) ?_ ?_
        ·
         refine any_n [12] (by kernel_rfl) rfl ?_
         refine any_a (i := 12) rfl rfl (a_assign_row (lq rfl) rfl) ?_ ?_
         ·
          exact any_end rfl (out_mk (weak_cov ⟨rfl, rfl, rfl, trivial⟩ ⟨rfl, trivial⟩))
         ·
          exact any_nil
        ·
         exact any_nil
       ·
        exact any_nil
      refine any_a (i := 10) rfl rfl (a_assign_d (lq rfl) rfl) ?_ ?_
      ·
       refine any_n [7] (by kernel_rfl) rfl ?_
       refine any_a (i := 7) rfl rfl (m_slice3 (en := eI) (lq rfl) S30 rfl rfl rfl rfl ht35) ?_ ?_
       ·
        refine any_n [11] (by kernel_rfl) rfl ?_
        refine any_a (i := 11) rfl rfl (a_assign_d (lq rfl) rfl) ?_ ?_
        ·
         refine any_n [12] (by kernel_rfl) rfl ?_
         refine any_a (i := 12) rfl rfl (a_assign_row (lq rfl) rfl) ?_ ?_
         ·
          exact any_end rfl (out_mk (weak_cov ⟨rfl, rfl, rfl, trivial⟩ ⟨rfl, trivial⟩))
         ·
          exact any_nil
        ·
         exact any_nil
       ·
        exact any_nil
      exact any_nil
     exact any_nil
    refine any_b (i := 9) rfl rfl (g_call [(5, 2537)] (slices_Clone_api_Element_api_Element_g ht37) (lq rfl) (by decide) ⟨rfl, trivial⟩ rfl rfl trivial rfl rfl rfl (fun _ => rfl) rfl) ?_ ?_
    ·
     refine any_n [4, 10] (by kernel_rfl) rfl ?_
     refine any_a (i := 4) rfl rfl (m_len (en := eI) (l := t24.2.2.2) (lq rfl) S30 rfl) ?_ ?_
     ·
      refine any_n [7, 10] (by kernel_rfl) rfl ?_
      refine any_a (i := 7) rfl rfl (m_slice3 (en := eI) (lq rfl) S30 rfl rfl rfl rfl ht35) ?_ ?_
      ·
       refine any_n [10] (by kernel_rfl) rfl ?_
       refine any_a (i := 10) rfl rfl (a_assign_d (lq rfl) rfl) ?_ ?_
       ·
        refine any_n [11] (by kernel_rfl) rfl ?_
        refine any_a (i := 11) rfl rfl (a_assign_d (lq rfl) rfl) ?_ ?_
        ·
         refine any_n [12] (by kernel_rfl) rfl ?_
         refine any_a (i := 12) rfl rfl (a_assign_row (lq rfl) rfl) ?_ ?_
         ·
          exact any_end rfl (out_mk (weak_cov ⟨rfl, rfl, rfl, trivial⟩ ⟨rfl, trivial⟩))
         ·
          exact any_nil
        ·
         exact any_nil
       ·
        exact any_nil
      refine any_a (i := 10) rfl rfl (a_assign_d (lq rfl) rfl) ?_ ?_
      ·
       refine any_n [7] (by kernel_rfl) rfl ?_
       refine any_a (i := 7) rfl rfl (m_slice3 (en := eI) (lq rfl) S30 rfl rfl rfl rfl ht35) ?_ ?_
       ·
        refine any_n [11] (by kernel_rfl) rfl ?_
        refine any_a (i := 11) rfl rfl (a_assign_d (lq rfl) rfl) ?_ ?_
        ·
         refine any_n [12] (by kernel_rfl) rfl ?_
         refine any_a (i := 12) rfl rfl (a_assign_row (lq rfl) rfl) ?_ ?_
         ·
          exact any_end rfl (out_mk (weak_cov ⟨rfl, rfl, rfl, trivial⟩ ⟨rfl, trivial⟩))
         ·
          exact any_nil
        ·
         exact any_nil
       ·
        exact any_nil
      exact any_nil
     refine any_a (i := 10) rfl rfl (a_assign_d (lq rfl) rfl) ?_ ?_
     ·
      refine any_n [4] (by kernel_rfl) rfl ?_
      refine any_a (i := 4) rfl rfl (m_len (en := eI) (l := t24.2.2.2) (lq rfl) S30 rfl) ?_ ?_
      ·
       refine any_n [7] (by kernel_rfl) rfl ?_
       refine any_a (i := 7) rfl rfl (m_slice3 (en := eI) (lq rfl) S30 rfl rfl rfl rfl ht35) ?_ ?_
       ·
        refine any_n [11] (by kernel_rfl) rfl ?_
        refine any_a (i := 11) rfl rfl (a_assign_d (lq rfl) rfl) ?_ ?_
        ·
         refine any_n [12] (by kernel_rfl) rfl ?_
         refine any_a (i := 12) rfl rfl (a_assign_row (lq rfl) rfl) ?_ ?_
         ·
          exact any_end rfl (out_mk (weak_cov ⟨rfl, rfl, rfl, trivial⟩ ⟨rfl, trivial⟩))
         ·
          exact any_nil
        ·
         exact any_nil
       ·
        exact any_nil
      ·
       exact any_nil
     exact any_nil
    exact any_nil
   refine any_b (i := 9) rfl rfl (g_call [(5, 2537)] (slices_Clone_api_Element_api_Element_g ht37) (lq rfl) (by decide) ⟨rfl, trivial⟩ rfl rfl trivial rfl rfl rfl (fun _ => rfl) rfl) ?_ ?_
   ·
    refine any_n [4, 6, 10] (by kernel_rfl) rfl ?_
    refine any_a (i := 4) rfl rfl (m_len (en := eI) (l := t24.2.2.2) (lq rfl) S30 rfl) ?_ ?_
    ·
     refine any_n [6, 10] (by kernel_rfl) rfl ?_
     refine any_a (i := 6) rfl rfl (m_len (en := eI) (l := t24.2.2.2) (lq rfl) S30 rfl) ?_ ?_
     ·
      refine any_n [7, 10] (by kernel_rfl) rfl ?_
      refine any_a (i := 7) rfl rfl (m_slice3 (en := eI) (lq rfl) S30 rfl rfl rfl rfl ht35) ?_ ?_
      ·
       refine any_n [10] (by kernel_rfl) rfl ?_
       refine any_a (i := 10) rfl rfl (a_assign_d (lq rfl) rfl) ?_ ?_
       ·
        refine any_n [11] (by kernel_rfl) rfl ?_
        refine any_a (i := 11) rfl rfl (a_assign_d (lq rfl) rfl) ?_ ?_
        ·
         refine any_n [12] (by kernel_rfl) rfl ?_
         refine any_a (i := 12) rfl rfl (a_assign_row (lq rfl) rfl) ?_ ?_
         ·
          exact any_end rfl (out_mk (weak_cov ⟨rfl, rfl, rfl, trivial⟩ ⟨rfl, trivial⟩))
         ·
          exact any_nil
        ·
         exact any_nil
       ·
        exact any_nil
      refine any_a (i := 10) rfl rfl (a_assign_d (lq rfl) rfl) ?_ ?_
      ·
       refine any_n [7] (by kernel_rfl) rfl ?_
       refine any_a (i := 7) rfl rfl (m_slice3 (en := eI) (lq rfl) S30 rfl rfl rfl rfl ht35) ?_ ?_
       ·
        refine any_n [11] (by kernel_rfl) rfl ?_
        refine any_a (i := 11) rfl rfl (a_assign_d (lq rfl) rfl) ?_ ?_
        ·
         refine any_n [12] (by kernel_rfl) rfl ?_
         refine any_a (i := 12) rfl rfl (a_assign_row (lq rfl) rfl) ?_ ?_
         ·
          exact any_end rfl (out_mk (weak_cov ⟨rfl, rfl, rfl, trivial⟩ ⟨rfl, trivial⟩))
         ·
          exact any_nil
        ·
         exact any_nil
       ·
        exact any_nil
      exact any_nil
     refine any_a (i := 10) rfl rfl (a_assign_d (lq rfl) rfl) ?_ ?_
     ·
      refine any_n [6] (by kernel_rfl) rfl ?_
      refine any_a (i := 6) rfl rfl (m_len (en := eI) (l := t24.2.2.2) (lq rfl) S30 rfl) ?_ ?_
      ·
       refine any_n [7] (by kernel_rfl) rfl ?_
       refine any_a (i := 7) rfl rfl (m_slice3 (en := eI) (lq rfl) S30 rfl rfl rfl rfl ht35) ?_ ?_
       ·
        refine any_n [11] (by kernel_rfl) rfl ?_
        refine any_a (i := 11) rfl rfl (a_assign_d (lq rfl) rfl) ?_ ?_
        ·
         refine any_n [12] (by kernel_rfl) rfl ?_
         refine any_a (i := 12) rfl rfl (a_assign_row (lq rfl) rfl) ?_ ?_
         ·
          exact any_end rfl (out_mk (weak_cov ⟨rfl, rfl, rfl, trivial⟩ ⟨rfl, trivial⟩))
         ·
          exact any_nil
        ·
         exact any_nil
       ·
        exact any_nil
      ·
       exact any_nil
     exact any_nil
    refine any_a (i := 6) rfl rfl (m_len (en := eI) (l := t24.2.2.2) (lq rfl) S30 rfl) ?_ ?_
    ·
     refine any_n [4, 10] (by kernel_rfl) rfl ?_
     refine any_a (i := 4) rfl rfl (m_len (en := eI) (l := t24.2.2.2) (lq rfl) S30 rfl) ?_ ?_
     ·
      refine any_n [7, 10] (by kernel_rfl) rfl ?_
      refine any_a (i := 7) rfl rfl (m_slice3 (en := eI) (lq rfl) S30 rfl rfl rfl rfl ht35) ?_ ?_
      ·
       refine any_n [10] (by kernel_rfl) rfl ?_
       refine any_a (i := 10) rfl rfl (a_assign_d (lq rfl) rfl) ?_ ?_
       ·
        refine any_n [11] (by kernel_rfl) rfl ?_
        refine any_a (i := 11) rfl rfl (a_assign_d (lq rfl) rfl) ?_ ?_
        ·
         refine any_n [12] (by kernel_rfl) rfl ?_
         refine any_a (i := 12) rfl rfl (a_assign_row (lq rfl) rfl) ?_ ?_
         ·
          exact any_end rfl (out_mk (weak_cov ⟨rfl, rfl, rfl, trivial⟩ ⟨rfl, trivial⟩))
         ·
          exact any_nil
        ·
         exact any_nil
       ·
        exact any_nil
      refine any_a (i := 10) rfl rfl (a_assign_d (lq rfl) rfl) ?_ ?_
      ·
       refine any_n [7] (by kernel_rfl) rfl ?_
       refine any_a (i := 7) rfl rfl (m_slice3 (en := eI) (lq rfl) S30 rfl rfl rfl rfl ht35) ?_ ?_
       ·
        refine any_n [11] (by kernel_rfl) rfl ?_
        refine any_a (i := 11) rfl rfl (a_assign_d (lq rfl) rfl) ?_ ?_
        ·
         refine any_n [12] (by kernel_rfl) rfl ?_
         refine any_a (i := 12) rfl rfl (a_assign_row (lq rfl) rfl) ?_ ?_
         ·
          exact any_end rfl (out_mk (weak_cov ⟨rfl, rfl, rfl, trivial⟩ ⟨rfl, trivial⟩))
         ·
          exact any_nil
        ·
         exact any_nil
       ·
        exact any_nil
      exact any_nil
     refine any_a (i := 10) rfl rfl (a_assign_d (lq rfl) rfl) ?_ ?_
     ·
      refine any_n [4] (by kernel_rfl) rfl ?_
      refine any_a (i := 4) rfl rfl (m_len (en := eI) (l := t24.2.2.2) (lq rfl) S30 rfl) ?_ ?_
      ·
       refine any_n [7] (by kernel_rfl) rfl ?_
       refine any_a (i := 7) rfl rfl (m_slice3 (en := eI) (lq rfl) S30 rfl rfl rfl rfl ht35) ?_ ?_
       ·
        refine any_n [11] (by kernel_rfl) rfl ?_
        refine any_a (i := 11) rfl rfl (a_assign_d (lq rfl) rfl) ?_ ?_
        ·
         refine any_n [12] (by kernel_rfl) rfl ?_
         refine any_a (i := 12) rfl rfl (a_assign_row (lq rfl) rfl) ?_ ?_
         ·
          exact any_end rfl (out_mk (weak_cov ⟨rfl, rfl, rfl, trivial⟩ ⟨rfl, trivial⟩))
         ·
          exact any_nil
        ·
         exact any_nil
       ·
        exact any_nil
      ·
       exact any_nil
     exact any_nil
    refine any_a (i := 10) rfl rfl (a_assign_d (lq rfl) rfl) ?_ ?_
    ·
     refine any_n [4, 6] (by kernel_rfl) rfl ?_
     refine any_a (i := 4) rfl rfl (m_len (en := eI) (l := t24.2.2.2) (lq rfl) S30 rfl) ?_ ?_
     ·
      refine any_n [6] (by kernel_rfl) rfl ?_
      refine any_a (i := 6) rfl rfl (m_len (en := eI) (l := t24.2.2.2) (lq rfl) S30 rfl) ?_ ?_
      ·
       refine any_n [7] (by kernel_rfl) rfl ?_
       refine any_a (i := 7) rfl rfl (m_slice3 (en := eI) (lq rfl) S30 rfl rfl rfl rfl ht35) ?_ ?_
       ·
        refine any_n [11] (by kernel_rfl) rfl ?_
        refine any_a (i := 11) rfl rfl (a_assign_d (lq rfl) rfl) ?_ ?_
        ·
         refine any_n [12] (by kernel_rfl) rfl ?_
         refine any_a (i := 12) rfl rfl (a_assign_row (lq rfl) rfl) ?_ ?_
         ·
          exact any_end rfl (out_mk (weak_cov ⟨rfl, rfl, rfl, trivial⟩ ⟨rfl, trivial⟩))
         ·
          exact any_nil
        ·
         exact any_nil
       ·
        exact any_nil
      ·
       exact any_nil
     refine any_a (i := 6) rfl rfl (m_len (en := eI) (l := t24.2.2.2) (lq rfl) S30 rfl) ?_ ?_
     ·
      refine any_n [4] (by kernel_rfl) rfl ?_
      refine any_a (i := 4) rfl rfl (m_len (en := eI) (l := t24.2.2.2) (lq rfl) S30 rfl) ?_ ?_
      ·
       refine any_n [7] (by kernel_rfl) rfl ?_
       refine any_a (i := 7) rfl rfl (m_slice3 (en := eI) (lq rfl) S30 rfl rfl rfl rfl ht35) ?_ ?_
       ·
        refine any_n [11] (by kernel_rfl) rfl ?_
        refine any_a (i := 11) rfl rfl (a_assign_d (lq rfl) rfl) ?_ ?_
        ·
         refine any_n [12] (by kernel_rfl) rfl ?_
         refine any_a (i := 12) rfl rfl (a_assign_row (lq rfl) rfl) ?_ ?_
         ·
          exact any_end rfl (out_mk (weak_cov ⟨rfl, rfl, rfl, trivial⟩ ⟨rfl, trivial⟩))
         ·
          exact any_nil
        ·
         exact any_nil
       ·
        exact any_nil
      ·
       exact any_nil
     exact any_nil
    exact any_nil
   exact any_nil
  cases h
  refine avc_ret ?_
  exact ret_three rfl rfl rfl
theorem ref01_Compare_c  {a0 : (List Int)} {a1 : (List Int)}  {r : Int} (h : ref01_Compare a0 a1 = some r) : Contract Tryd.prog 41 [(dsl eI a0), (dsl eI a1)] [(di r)] := by
 refine contract_of Tryd.func41 (by kernel_rfl) rfl (lq rfl) (lq rfl) fun w0 I0 hI0 hG0 => ?_
 unfold ref01_Compare at h
 refine avc_sq2 <| avc_sq ?_
 refine sqa (a_assign_d (lq rfl) rfl) ?_
 refine sq_nil <| avc_sq2 <| avc_sq2 <| avc_sq ?_
 refine sqa (a_assign_d (lq rfl) rfl) ?_
 refine sq_nil <| avc_block ?_
 obtain ⟨y1, hy1, h'⟩ := bE h; clear h
 refine avc_tail2 y1 (.exit 0) (fun y1 => ⟨[(0, .d (dsl eI a0)), (1, .d (dsl eI a1))], []⟩) .ret (fun y1 => ⟨[(4, .d (di y1))], []⟩) ?_ ?_ ?_
 ·
  refine avc_loopM (fun x => ⟨[(0, .d (dsl eI a0)), (1, .d (dsl eI a1)), (5, .d (di x))], []⟩) hy1 (weak_cov ⟨rfl, rfl, rfl, trivial⟩ trivial) ?_
  rintro v5 sy1 hsy1
  replace hsy1 : ref01_Compare_L0 a0 a1 v5 = some sy1 := hsy1
  unfold ref01_Compare_L0 at hsy1
  refine avc_sq2 <| avc_sq2 <| avc_sq ?_
  refine sqa (a_move_d (lq rfl) rfl) ?_
  refine sqa (a_move_d (lq rfl) rfl) ?_
  refine sqa (m_len (en := eI) (l := a0) (lq rfl) S30 rfl) ?_
  refine sqa (a_lss (lq rfl) rfl rfl) ?_
  obtain ⟨b10, hb10, hsy1'⟩ := bE hsy1; clear hsy1
  refine sqa ((a_move_d (lq rfl) rfl).bool (Option.some.inj hb10)) ?_
  refine sq_g (x := .d (di v5)) rfl rfl rfl (lq rfl) (lq rfl) rfl (fun hb => by obtain rfl : b10 = true := hb; exact a_move_d (lq rfl) rfl) ?_
  refine sq_g (x := .d (dsl eI a1)) rfl rfl rfl (lq rfl) (lq rfl) rfl (fun hb => by obtain rfl : b10 = true := hb; exact a_move_d (lq rfl) rfl) ?_
  refine sq_g (x := .d (di (a1.length : Int))) rfl rfl rfl (lq rfl) (lq rfl) rfl (fun hb => by obtain rfl : b10 = true := hb; exact m_len (en := eI) (l := a1) (lq rfl) S30 rfl) ?_
  refine sq_g (x := .d (db (decide (v5 < (a1.length : Int))))) rfl rfl rfl (lq rfl) (lq rfl) rfl (fun hb => by obtain rfl : b10 = true := hb; exact a_lss (lq rfl) rfl rfl) ?_
  refine sqa (a_pick_and (lq rfl) rfl rfl) ?_
  refine sq_nil ?_
  refine avc_if rfl ⟨fun c1 => ?_, fun c1 => ?_⟩
  ·
   replace hsy1' := cT c1 hsy1'
   refine avc_skip <| avc_sq2 <| avc_block <| avc_sq2 <| avc_sq2 ?_
   refine avc_drawA MX rfl ?_
   refine daa (a_move_d (lq rfl) rfl) ?_
   refine daa (a_move_d (lq rfl) rfl) ?_
   obtain ⟨t20, ht20, hsy1⟩ := bE hsy1'; clear hsy1'
   refine daa (m_index (en := eI) (lq rfl) S30 rfl rfl ht20) ?_
   refine daa (m_loadE (en := eI) (l := a0) (i := v5) (v := t20) (off := 0) (lq rfl) O3 rfl ht20 rfl) ?_
   refine daa (a_move_d (lq rfl) rfl) ?_
   refine daa (a_move_d (lq rfl) rfl) ?_
   obtain ⟨t24, ht24, hsy1'⟩ := bE hsy1; clear hsy1
   refine daa (m_index (en := eI) (lq rfl) S30 rfl rfl ht24) ?_
   refine daa (m_loadE (en := eI) (l := a1) (i := v5) (v := t24) (off := 0) (lq rfl) O3 rfl ht24 rfl) ?_
   refine daa (a_lss (lq rfl) rfl rfl) ?_
   refine da_nil ?_
   refine avc_if rfl ⟨fun c2 => ?_, fun c2 => ?_⟩
   ·
    replace hsy1' := cT c2 hsy1'
    refine avc_sq2 <| avc_sq ?_
    refine sqa (a_assign_d (lq rfl) rfl) ?_
    refine sq_nil ?_
    refine avc_ret ?_
    cases hsy1'
    intro q; cases q
    exact ⟨rfl, weak_cov ⟨rfl, trivial⟩ trivial⟩
   ·
    replace hsy1' := cF c2 hsy1'
    refine avc_skip <| avc_sq2 ?_
    refine avc_drawA MX rfl ?_
    refine daa (a_move_d (lq rfl) rfl) ?_
    refine daa (a_move_d (lq rfl) rfl) ?_
    obtain ⟨t29, ht29, hsy1⟩ := bE hsy1'; clear hsy1'
    refine daa (m_index (en := eI) (lq rfl) S30 rfl rfl ht29) ?_
    refine daa (m_loadE (en := eI) (l := a0) (i := v5) (v := t29) (off := 0) (lq rfl) O3 rfl ht29 rfl) ?_
    refine daa (a_move_d (lq rfl) rfl) ?_
    refine daa (a_move_d (lq rfl) rfl) ?_
    obtain ⟨t33, ht33, hsy1'⟩ := bE hsy1; clear hsy1
    refine daa (m_index (en := eI) (lq rfl) S30 rfl rfl ht33) ?_
    refine daa (m_loadE (en := eI) (l := a1) (i := v5) (v := t33) (off := 0) (lq rfl) O3 rfl ht33 rfl) ?_
    refine daa (a_gtr (lq rfl) rfl rfl) ?_
    refine da_nil ?_
    refine avc_if rfl ⟨fun c3 => ?_, fun c3 => ?_⟩
    ·
     replace hsy1' := cT c3 hsy1'
     refine avc_sq2 <| avc_sq ?_
     refine sqa (a_assign_d (lq rfl) rfl) ?_
     refine sq_nil ?_
     refine avc_ret ?_
     cases hsy1'
     intro q; cases q
     exact ⟨rfl, weak_cov ⟨rfl, trivial⟩ trivial⟩
    ·
     replace hsy1' := cF c3 hsy1'
     refine avc_skip <| avc_sq ?_
     refine sqa (a_move_d (lq rfl) rfl) ?_
     refine sqa (m_add (lq rfl) rfl rfl) ?_
     refine sqa (a_assign_d (lq rfl) rfl) ?_
     refine sq_nil ?_
     cases hsy1'
     exact weak_cov ⟨rfl, rfl, rfl, trivial⟩ trivial
  ·
   replace hsy1' := cF c1 hsy1'
   refine avc_exit ?_
   cases hsy1'
   intro q; cases q
   exact ⟨rfl, weak_cov ⟨rfl, rfl, trivial⟩ trivial⟩
 ·
  rintro y1 rfl
  replace h' := eL h'
  refine avc_sq2 <| avc_sq2 <| avc_sq ?_
  refine sqa (a_move_d (lq rfl) rfl) ?_
  refine sqa (m_len (en := eI) (l := a0) (lq rfl) S30 rfl) ?_
  refine sqa (a_move_d (lq rfl) rfl) ?_
  refine sqa (m_len (en := eI) (l := a1) (lq rfl) S30 rfl) ?_
  refine sqa (a_lss (lq rfl) rfl rfl) ?_
  refine sq_nil ?_
  refine avc_if rfl ⟨fun c4 => ?_, fun c4 => ?_⟩
  ·
   replace h' := cT c4 h'
   refine avc_sq2 <| avc_sq ?_
   refine sqa (a_assign_d (lq rfl) rfl) ?_
   refine sq_nil ?_
   cases h'
   refine avc_ret ?_
   exact ret_1 rfl
  ·
   replace h' := cF c4 h'
   refine avc_skip <| avc_sq2 <| avc_sq2 <| avc_sq ?_
   refine sqa (a_move_d (lq rfl) rfl) ?_
   refine sqa (m_len (en := eI) (l := a0) (lq rfl) S30 rfl) ?_
   refine sqa (a_move_d (lq rfl) rfl) ?_
   refine sqa (m_len (en := eI) (l := a1) (lq rfl) S30 rfl) ?_
   refine sqa (a_gtr (lq rfl) rfl rfl) ?_
   refine sq_nil ?_
   refine avc_if rfl ⟨fun c5 => ?_, fun c5 => ?_⟩
   ·
    replace h' := cT c5 h'
    refine avc_sq2 <| avc_sq ?_
    refine sqa (a_assign_d (lq rfl) rfl) ?_
    refine sq_nil ?_
    cases h'
    refine avc_ret ?_
    exact ret_1 rfl
   ·
    replace h' := cF c5 h'
    refine avc_skip <| avc_sq2 <| avc_sq ?_
    refine sqa (a_assign_d (lq rfl) rfl) ?_
    refine sq_nil ?_
    cases h'
    refine avc_ret ?_
    exact ret_1 rfl
 ·
  rintro y1 rfl
  replace h' := eR h'
  cases h'
  exact ret_1 rfl
theorem ref01_Equal_c  {a0 : (List Int)} {a1 : (List Int)}  {r : Bool} (h : ref01_Equal a0 a1 = some r) : Contract Tryd.prog 19 [(dsl eI a0), (dsl eI a1)] [(db r)] := by
 refine contract_of Tryd.func19 (by kernel_rfl) rfl (lq rfl) (lq rfl) fun w0 I0 hI0 hG0 => ?_
 unfold ref01_Equal at h
 refine avc_sq2 <| avc_sq ?_
 refine sqa (a_assign_d (lq rfl) rfl) ?_
 refine sq_nil <| avc_sq2 <| avc_sq ?_
 refine sqa (a_move_d (lq rfl) rfl) ?_
 refine sqa (a_move_d (lq rfl) rfl) ?_
 obtain ⟨t7, ht7, h'⟩ := bE h; clear h
 refine sqa (a_call (lq rfl) rfl (ref01_Compare_c ht7)) ?_
 refine sqa (a_eql (lq rfl) rfl rfl) ?_
 refine sqa (a_assign_d (lq rfl) rfl) ?_
 refine sq_nil ?_
 cases h'
 refine avc_ret ?_
 exact ret_1 rfl
theorem ref43_Same_c  {a0 : (List Element)} {a1 : (List Element)}  {r : Bool} (h : ref43_Same a0 a1 = some r) : Contract Tryd.prog 14 [(dsl eElement a0), (dsl eElement a1)] [(db r)] := by
 refine contract_of Tryd.func14 (by kernel_rfl) rfl (lq rfl) (lq rfl) fun w0 I0 hI0 hG0 => ?_
 unfold ref43_Same at h
 refine avc_sq2 <| avc_sq ?_
 refine sqa (a_assign_d (lq rfl) rfl) ?_
 refine sq_nil <| avc_sq2 <| avc_sq2 <| avc_sq ?_
 refine sqa (a_move_d (lq rfl) rfl) ?_
 refine sqa (m_len (en := eElement) (l := a0) (lq rfl) S31 rfl) ?_
 refine sqa (a_move_d (lq rfl) rfl) ?_
 refine sqa (m_len (en := eElement) (l := a1) (lq rfl) S31 rfl) ?_
 refine sqa (a_neq (lq rfl) rfl rfl) ?_
 refine sq_nil ?_
 refine avc_if rfl ⟨fun c1 => ?_, fun c1 => ?_⟩
 ·
  replace h := cT c1 h
  refine avc_sq2 <| avc_sq ?_
  refine sqa (a_assign_d (lq rfl) rfl) ?_
  refine sq_nil ?_
  cases h
  refine avc_ret ?_
  exact ret_1 rfl
 ·
  replace h := cF c1 h
  refine avc_skip <| avc_sq2 <| avc_sq2 <| avc_sq ?_
  refine sqa (a_assign_d (lq rfl) rfl) ?_
  refine sq_nil <| avc_block ?_
  obtain ⟨y1, hy1, h'⟩ := bE h; clear h
  refine avc_tail2 y1 (.exit 0) (fun y1 => ⟨[], []⟩) .ret (fun y1 => ⟨[(4, .d (db y1))], []⟩) ?_ ?_ ?_
  ·
   refine avc_loopM (fun x => ⟨[(0, .d (dsl eElement a0)), (1, .d (dsl eElement a1)), (5, .d (di x))], []⟩) hy1 (weak_cov ⟨rfl, rfl, rfl, trivial⟩ trivial) ?_
   rintro v5 sy1 hsy1
   replace hsy1 : ref43_Same_L0 a0 a1 v5 = some sy1 := hsy1
   unfold ref43_Same_L0 at hsy1
   refine avc_sq2 <| avc_sq2 <| avc_sq ?_
   refine sqa (a_move_d (lq rfl) rfl) ?_
   refine sqa (a_move_d (lq rfl) rfl) ?_
   refine sqa (m_len (en := eElement) (l := a0) (lq rfl) S31 rfl) ?_
   refine sqa (a_lss (lq rfl) rfl rfl) ?_
   refine sq_nil ?_
   refine avc_if rfl ⟨fun c2 => ?_, fun c2 => ?_⟩
   ·
    replace hsy1 := cT c2 hsy1
    refine avc_skip <| avc_sq2 <| avc_block <| avc_sq2 ?_
    refine avc_drawA MX rfl ?_
    refine daa (a_move_d (lq rfl) rfl) ?_
    refine daa (a_move_d (lq rfl) rfl) ?_
    obtain ⟨t19, ht19, hsy1'⟩ := bE hsy1; clear hsy1
    refine daa (m_index (en := eElement) (lq rfl) S31 rfl rfl ht19) ?_
    refine daa (m_loadEA (en := eElement) (l := a0) (i := v5) (v := t19) (off := 0) (lq rfl) G63 rfl ht19 rfl rfl (by decide)) ?_
    refine daa (a_move_d (lq rfl) rfl) ?_
    refine daa (a_move_d (lq rfl) rfl) ?_
    obtain ⟨t23, ht23, hsy1⟩ := bE hsy1'; clear hsy1'
    refine daa (m_index (en := eElement) (lq rfl) S31 rfl rfl ht23) ?_
    refine daa (m_loadEA (en := eElement) (l := a1) (i := v5) (v := t23) (off := 0) (lq rfl) G63 rfl ht23 rfl rfl (by decide)) ?_
    refine daa (m_stneq (en := eElement) (a := t19) (b := t23) (lq rfl) E63 rfl rfl) ?_
    refine da_nil ?_
    refine avc_if rfl ⟨fun c3 => ?_, fun c3 => ?_⟩
    ·
     replace hsy1 := cT c3 hsy1
     refine avc_sq2 <| avc_sq ?_
     refine sqa (a_assign_d (lq rfl) rfl) ?_
     refine sq_nil ?_
     refine avc_ret ?_
     cases hsy1
     intro q; cases q
     exact ⟨rfl, weak_cov ⟨rfl, trivial⟩ trivial⟩
    ·
     replace hsy1 := cF c3 hsy1
     refine avc_skip <| avc_sq ?_
     refine sqa (a_move_d (lq rfl) rfl) ?_
     refine sqa (m_add (lq rfl) rfl rfl) ?_
     refine sqa (a_assign_d (lq rfl) rfl) ?_
     refine sq_nil ?_
     cases hsy1
     exact weak_cov ⟨rfl, rfl, rfl, trivial⟩ trivial
   ·
    replace hsy1 := cF c2 hsy1
    refine avc_exit ?_
    cases hsy1
    intro q; cases q
    exact ⟨rfl, weak_cov trivial trivial⟩
  ·
   rintro y1 rfl
   replace h' := eL h'
   refine avc_sq2 <| avc_sq ?_
   refine sqa (a_assign_d (lq rfl) rfl) ?_
   refine sq_nil ?_
   cases h'
   refine avc_ret ?_
   exact ret_1 rfl
  ·
   rintro y1 rfl
   replace h' := eR h'
   cases h'
   exact ret_1 rfl
set_option maxRecDepth 40000 in
theorem law43_alive_c    {r : Bool} (h : law43_alive  = some r) : Contract Tryd.prog 11 [] [(db r)] := by
 refine contract_of Tryd.func11 (by kernel_rfl) rfl (lq rfl) (lq rfl) fun w0 I0 hI0 hG0 => ?_
 unfold law43_alive at h
 refine avc_sq2 <| avc_sq ?_
 refine sqa (a_assign_d (lq rfl) rfl) ?_
 refine sq_nil <| avc_sq2 <| avc_sq ?_
 refine sqa (m_build (lq rfl) B61 rfl rfl) ?_
 refine sqa (m_build (lq rfl) B61 rfl rfl) ?_
 refine sqa (a_lit (lq rfl) S37 rfl rfl rfl rfl (by decide) rfl) ?_
 refine sqa ((m_build (lq rfl) B43 rfl rfl).nils (bs := eNorm.cells ({ Classes := [({ Lo := 769, Hi := 769, Value := 230 } : Span), ({ Lo := 803, Hi := 803, Value := 220 } : Span)], Decomp := [], Excluded := (({ Ranges := [] }) : Set) } : Norm)) (nlE (nlN (nlN nl0)))) ?_
 refine sq_b rfl (step_alloc (zs := [(.slice none 0 0), (.slice none 0 0), (.slice none 0 0)]) (lq rfl) (by kernel_rfl) rfl rfl) ?_
 refine sq_b rfl (s_store_boxA G43 rfl rfl rfl rfl rfl rfl) ?_
 refine sq_nil ?_
 refine avc_weak (weak_freeze (t := 1) (lq rfl) rfl rfl rfl) ?_
 refine avc_sq2 <| avc_sq ?_
 refine sqa (m_build (lq rfl) B63 rfl rfl) ?_
 refine sqa (a_lit (lq rfl) S31 rfl rfl rfl rfl (by decide) rfl) ?_
 refine sqa (a_assign_d (lq rfl) rfl) ?_
 refine sq_nil <| avc_sq2 <| avc_sq ?_
 refine sqa (m_build (lq rfl) B63 rfl rfl) ?_
 refine sqa (a_lit (lq rfl) S31 rfl rfl rfl rfl (by decide) rfl) ?_
 refine sqa (a_assign_d (lq rfl) rfl) ?_
 refine sq_nil <| avc_sq2 <| avc_sq ?_
 refine sqa (a_lit (lq rfl) S30 rfl rfl rfl rfl (by decide) rfl) ?_
 refine sqa (a_move_d (lq rfl) rfl) ?_
 refine sqa (m_build (lq rfl) B55 rfl rfl) ?_
 refine sqa (a_lit (lq rfl) S30 rfl rfl rfl rfl (by decide) rfl) ?_
 refine sqa (a_move_d (lq rfl) rfl) ?_
 refine sqa (m_build (lq rfl) B55 rfl rfl) ?_
 refine sqa (a_lit (lq rfl) S22 rfl rfl rfl rfl (by decide) rfl) ?_
 refine sqa ((m_build (lq rfl) B25 rfl rfl).nils (bs := eCollation.cells ({ Entries := [({ Codes := [97], Elements := [({ Primary := 7, Secondary := 1, Tertiary := 1, Variable := false } : Element)] } : Entry), ({ Codes := [97, 769], Elements := [({ Primary := 8, Secondary := 1, Tertiary := 1, Variable := false } : Element)] } : Entry)], Groups := [], Base := 100, Second := 1, Third := 1 } : Collation)) (nlE (nlN (nlE (nlE (nlE nl0)))))) ?_
 refine sq_b rfl (step_alloc (zs := [(.slice none 0 0), (.slice none 0 0), (.int IntKind.i64 (0)), (.int IntKind.i64 (0)), (.int IntKind.i64 (0))]) (lq rfl) (by kernel_rfl) rfl rfl) ?_
 refine sq_b rfl (s_store_boxA G25 rfl rfl rfl rfl rfl rfl) ?_
 refine sq_nil ?_
 refine avc_weak (weak_freeze (t := 4) (lq rfl) rfl rfl rfl) ?_
 refine avc_sq2 <| avc_sq ?_
 refine sqa (m_loadPt (lq rfl) G43 rfl rfl) ?_
 refine sqa (m_loadPt (lq rfl) G25 rfl rfl) ?_
 refine sqa (a_lit (lq rfl) S30 rfl rfl rfl rfl (by decide) rfl) ?_
 obtain ⟨t28, ht28, h'⟩ := bE h; clear h
 refine sqa (a_call (lq rfl) rfl (colltable_Step_c ht28)) ?_
 refine sqa (a_move_tup (lq rfl) rfl) ?_
 refine sqa (a_extract (lq rfl) rfl rfl) ?_
 refine sqa (a_extract (lq rfl) rfl rfl) ?_
 refine sqa (a_extract (lq rfl) rfl rfl) ?_
 refine sqa (a_assign_d (lq rfl) rfl) ?_
 refine sqa (a_assign_d (lq rfl) rfl) ?_
 refine sqa (a_assign_d (lq rfl) rfl) ?_
 refine sq_nil <| avc_sq2 <| avc_sq ?_
 refine sqa (m_loadPt (lq rfl) G25 rfl rfl) ?_
 obtain ⟨t33, ht33, h⟩ := bE h'; clear h'
 refine sqa (a_call (lq rfl) rfl (colltable_Check_c ht33)) ?_
 refine sqa (a_eql (lq rfl) rfl rfl) ?_
 obtain ⟨b35, hb35, h'⟩ := bE h; clear h
 refine sqa ((a_move_d (lq rfl) rfl).bool (Option.some.inj hb35)) ?_
 refine sq_g (x := .d (di t28.1)) rfl rfl rfl (lq rfl) (lq rfl) rfl (fun hb => by obtain rfl : b35 = true := hb; exact a_move_d (lq rfl) rfl) ?_
 refine sq_g (x := .d (db (decide (t28.1 = 2)))) rfl rfl rfl (lq rfl) (lq rfl) rfl (fun hb => by obtain rfl : b35 = true := hb; exact a_eql (lq rfl) rfl rfl) ?_
 refine sqa (a_pick_and (lq rfl) rfl rfl) ?_
 obtain ⟨b39, hb39, h⟩ := bE h'; clear h'
 refine sqa ((a_move_d (lq rfl) rfl).bool (Option.some.inj hb39)) ?_
 refine sq_g (x := .d (dsl eI t28.2.1)) rfl rfl rfl (lq rfl) (lq rfl) rfl (fun hb => by obtain rfl : b39 = true := hb; exact a_move_d (lq rfl) rfl) ?_
 refine sq_g (x := .d (dsl eI [803])) rfl rfl rfl (lq rfl) (lq rfl) rfl (fun hb => by obtain rfl : b39 = true := hb; exact a_lit (lq rfl) S30 rfl rfl rfl rfl (by decide) rfl) ?_
 obtain ⟨t42, ht42, h'⟩ := bE h; clear h
 refine sq_g (x := .d (db t42)) rfl rfl rfl (lq rfl) (lq rfl) rfl (fun hb => by obtain rfl : b39 = true := hb; exact a_call (lq rfl) rfl (ref01_Equal_c ht42)) ?_
 refine sqa (a_pick_and (lq rfl) rfl rfl) ?_
 obtain ⟨b44, hb44, h⟩ := bE h'; clear h'
 refine sqa ((a_move_d (lq rfl) rfl).bool (Option.some.inj hb44)) ?_
 refine sq_g (x := .d (dsl eElement t28.2.2)) rfl rfl rfl (lq rfl) (lq rfl) rfl (fun hb => by obtain rfl : b44 = true := hb; exact a_move_d (lq rfl) rfl) ?_
 refine sq_g (x := .d (dsl eElement [({ Primary := 8, Secondary := 1, Tertiary := 1, Variable := false } : Element)])) rfl rfl rfl (lq rfl) (lq rfl) rfl (fun hb => by obtain rfl : b44 = true := hb; exact a_move_d (lq rfl) rfl) ?_
 obtain ⟨t47, ht47, h'⟩ := bE h; clear h
 refine sq_g (x := .d (db t47)) rfl rfl rfl (lq rfl) (lq rfl) rfl (fun hb => by obtain rfl : b44 = true := hb; exact a_call (lq rfl) rfl (ref43_Same_c ht47)) ?_
 refine sqa (a_pick_and (lq rfl) rfl rfl) ?_
 refine sqa (a_assign_d (lq rfl) rfl) ?_
 refine sq_nil ?_
 cases h'
 refine avc_ret ?_
 exact ret_1 rfl
theorem decompose_usable_c  {a0 : Norm}  {r : Norm} (h : decompose_usable a0 = some r) : Contract Tryd.prog 42 [(eNorm.dv a0)] [(eNorm.dv r)] := by
 refine contract_of Tryd.func42 (by kernel_rfl) rfl (lq rfl) (lq rfl) fun w0 I0 hI0 hG0 => ?_
 unfold decompose_usable at h
 refine avc_sq2 <| avc_sq ?_
 refine sqa (m_box (size := 3) (lq rfl) rfl rfl) ?_
 refine sq_b rfl (step_alloc (zs := [(.slice none 0 0), (.slice none 0 0), (.slice none 0 0)]) (lq rfl) (by kernel_rfl) rfl rfl) ?_
 refine sq_nil <| avc_sq2 <| avc_sq2 <| avc_sq ?_
 refine sqa (m_loadPt (lq rfl) G43 rfl rfl) ?_
 obtain ⟨t4, ht4, h'⟩ := bE h; clear h
 refine sqa (a_call (lq rfl) rfl (decompose_Check_c ht4)) ?_
 refine sqa (a_neq (lq rfl) rfl rfl) ?_
 refine sq_nil ?_
 refine avc_if rfl ⟨fun c1 => ?_, fun c1 => ?_⟩
 ·
  replace h' := cT c1 h'
  refine avc_sq2 <| avc_sq ?_
  refine sqa ((m_build (lq rfl) B43 rfl rfl).nils (bs := eNorm.cells ({ Classes := [], Decomp := [], Excluded := (({ Ranges := [] }) : Set) } : Norm)) (nlN (nlN (nlN nl0)))) ?_
  refine sq_b rfl (s_store_boxA G43 rfl rfl rfl rfl rfl rfl) ?_
  refine sq_nil ?_
  cases h'
  refine avc_ret ?_
  exact ret_cellA rfl rfl G43 rfl
 ·
  replace h' := cF c1 h'
  refine avc_skip <| avc_sq2 <| avc_sq ?_
  refine sqa (m_loadPt (lq rfl) G43 rfl rfl) ?_
  refine sq_b rfl (s_store_boxA G43 rfl rfl rfl rfl rfl rfl) ?_
  refine sq_nil ?_
  cases h'
  refine avc_ret ?_
  exact ret_cellA rfl rfl G43 rfl
theorem decompose_expander_1_g : ∀ (n : Nat) {a0 : Int} {a1 : (List (Int × (List Int)))} {a2 : Norm} {a3 : Bool} {r : (List Int) × (List (Int × (List Int)))}, decompose_expander_1 n a0 a1 a2 a3 = some r → GC Tryd.prog 57 [.d (di a0), .ptr 3001 0, .d (.pt (eNorm.cells a2)), .d (.pt [(db a3)]), .ptr 3004 0] [(3001, .box 96 [.row 3120]), (3004, .box 76 [.clo 57 [.ptr 3001 0, .d (.pt (eNorm.cells a2)), .d (.pt [(db a3)]), .ptr 3004 0]]), (3120, .map (mapE kI (eL eI) a1))] [3001, 3004, 3120] [.d (dsl eI r.1)] [(3001, .box 96 [.row 3120]), (3004, .box 76 [.clo 57 [.ptr 3001 0, .d (.pt (eNorm.cells a2)), .d (.pt [(db a3)]), .ptr 3004 0]]), (3120, .map (mapE kI (eL eI) r.2))] := by
 intro n
 induction n with
 | zero => intro a0 a1 a2 a3 r h; cases h
 | succ n ih =>
 intro a0 a1 a2 a3 r h
 replace h : decompose_expander_1_B (decompose_expander_1 n) a0 a1 a2 a3 = some r := h
 generalize decompose_expander_1 n = rec at h ih
 refine gc_of Tryd.func57 (by kernel_rfl) rfl (lq rfl) (lq rfl) fun w0 I0 hG0 p0 => ?_
 unfold decompose_expander_1_B at h
 refine avc_sq2 <| avc_sq ?_
 refine sqa (a_assign_d (lq rfl) rfl) ?_
 refine sq_nil <| avc_sq2 <| avc_sq2 <| avc_sq ?_
 refine sqa (a_load_box (lq rfl) O96 rfl rfl rfl) ?_
 refine sqa (a_move_d (lq rfl) rfl) ?_
 refine sqa (m_lookup2 (kv := kI) (ev := (eL eI)) (mp := a1) (k := a0) (zero := []) (lq rfl) M96 K3 rfl rfl rfl (fun _ _ => .nil _ _ _)) ?_
 refine sqa (a_move_tup (lq rfl) rfl) ?_
 refine sqa (a_extract (lq rfl) rfl rfl) ?_
 refine sqa (a_extract (lq rfl) rfl rfl) ?_
 refine sqa (a_assign_d (lq rfl) rfl) ?_
 refine sqa (a_assign_d (lq rfl) rfl) ?_
 refine sq_nil <| avc_sq2 <| avc_sq ?_
 refine sqa (a_move_d (lq rfl) rfl) ?_
 refine sq_nil ?_
 refine avc_if rfl ⟨fun c1 => ?_, fun c1 => ?_⟩
 ·
  replace h := cT c1 h
  refine avc_sq2 <| avc_sq ?_
  refine sqa (a_move_d (lq rfl) rfl) ?_
  refine sqa (a_assign_d (lq rfl) rfl) ?_
  refine sq_nil ?_
  cases h
  refine avc_ret ?_
  exact ⟨⟨_, _, rfl, rfl, rfl⟩, ⟨rfl, rfl, rfl, trivial⟩⟩
 ·
  replace h := cF c1 h
  refine avc_skip <| avc_sq2 <| avc_sq ?_
  refine sqa (m_loadPt (lq rfl) G43 rfl rfl) ?_
  refine sqa (a_move_d (lq rfl) rfl) ?_
  refine sqa (m_loadPt1 (lq rfl) O4 rfl) ?_
  obtain ⟨t26, ht26, h'⟩ := bE h; clear h
  refine sqa (a_call (lq rfl) rfl (decompose_once_c ht26)) ?_
  refine sqa (a_move_tup (lq rfl) rfl) ?_
  refine sqa (a_extract (lq rfl) rfl rfl) ?_
  refine sqa (a_extract (lq rfl) rfl rfl) ?_
  refine sqa (a_assign_d (lq rfl) rfl) ?_
  refine sqa (a_assign_d (lq rfl) rfl) ?_
  refine sq_nil <| avc_sq2 <| avc_sq2 <| avc_sq ?_
  refine sqa (a_move_d (lq rfl) rfl) ?_
  refine sqa (a_not (lq rfl) rfl) ?_
  refine sq_nil ?_
  refine avc_if rfl ⟨fun c2 => ?_, fun c2 => ?_⟩
  ·
   replace h' := cT c2 h'
   refine avc_sq2 <| avc_sq ?_
   refine sqa (a_move_d (lq rfl) rfl) ?_
   refine sqa (a_lit (lq rfl) S30 rfl rfl rfl rfl (by decide) rfl) ?_
   refine sqa (a_assign_d (lq rfl) rfl) ?_
   refine sq_nil ?_
   cases h'
   refine avc_ret ?_
   exact ⟨⟨_, _, rfl, rfl, rfl⟩, ⟨rfl, rfl, rfl, trivial⟩⟩
  ·
   replace h' := cF c2 h'
   refine avc_skip <| avc_sq2 <| avc_sq ?_
   refine sqa (a_assign_d (lq rfl) rfl) ?_
   refine sq_nil ?_
   refine avc_weak (weak_nil (t := 11) 1011 3 eI.size (lq rfl) (lq rfl) rfl rfl) ?_
   refine avc_sq2 <| avc_sq2 <| avc_sq ?_
   refine sqa (a_move_d (lq rfl) rfl) ?_
   refine sqa (m_len (en := eI) (l := t26.1) (lq rfl) S30 rfl) ?_
   refine sqa (a_move_d (lq rfl) rfl) ?_
   refine sq_nil <| avc_block ?_
   obtain ⟨y1, hy1, h⟩ := bE h'; clear h'
   refine avc_tail (e := (.exit 0)) (S2 := ⟨[(0, .d (di a0)), (1, .ptr 3001 0), (4, .ptr 3004 0), (11, .row 1011)], [(1011, .row 3 eI.size false (eI.all y1.1)), (3001, .box 96 [.row 3120]), (3004, .box 76 [.clo 57 [.ptr 3001 0, .d (.pt (eNorm.cells a2)), .d (.pt [(db a3)]), .ptr 3004 0]]), (3120, .map (mapE kI (eL eI) y1.2))]⟩) ?_ ?_
   ·
    refine avc_loopM (fun x => ⟨[(0, .d (di a0)), (1, .ptr 3001 0), (4, .ptr 3004 0), (11, .row 1011), (33, .d (dsl eI t26.1)), (34, .d (di (t26.1.length : Int))), (35, .d (di x.1))], [(1011, .row 3 eI.size false (eI.all x.2.1)), (3001, .box 96 [.row 3120]), (3004, .box 76 [.clo 57 [.ptr 3001 0, .d (.pt (eNorm.cells a2)), .d (.pt [(db a3)]), .ptr 3004 0]]), (3120, .map (mapE kI (eL eI) x.2.2))]⟩) hy1 (weak_cov ⟨rfl, rfl, rfl, rfl, rfl, rfl, rfl, trivial⟩ ⟨rfl, rfl, rfl, rfl, trivial⟩) ?_
    rintro ⟨v35, r1011, r3120⟩ sy1 hsy1
    replace hsy1 : decompose_expander_1_L0 t26 rec a2 a3 v35 r1011 r3120 = some sy1 := hsy1
    unfold decompose_expander_1_L0 at hsy1
    refine avc_sq2 <| avc_sq ?_
    refine sqa (a_lss (lq rfl) rfl rfl) ?_
    refine sq_nil <| avc_sq2 ?_
    refine avc_if rfl ⟨fun c3 => ?_, fun c3 => ?_⟩
    ·
     replace hsy1 := cT c3 hsy1
     refine avc_skip <| avc_sq2 <| avc_block <| avc_sq2 <| avc_sq ?_
     obtain ⟨t37, ht37, hsy1'⟩ := bE hsy1; clear hsy1
     refine sqa (m_index (en := eI) (lq rfl) S30 rfl rfl ht37) ?_
     refine sqa (m_loadE (en := eI) (l := t26.1) (i := v35) (v := t37) (off := 0) (lq rfl) O3 rfl ht37 rfl) ?_
     refine sqa (a_assign_d (lq rfl) rfl) ?_
     refine sq_nil <| avc_sq ?_
     refine sqa (a_move_row (lq rfl) rfl) ?_
     refine sqa (a_load_box (lq rfl) O76 rfl rfl rfl) ?_
     refine sqa (a_move_d (lq rfl) rfl) ?_
     obtain ⟨t42, ht42, hsy1⟩ := bE hsy1'; clear hsy1'
     refine sq_b rfl (g_callCN [(3001, 3001), (3004, 3004), (3120, 3120)] (ih ht42) (lq rfl) (by decide) rfl ⟨rfl, rfl, rfl, rfl, rfl, trivial⟩ rfl rfl ⟨rfl, rfl, rfl, trivial⟩ rfl rfl rfl rfl) ?_
     obtain ⟨r1011_2, hr1011_2, hsy1'⟩ := bE hsy1; clear hsy1
     refine sq_b rfl (m_append (en := eI) (l := r1011) (m := t42.1) (lq rfl) S30 rfl rfl rfl hr1011_2 (by decide) (by decide) rfl rfl) ?_
     refine sqa (a_assign_row (lq rfl) rfl) ?_
     refine sq_nil <| avc_sq ?_
     refine sqa (m_add (lq rfl) rfl rfl) ?_
     refine sqa (a_move_d (lq rfl) rfl) ?_
     refine sq_nil ?_
     cases hsy1'
     exact weak_cov ⟨rfl, rfl, rfl, rfl, rfl, rfl, rfl, trivial⟩ ⟨rfl, rfl, rfl, rfl, trivial⟩
    ·
     replace hsy1 := cF c3 hsy1
     refine avc_exit ?_
     cases hsy1
     intro q; cases q
     exact out_mk (weak_cov ⟨rfl, rfl, rfl, rfl, trivial⟩ ⟨rfl, rfl, rfl, rfl, trivial⟩)
   ·
    refine avc_sq2 <| avc_sq ?_
    refine sqa (a_load_box (lq rfl) O96 rfl rfl rfl) ?_
    refine sqa (a_move_d (lq rfl) rfl) ?_
    refine sqa (a_move_row (lq rfl) rfl) ?_
    refine sq_weak (weak_row_d (t := 47) (lq rfl) rfl rfl) ?_ (by simp)
    refine sq_b rfl (m_mapUpdate (kv := kI) (ev := (eL eI)) (mp := y1.2) (k := a0) (v := y1.1) M96 K3 rfl rfl rfl rfl rfl rfl) ?_
    refine sq_nil <| avc_sq2 <| avc_sq ?_
    refine sqa (a_move_row (lq rfl) rfl) ?_
    refine sqa (a_assign_row (lq rfl) rfl) ?_
    refine sq_nil ?_
    refine avc_weak (weak_row_d (t := 6) (lq rfl) rfl rfl) ?_
    cases h
    refine avc_ret ?_
    exact ⟨⟨_, _, rfl, rfl, rfl⟩, ⟨rfl, rfl, rfl, trivial⟩⟩
theorem decompose_expander_a {a0 : Norm} {a1 : Bool} {r : Unit} (h : decompose_expander a0 a1 = some r) : GCA Tryd.prog 43 [.d (eNorm.dv a0), .d (db a1)] [] [] (.clo 57 [.ptr 5 0, .d (.pt (eNorm.cells a0)), .d (.pt [(db a1)]), .ptr 6 0]) [(5, .box 96 [.row 7]), (6, .box 76 [.clo 57 [.ptr 5 0, .d (.pt (eNorm.cells a0)), .d (.pt [(db a1)]), .ptr 6 0]]), (7, .map (mapE kI (eL eI) []))] := by
 refine gca_of Tryd.func43 (by kernel_rfl) rfl (lq rfl) (lq rfl) rfl fun w0 I0 hG0 p0 => ?_
 unfold decompose_expander at h
 refine avc_sq2 <| avc_sq ?_
 refine sqa (m_box (size := 3) (lq rfl) rfl rfl) ?_
 refine sqa (m_box (size := 1) (lq rfl) rfl rfl) ?_
 refine sqa (a_assign_d (lq rfl) rfl) ?_
 refine sq_nil <| avc_sq2 <| avc_sq ?_
 refine sq_b rfl (m_makeMap (lq rfl) rfl) ?_
 refine sq_b rfl (step_alloc (zs := [(.map none)]) (lq rfl) (by kernel_rfl) rfl rfl) ?_
 refine sq_b rfl (s_store_box_row O96 rfl rfl (lq rfl) rfl rfl rfl) ?_
 refine sq_nil <| avc_sq2 <| avc_sq ?_
 refine sq_b rfl (step_alloc (zs := [.nilFunc]) (lq rfl) (by kernel_rfl) rfl rfl) ?_
 refine sq_nil <| avc_sq2 <| avc_sq ?_
 refine sqa (a_makeClo (cs := [.ptr 5 0, .d (.pt (eNorm.cells a0)), .d (.pt [(db a1)]), .ptr 6 0]) (lq rfl) ⟨_, _, rfl, rfl, ⟨_, _, rfl, rfl, ⟨_, _, rfl, rfl, ⟨_, _, rfl, rfl, rfl⟩⟩⟩⟩) ?_
 refine sq_b rfl (s_store_box_av O76 rfl rfl (lq rfl) rfl rfl rfl rfl) ?_
 refine sq_nil <| avc_sq2 <| avc_sq ?_
 refine sqa (a_load_box (lq rfl) O76 rfl rfl rfl) ?_
 refine sqa (a_assign_to (lq rfl) rfl) ?_
 refine sq_nil ?_
 cases h
 refine avc_ret ?_
 exact ⟨rfl, ⟨rfl, rfl, rfl, trivial⟩⟩
theorem ordering_Sort_1_c  {a0 : Int} {a1 : Int} {a2 : (List Span)}  {r : Int} (h : ordering_Sort_1 a0 a1 a2 = some r) : Contract Tryd.prog 62 [(di a0), (di a1), (.pt [(dsl eSpan a2)])] [(di r)] := by
 refine contract_of Tryd.func62 (by kernel_rfl) rfl (lq rfl) (lq rfl) fun w0 I0 hI0 hG0 => ?_
 unfold ordering_Sort_1 at h
 refine avc_sq2 <| avc_sq ?_
 refine sqa (a_assign_d (lq rfl) rfl) ?_
 refine sq_nil <| avc_sq2 ?_
 refine avc_drawA MX rfl ?_
 refine daa (m_loadPt1 (lq rfl) O37 rfl) ?_
 refine daa (a_move_d (lq rfl) rfl) ?_
 obtain ⟨t8, ht8, h'⟩ := bE h; clear h
 refine daa (a_call (lq rfl) rfl (ordering_class_c ht8)) ?_
 refine daa (m_loadPt1 (lq rfl) O37 rfl) ?_
 refine daa (a_move_d (lq rfl) rfl) ?_
 obtain ⟨t11, ht11, h⟩ := bE h'; clear h'
 refine daa (a_call (lq rfl) rfl (ordering_class_c ht11)) ?_
 obtain ⟨t12, ht12, h'⟩ := bE h; clear h
 refine daa (a_call (lq rfl) rfl (cmp_Compare_int_c ht12)) ?_
 refine daa (a_assign_d (lq rfl) rfl) ?_
 refine da_nil ?_
 cases h'
 refine avc_ret ?_
 exact ret_1 rfl
set_option maxHeartbeats 8000000 in
theorem slices_insertionSortCmpFunc_int_g {fv3 : DV} {a0 : (List Int)} {a1 : Int} {a2 : Int} {a3 : Int → Int → Option (Int)} (hf3 : ∀ x0 x1 y, a3 x0 x1 = some y → FnC Tryd.prog fv3 [(di x0), (di x1)] [(di y)]) {r : (List Int)} (h : slices_insertionSortCmpFunc_int a0 a1 a2 a3 = some r) : GC Tryd.prog 88 [.row 3000, .d (di a1), .d (di a2), .d fv3] [(3000, .win 3 eI.size 0 (eI.all a0))] [3000] [] [(3000, .win 3 eI.size 0 (eI.all r))] := by
 refine gc_of Tryd.func88 (by kernel_rfl) rfl (lq rfl) (lq rfl) fun w0 I0 hG0 p0 => ?_
 unfold slices_insertionSortCmpFunc_int at h
 refine avc_sq2 <| avc_sq ?_
 refine sqa (a_move_d (lq rfl) rfl) ?_
 refine sqa (m_add (lq rfl) rfl rfl) ?_
 refine sqa (a_assign_d (lq rfl) rfl) ?_
 refine sq_nil <| avc_block ?_
 obtain ⟨y1, hy1, h'⟩ := bE h; clear h
 refine avc_tail (e := (.exit 0)) (S2 := ⟨[(0, .row 3000)], [(3000, .win 3 eI.size 0 (eI.all y1))]⟩) ?_ ?_
 ·
  refine avc_loopM (fun x => ⟨[(0, .row 3000), (1, .d (di a1)), (2, .d (di a2)), (3, .d fv3), (8, .d (di x.1))], [(3000, .win 3 eI.size 0 (eI.all x.2))]⟩) hy1 (weak_cov ⟨rfl, rfl, rfl, rfl, rfl, trivial⟩ ⟨rfl, trivial⟩) ?_
  rintro ⟨v8, r3000⟩ sy1 hsy1
  replace hsy1 : slices_insertionSortCmpFunc_int_L0 a2 a1 a3 v8 r3000 = some sy1 := hsy1
  unfold slices_insertionSortCmpFunc_int_L0 at hsy1
  refine avc_sq2 <| avc_sq2 <| avc_sq ?_
  refine sqa (a_move_d (lq rfl) rfl) ?_
  refine sqa (a_move_d (lq rfl) rfl) ?_
  refine sqa (a_lss (lq rfl) rfl rfl) ?_
  refine sq_nil ?_
  refine avc_if rfl ⟨fun c1 => ?_, fun c1 => ?_⟩
  ·
   replace hsy1 := cT c1 hsy1
   refine avc_skip <| avc_sq2 <| avc_block <| avc_sq2 <| avc_sq ?_
   refine sqa (a_move_d (lq rfl) rfl) ?_
   refine sqa (a_assign_d (lq rfl) rfl) ?_
   refine sq_nil <| avc_block ?_
   obtain ⟨y2, hy2, hsy1'⟩ := bE hsy1; clear hsy1
   refine avc_tail (e := (.exit 2)) (S2 := ⟨[(0, .row 3000), (1, .d (di a1)), (2, .d (di a2)), (3, .d fv3), (8, .d (di v8))], [(3000, .win 3 eI.size 0 (eI.all y2))]⟩) ?_ ?_
   ·
    refine avc_loopM (fun x => ⟨[(0, .row 3000), (1, .d (di a1)), (2, .d (di a2)), (3, .d fv3), (8, .d (di v8)), (9, .d (di x.1))], [(3000, .win 3 eI.size 0 (eI.all x.2))]⟩) hy2 (weak_cov ⟨rfl, rfl, rfl, rfl, rfl, rfl, trivial⟩ ⟨rfl, trivial⟩) ?_
    rintro ⟨v9, r3000⟩ sy2 hsy2
    replace hsy2 : slices_insertionSortCmpFunc_int_L1 a1 a3 v9 r3000 = some sy2 := hsy2
    unfold slices_insertionSortCmpFunc_int_L1 at hsy2
    refine avc_sq2 <| avc_sq2 ?_
    refine avc_drawA MX rfl ?_
    refine daa (a_move_d (lq rfl) rfl) ?_
    refine daa (a_move_d (lq rfl) rfl) ?_
    refine daa (a_gtr (lq rfl) rfl rfl) ?_
    obtain ⟨b21, hb21, hsy2'⟩ := bE hsy2; clear hsy2
    refine daa ((a_move_d (lq rfl) rfl).bool (Option.some.inj hb21)) ?_
    refine da_g (x := .d fv3) rfl rfl rfl (lq rfl) (lq rfl) rfl (fun hb => by obtain rfl : b21 = true := hb; exact a_move_d (lq rfl) rfl) ?_
    refine da_g (x := .row 3000) rfl rfl rfl (lq rfl) (lq rfl) rfl (fun hb => by obtain rfl : b21 = true := hb; exact a_move_row (lq rfl) rfl) ?_
    refine da_g (x := .d (di v9)) rfl rfl rfl (lq rfl) (lq rfl) rfl (fun hb => by obtain rfl : b21 = true := hb; exact a_move_d (lq rfl) rfl) ?_
    obtain ⟨t25, ht25, hsy2⟩ := bE hsy2'; clear hsy2'
    refine da_g (x := .wp 3000 (v9.toNat * eI.size)) rfl rfl rfl (lq rfl) (lq rfl) rfl (fun hb => by obtain rfl : b21 = true := hb; exact m_indexW (en := eI) (l := r3000) (lq rfl) S30 rfl rfl rfl ht25) ?_
    refine da_g (x := .d (di t25)) rfl rfl rfl (lq rfl) (lq rfl) rfl (fun hb => by obtain rfl : b21 = true := hb; exact m_loadW (en := eI) (l := r3000) (i := v9) (v := t25) (lq rfl) O3 rfl rfl ht25 rfl) ?_
    refine da_g (x := .row 3000) rfl rfl rfl (lq rfl) (lq rfl) rfl (fun hb => by obtain rfl : b21 = true := hb; exact a_move_row (lq rfl) rfl) ?_
    refine da_g (x := .d (di v9)) rfl rfl rfl (lq rfl) (lq rfl) rfl (fun hb => by obtain rfl : b21 = true := hb; exact a_move_d (lq rfl) rfl) ?_
    refine da_g (x := .d (di (wi (v9 - 1)))) rfl rfl rfl (lq rfl) (lq rfl) rfl (fun hb => by obtain rfl : b21 = true := hb; exact m_sub (lq rfl) rfl rfl) ?_
    obtain ⟨t30, ht30, hsy2'⟩ := bE hsy2; clear hsy2
    refine da_g (x := .wp 3000 ((wi (v9 - 1)).toNat * eI.size)) rfl rfl rfl (lq rfl) (lq rfl) rfl (fun hb => by obtain rfl : b21 = true := hb; exact m_indexW (en := eI) (l := r3000) (lq rfl) S30 rfl rfl rfl ht30) ?_
    refine da_g (x := .d (di t30)) rfl rfl rfl (lq rfl) (lq rfl) rfl (fun hb => by obtain rfl : b21 = true := hb; exact m_loadW (en := eI) (l := r3000) (i := (wi (v9 - 1))) (v := t30) (lq rfl) O3 rfl rfl ht30 rfl) ?_
    obtain ⟨t32, ht32, hsy2⟩ := bE hsy2'; clear hsy2'
    refine da_g (x := .d (di t32)) rfl rfl rfl (lq rfl) (lq rfl) rfl (fun hb => by obtain rfl : b21 = true := hb; exact a_callF (lq rfl) rfl rfl (hf3 _ _ _ ht32)) ?_
    refine da_g (x := .d (db (decide (t32 < 0)))) rfl rfl rfl (lq rfl) (lq rfl) rfl (fun hb => by obtain rfl : b21 = true := hb; exact a_lss (lq rfl) rfl rfl) ?_
    refine daa (a_pick_and (lq rfl) rfl rfl) ?_
    refine da_nil ?_
    refine avc_if rfl ⟨fun c2 => ?_, fun c2 => ?_⟩
    ·
     replace hsy2 := cT c2 hsy2
     refine avc_skip <| avc_sq2 <| avc_block ?_
     obtain ⟨t45, ht45, hsy2'⟩ := bE hsy2; clear hsy2
     obtain ⟨t49, ht49, hsy2⟩ := bE hsy2'; clear hsy2'
     obtain ⟨t51, ht51, hsy2'⟩ := bE hsy2; clear hsy2
     obtain ⟨r3000_6x15, hr3000_6x15, hsy2⟩ := bE hsy2'; clear hsy2'
     obtain ⟨t52, ht52, hsy2'⟩ := bE hsy2; clear hsy2
     obtain ⟨r3000_6x17, hr3000_6x17, hsy2⟩ := bE hsy2'; clear hsy2'
     refine avc_tail (e := .normal) (S2 := ⟨[(0, .row 3000), (1, .d (di a1)), (2, .d (di a2)), (3, .d fv3), (8, .d (di v8)), (9, .d (di v9))], [(3000, .win 3 eI.size 0 (eI.all r3000_6x17))]⟩) ?_ ?_
     ·
      refine avc_any MX ?_
      refine any_move (i := 0) rfl (lq rfl) rfl rfl rfl rfl ?_
      refine any_move (i := 1) rfl (lq rfl) rfl rfl rfl rfl ?_
      refine any_move (i := 2) rfl (lq rfl) rfl rfl rfl rfl ?_
      refine any_move (i := 3) rfl (lq rfl) rfl rfl rfl rfl ?_
      refine any_sub (i := 4) rfl (lq rfl) rfl rfl rfl rfl rfl rfl ?_
      refine any_move (i := 5) rfl (lq rfl) rfl rfl rfl rfl ?_
      refine any_move (i := 6) rfl (lq rfl) rfl rfl rfl rfl ?_
      refine any_sub (i := 7) rfl (lq rfl) rfl rfl rfl rfl rfl rfl ?_
      refine any_move (i := 10) rfl (lq rfl) rfl rfl rfl rfl ?_
      refine any_move (i := 11) rfl (lq rfl) rfl rfl rfl rfl ?_
      refine any_n [8, 12] (by kernel_rfl) rfl ?_
      refine any_a (i := 8) rfl rfl (m_indexW (en := eI) (l := r3000) (lq rfl) S30 rfl rfl rfl ht45) ?_ ?_
      ·
       refine any_n [9, 12] (by kernel_rfl) rfl ?_
       refine any_a (i := 9) rfl rfl (m_loadW (en := eI) (l := r3000) (i := (wi (v9 - 1))) (v := t45) (lq rfl) O3 rfl rfl ht45 rfl) ?_ ?_
       ·
        refine any_n [12] (by kernel_rfl) rfl ?_
        refine any_a (i := 12) rfl rfl (m_indexW (en := eI) (l := r3000) (lq rfl) S30 rfl rfl rfl ht49) ?_ ?_
        ·
         refine any_n [13] (by kernel_rfl) rfl ?_
         refine any_a (i := 13) rfl rfl (m_loadW (en := eI) (l := r3000) (i := v9) (v := t49) (lq rfl) O3 rfl rfl ht49 rfl) ?_ ?_
         ·
          refine any_n [14] (by kernel_rfl) rfl ?_
          refine any_a (i := 14) rfl rfl (m_indexW (en := eI) (l := r3000) (lq rfl) S30 rfl rfl rfl ht51) ?_ ?_
          ·
           refine any_n [15] (by kernel_rfl) rfl ?_
           refine any_b (i := 15) rfl rfl (m_storeW (en := eI) (l := r3000) (i := v9) (v := t45) O3 rfl rfl rfl ht51 hr3000_6x15 rfl rfl rfl rfl) ?_ ?_
           ·
            refine any_n [16] (by kernel_rfl) rfl ?_
            refine any_a (i := 16) rfl rfl (m_indexW (en := eI) (l := r3000_6x15) (lq rfl) S30 rfl rfl rfl ht52) ?_ ?_
            ·
             refine any_n [17] (by kernel_rfl) rfl ?_
             refine any_b (i := 17) rfl rfl (m_storeW (en := eI) (l := r3000_6x15) (i := (wi (v9 - 1))) (v := t49) O3 rfl rfl rfl ht52 hr3000_6x17 rfl rfl rfl rfl) ?_ ?_
             ·
              exact any_end rfl (out_mk (weak_cov ⟨rfl, rfl, rfl, rfl, rfl, rfl, trivial⟩ ⟨rfl, trivial⟩))
             ·
              exact any_nil
            ·
             exact any_nil
           ·
            exact any_nil
          ·
           exact any_nil
         ·
          exact any_nil
        ·
         exact any_nil
       refine any_a (i := 12) rfl rfl (m_indexW (en := eI) (l := r3000) (lq rfl) S30 rfl rfl rfl ht49) ?_ ?_
       ·
        refine any_n [9, 13] (by kernel_rfl) rfl ?_
        refine any_a (i := 9) rfl rfl (m_loadW (en := eI) (l := r3000) (i := (wi (v9 - 1))) (v := t45) (lq rfl) O3 rfl rfl ht45 rfl) ?_ ?_
        ·
         refine any_n [13] (by kernel_rfl) rfl ?_
         refine any_a (i := 13) rfl rfl (m_loadW (en := eI) (l := r3000) (i := v9) (v := t49) (lq rfl) O3 rfl rfl ht49 rfl) ?_ ?_
         ·
          refine any_n [14] (by kernel_rfl) rfl ?_
          refine any_a (i := 14) rfl rfl (m_indexW (en := eI) (l := r3000) (lq rfl) S30 rfl rfl rfl ht51) ?_ ?_
          ·
           refine any_n [15] (by kernel_rfl) rfl ?_
           refine any_b (i := 15) rfl rfl (m_storeW (en := eI) (l := r3000) (i := v9) (v := t45) O3 rfl rfl rfl ht51 hr3000_6x15 rfl rfl rfl rfl) ?_ ?_
           ·
            refine any_n [16] (by kernel_rfl) rfl ?_
            refine any_a (i := 16) rfl rfl (m_indexW (en := eI) (l := r3000_6x15) (lq rfl) S30 rfl rfl rfl ht52) ?_ ?_
            ·
             refine any_n [17] (by kernel_rfl) rfl ?_
             refine any_b (i := 17) rfl rfl (m_storeW (en := eI) (l := r3000_6x15) (i := (wi (v9 - 1))) (v := t49) O3 rfl rfl rfl ht52 hr3000_6x17 rfl rfl rfl rfl) ?_ ?_
             ·
              exact any_end rfl (out_mk (weak_cov ⟨rfl, rfl, rfl, rfl, rfl, rfl, trivial⟩ ⟨rfl, trivial⟩))
             ·
              exact any_nil
            ·
             exact any_nil
           ·
            exact any_nil
          ·
           exact any_nil
         ·
          exact any_nil
        refine any_a (i := 13) rfl rfl (m_loadW (en := eI) (l := r3000) (i := v9) (v := t49) (lq rfl) O3 rfl rfl ht49 rfl) ?_ ?_
        ·
         refine any_n [9] (by kernel_rfl) rfl ?_
         refine any_a (i := 9) rfl rfl (m_loadW (en := eI) (l := r3000) (i := (wi (v9 - 1))) (v := t45) (lq rfl) O3 rfl rfl ht45 rfl) ?_ ?_
         ·
          refine any_n [14] (by kernel_rfl) rfl ?_
          refine any_a (i := 14) rfl rfl (m_indexW (en := eI) (l := r3000) (lq rfl) S30 rfl rfl rfl ht51) ?_ ?_
          ·
           refine any_n [15] (by kernel_rfl) rfl ?_
           refine any_b (i := 15) rfl rfl (m_storeW (en := eI) (l := r3000) (i := v9) (v := t45) O3 rfl rfl rfl ht51 hr3000_6x15 rfl rfl rfl rfl) ?_ ?_
           ·
            refine any_n [16] (by kernel_rfl) rfl ?_
            refine any_a (i := 16) rfl rfl (m_indexW (en := eI) (l := r3000_6x15) (lq rfl) S30 rfl rfl rfl ht52) ?_ ?_
            ·
             refine any_n [17] (by kernel_rfl) rfl ?_
             refine any_b (i := 17) rfl rfl (m_storeW (en := eI) (l := r3000_6x15) (i := (wi (v9 - 1))) (v := t49) O3 rfl rfl rfl ht52 hr3000_6x17 rfl rfl rfl rfl) ?_ ?_
             ·
              exact any_end rfl (out_mk (weak_cov ⟨rfl, rfl, rfl, rfl, rfl, rfl, trivial⟩ ⟨rfl, trivial⟩))
             ·
              exact any_nil
            ·
             exact any_nil
           ·
            exact any_nil
          ·
           exact any_nil
         ·
          exact any_nil
        exact any_nil
       exact any_nil
      refine any_a (i := 12) rfl rfl (m_indexW (en := eI) (l := r3000) (lq rfl) S30 rfl rfl rfl ht49) ?_ ?_
      ·
       refine any_n [8, 13] (by kernel_rfl) rfl ?_
       refine any_a (i := 8) rfl rfl (m_indexW (en := eI) (l := r3000) (lq rfl) S30 rfl rfl rfl ht45) ?_ ?_
       ·
        refine any_n [9, 13] (by kernel_rfl) rfl ?_
        refine any_a (i := 9) rfl rfl (m_loadW (en := eI) (l := r3000) (i := (wi (v9 - 1))) (v := t45) (lq rfl) O3 rfl rfl ht45 rfl) ?_ ?_
        ·
         refine any_n [13] (by kernel_rfl) rfl ?_
         refine any_a (i := 13) rfl rfl (m_loadW (en := eI) (l := r3000) (i := v9) (v := t49) (lq rfl) O3 rfl rfl ht49 rfl) ?_ ?_
         ·
          refine any_n [14] (by kernel_rfl) rfl ?_
          refine any_a (i := 14) rfl rfl (m_indexW (en := eI) (l := r3000) (lq rfl) S30 rfl rfl rfl ht51) ?_ ?_
          ·
           refine any_n [15] (by kernel_rfl) rfl ?_
           refine any_b (i := 15) rfl rfl (m_storeW (en := eI) (l := r3000) (i := v9) (v := t45) O3 rfl rfl rfl ht51 hr3000_6x15 rfl rfl rfl rfl) ?_ ?_
           ·
            refine any_n [16] (by kernel_rfl) rfl ?_
            refine any_a (i := 16) rfl rfl (m_indexW (en := eI) (l := r3000_6x15) (lq rfl) S30 rfl rfl rfl ht52) ?_ ?_
            ·
             refine any_n [17] (by kernel_rfl) rfl ?_
             refine any_b (i := 17) rfl rfl (m_storeW (en := eI) (l := r3000_6x15) (i := (wi (v9 - 1))) (v := t49) O3 rfl rfl rfl ht52 hr3000_6x17 rfl rfl rfl rfl) ?_ ?_
             ·
              exact any_end rfl (out_mk (weak_cov ⟨rfl, rfl, rfl, rfl, rfl, rfl, trivial⟩ ⟨rfl, trivial⟩))
             ·
              exact any_nil
            ·
             exact any_nil
           ·
            exact any_nil
          ·
           exact any_nil
         ·
          exact any_nil
        refine any_a (i := 13) rfl rfl (m_loadW (en := eI) (l := r3000) (i := v9) (v := t49) (lq rfl) O3 rfl rfl ht49 rfl) ?_ ?_
        ·
         refine any_n [9] (by kernel_rfl) rfl ?_
         refine any_a (i := 9) rfl rfl (m_loadW (en := eI) (l := r3000) (i := (wi (v9 - 1))) (v := t45) (lq rfl) O3 rfl rfl ht45 rfl) ?_ ?_
         ·
          refine any_n [14] (by kernel_rfl) rfl ?_
          refine any_a (i := 14) rfl rfl (m_indexW (en := eI) (l := r3000) (lq rfl) S30 rfl rfl rfl ht51) ?_ ?_
          ·
           refine any_n [15] (by kernel_rfl) rfl ?_
           refine any_b (i := 15) rfl rfl (m_storeW (en := eI) (l := r3000) (i := v9) (v := t45) O3 rfl rfl rfl ht51 hr3000_6x15 rfl rfl rfl rfl) ?_ ?_
           ·
            refine any_n [16] (by kernel_rfl) rfl ?_
            refine any_a (i := 16) rfl rfl (m_indexW (en := eI) (l := r3000_6x15) (lq rfl) S30 rfl rfl rfl ht52) ?_ ?_
            ·
             refine any_n [17] (by kernel_rfl) rfl ?_
             refine any_b (i := 17) rfl rfl (m_storeW (en := eI) (l := r3000_6x15) (i := (wi (v9 - 1))) (v := t49) O3 rfl rfl rfl ht52 hr3000_6x17 rfl rfl rfl rfl) ?_ ?_
             ·
              exact any_end rfl (out_mk (weak_cov ⟨rfl, rfl, rfl, rfl, rfl, rfl, trivial⟩ ⟨rfl, trivial⟩))
             ·
              exact any_nil
            ·
             exact any_nil
           ·
            exact any_nil
          ·
           exact any_nil
         ·
          exact any_nil
        exact any_nil
       refine any_a (i := 13) rfl rfl (m_loadW (en := eI) (l := r3000) (i := v9) (v := t49) (lq rfl) O3 rfl rfl ht49 rfl) ?_ ?_
       ·
        refine any_n [8] (by kernel_rfl) rfl ?_
        refine any_a (i := 8) rfl rfl (m_indexW (en := eI) (l := r3000) (lq rfl) S30 rfl rfl rfl ht45) ?_ ?_
        ·
         refine any_n [9] (by kernel_rfl) rfl ?_
         refine any_a (i := 9) rfl rfl (m_loadW (en := eI) (l := r3000) (i := (wi (v9 - 1))) (v := t45) (lq rfl) O3 rfl rfl ht45 rfl) ?_ ?_
         ·
          refine any_n [14] (by kernel_rfl) rfl ?_
          refine any_a (i := 14) rfl rfl (m_indexW (en := eI) (l := r3000) (lq rfl) S30 rfl rfl rfl ht51) ?_ ?_
          ·
           refine any_n [15] (by kernel_rfl) rfl ?_
           refine any_b (i := 15) rfl rfl (m_storeW (en := eI) (l := r3000) (i := v9) (v := t45) O3 rfl rfl rfl ht51 hr3000_6x15 rfl rfl rfl rfl) ?_ ?_
           ·
            refine any_n [16] (by kernel_rfl) rfl ?_
            refine any_a (i := 16) rfl rfl (m_indexW (en := eI) (l := r3000_6x15) (lq rfl) S30 rfl rfl rfl ht52) ?_ ?_
            ·
             refine any_n [17] (by kernel_rfl) rfl ?_
             refine any_b (i := 17) rfl rfl (m_storeW (en := eI) (l := r3000_6x15) (i := (wi (v9 - 1))) (v := t49) O3 rfl rfl rfl ht52 hr3000_6x17 rfl rfl rfl rfl) ?_ ?_
             ·
              exact any_end rfl (out_mk (weak_cov ⟨rfl, rfl, rfl, rfl, rfl, rfl, trivial⟩ ⟨rfl, trivial⟩))
             ·
              exact any_nil
            ·
             exact any_nil
           ·
            exact any_nil
          ·
           exact any_nil
         ·
          exact any_nil
        ·
         exact any_nil
       exact any_nil
      exact any_nil
     refine avc_sq ?_
     refine sqa (a_move_d (lq rfl) rfl) ?_
     refine sqa (m_sub (lq rfl) rfl rfl) ?_
     refine sqa (a_assign_d (lq rfl) rfl) ?_
     refine sq_nil ?_
     cases hsy2
     exact weak_cov ⟨rfl, rfl, rfl, rfl, rfl, rfl, trivial⟩ ⟨rfl, trivial⟩
    ·
     replace hsy2 := cF c2 hsy2
     refine avc_exit ?_
     cases hsy2
     intro q; cases q
     exact out_mk (weak_cov ⟨rfl, rfl, rfl, rfl, rfl, trivial⟩ ⟨rfl, trivial⟩)
   ·
    refine avc_sq ?_
    refine sqa (a_move_d (lq rfl) rfl) ?_
    refine sqa (m_add (lq rfl) rfl rfl) ?_
    refine sqa (a_assign_d (lq rfl) rfl) ?_
    refine sq_nil ?_
    cases hsy1'
    exact weak_cov ⟨rfl, rfl, rfl, rfl, rfl, trivial⟩ ⟨rfl, trivial⟩
  ·
   replace hsy1 := cF c1 hsy1
   refine avc_exit ?_
   cases hsy1
   intro q; cases q
   exact out_mk (weak_cov ⟨rfl, trivial⟩ ⟨rfl, trivial⟩)
 ·
  cases h'
  exact ⟨rfl, ⟨rfl, trivial⟩⟩
set_option maxHeartbeats 8000000 in
theorem slices_swapRangeCmpFunc_int_g {fv4 : DV} {a0 : (List Int)} {a1 : Int} {a2 : Int} {a3 : Int} {a4 : Int → Int → Option (Int)} (hf4 : ∀ x0 x1 y, a4 x0 x1 = some y → FnC Tryd.prog fv4 [(di x0), (di x1)] [(di y)]) {r : (List Int)} (h : slices_swapRangeCmpFunc_int a0 a1 a2 a3 a4 = some r) : GC Tryd.prog 100 [.row 3000, .d (di a1), .d (di a2), .d (di a3), .d fv4] [(3000, .win 3 eI.size 0 (eI.all a0))] [3000] [] [(3000, .win 3 eI.size 0 (eI.all r))] := by
 refine gc_of Tryd.func100 (by kernel_rfl) rfl (lq rfl) (lq rfl) fun w0 I0 hG0 p0 => ?_
 unfold slices_swapRangeCmpFunc_int at h
 refine avc_sq2 <| avc_sq ?_
 refine sqa (a_assign_d (lq rfl) rfl) ?_
 refine sq_nil <| avc_block ?_
 obtain ⟨y1, hy1, h'⟩ := bE h; clear h
 refine avc_tail (e := (.exit 0)) (S2 := ⟨[(0, .row 3000)], [(3000, .win 3 eI.size 0 (eI.all y1))]⟩) ?_ ?_
 ·
  refine avc_loopM (fun x => ⟨[(0, .row 3000), (1, .d (di a1)), (2, .d (di a2)), (3, .d (di a3)), (10, .d (di x.1))], [(3000, .win 3 eI.size 0 (eI.all x.2))]⟩) hy1 (weak_cov ⟨rfl, rfl, rfl, rfl, rfl, trivial⟩ ⟨rfl, trivial⟩) ?_
  rintro ⟨v10, r3000⟩ sy1 hsy1
  replace hsy1 : slices_swapRangeCmpFunc_int_L0 a3 a2 a1 v10 r3000 = some sy1 := hsy1
  unfold slices_swapRangeCmpFunc_int_L0 at hsy1
  refine avc_sq2 <| avc_sq2 <| avc_sq ?_
  refine sqa (a_move_d (lq rfl) rfl) ?_
  refine sqa (a_move_d (lq rfl) rfl) ?_
  refine sqa (a_lss (lq rfl) rfl rfl) ?_
  refine sq_nil ?_
  refine avc_if rfl ⟨fun c1 => ?_, fun c1 => ?_⟩
  ·
   replace hsy1 := cT c1 hsy1
   refine avc_skip <| avc_sq2 <| avc_block ?_
   obtain ⟨t28, ht28, hsy1'⟩ := bE hsy1; clear hsy1
   obtain ⟨t34, ht34, hsy1⟩ := bE hsy1'; clear hsy1'
   obtain ⟨t36, ht36, hsy1'⟩ := bE hsy1; clear hsy1
   obtain ⟨r3000_3x21, hr3000_3x21, hsy1⟩ := bE hsy1'; clear hsy1'
   obtain ⟨t37, ht37, hsy1'⟩ := bE hsy1; clear hsy1
   obtain ⟨r3000_3x23, hr3000_3x23, hsy1⟩ := bE hsy1'; clear hsy1'
   refine avc_tail (e := .normal) (S2 := ⟨[(0, .row 3000), (1, .d (di a1)), (2, .d (di a2)), (3, .d (di a3)), (10, .d (di v10))], [(3000, .win 3 eI.size 0 (eI.all r3000_3x23))]⟩) ?_ ?_
   ·
    refine avc_any MX ?_
    refine any_move (i := 0) rfl (lq rfl) rfl rfl rfl rfl ?_
    refine any_move (i := 1) rfl (lq rfl) rfl rfl rfl rfl ?_
    refine any_move (i := 2) rfl (lq rfl) rfl rfl rfl rfl ?_
    refine any_add (i := 3) rfl (lq rfl) rfl rfl rfl rfl rfl rfl ?_
    refine any_move (i := 4) rfl (lq rfl) rfl rfl rfl rfl ?_
    refine any_move (i := 5) rfl (lq rfl) rfl rfl rfl rfl ?_
    refine any_move (i := 6) rfl (lq rfl) rfl rfl rfl rfl ?_
    refine any_add (i := 7) rfl (lq rfl) rfl rfl rfl rfl rfl rfl ?_
    refine any_move (i := 8) rfl (lq rfl) rfl rfl rfl rfl ?_
    refine any_move (i := 9) rfl (lq rfl) rfl rfl rfl rfl ?_
    refine any_move (i := 10) rfl (lq rfl) rfl rfl rfl rfl ?_
    refine any_add (i := 11) rfl (lq rfl) rfl rfl rfl rfl rfl rfl ?_
    refine any_move (i := 14) rfl (lq rfl) rfl rfl rfl rfl ?_
    refine any_move (i := 15) rfl (lq rfl) rfl rfl rfl rfl ?_
    refine any_move (i := 16) rfl (lq rfl) rfl rfl rfl rfl ?_
    refine any_add (i := 17) rfl (lq rfl) rfl rfl rfl rfl rfl rfl ?_
    refine any_n [12, 18] (by kernel_rfl) rfl ?_
    refine any_a (i := 12) rfl rfl (m_indexW (en := eI) (l := r3000) (lq rfl) S30 rfl rfl rfl ht28) ?_ ?_
    ·
     refine any_n [13, 18] (by kernel_rfl) rfl ?_
     refine any_a (i := 13) rfl rfl (m_loadW (en := eI) (l := r3000) (i := (wi (a2 + v10))) (v := t28) (lq rfl) O3 rfl rfl ht28 rfl) ?_ ?_
     ·
      refine any_n [18] (by kernel_rfl) rfl ?_
      refine any_a (i := 18) rfl rfl (m_indexW (en := eI) (l := r3000) (lq rfl) S30 rfl rfl rfl ht34) ?_ ?_
      ·
       refine any_n [19] (by kernel_rfl) rfl ?_
       refine any_a (i := 19) rfl rfl (m_loadW (en := eI) (l := r3000) (i := (wi (a1 + v10))) (v := t34) (lq rfl) O3 rfl rfl ht34 rfl) ?_ ?_
       ·
        refine any_n [20] (by kernel_rfl) rfl ?_
        refine any_a (i := 20) rfl rfl (m_indexW (en := eI) (l := r3000) (lq rfl) S30 rfl rfl rfl ht36) ?_ ?_
        ·
         refine any_n [21] (by kernel_rfl) rfl ?_
         refine any_b (i := 21) rfl rfl (m_storeW (en := eI) (l := r3000) (i := (wi (a1 + v10))) (v := t28) O3 rfl rfl rfl ht36 hr3000_3x21 rfl rfl rfl rfl) ?_ ?_
         ·
          refine any_n [22] (by kernel_rfl) rfl ?_
          refine any_a (i := 22) rfl rfl (m_indexW (en := eI) (l := r3000_3x21) (lq rfl) S30 rfl rfl rfl ht37) ?_ ?_
          ·
           refine any_n [23] (by kernel_rfl) rfl ?_
           refine any_b (i := 23) rfl rfl (m_storeW (en := eI) (l := r3000_3x21) (i := (wi (a2 + v10))) (v := t34) O3 rfl rfl rfl ht37 hr3000_3x23 rfl rfl rfl rfl) ?_ ?_
           ·
            exact any_end rfl (out_mk (weak_cov ⟨rfl, rfl, rfl, rfl, rfl, trivial⟩ ⟨rfl, trivial⟩))
           ·
            exact any_nil
          ·
           exact any_nil
         ·
          exact any_nil
        ·
         exact any_nil
       ·
        exact any_nil
      ·
       exact any_nil
     refine any_a (i := 18) rfl rfl (m_indexW (en := eI) (l := r3000) (lq rfl) S30 rfl rfl rfl ht34) ?_ ?_
     ·
      refine any_n [13, 19] (by kernel_rfl) rfl ?_
      refine any_a (i := 13) rfl rfl (m_loadW (en := eI) (l := r3000) (i := (wi (a2 + v10))) (v := t28) (lq rfl) O3 rfl rfl ht28 rfl) ?_ ?_
      ·
       refine any_n [19] (by kernel_rfl) rfl ?_
       refine any_a (i := 19) rfl rfl (m_loadW (en := eI) (l := r3000) (i := (wi (a1 + v10))) (v := t34) (lq rfl) O3 rfl rfl ht34 rfl) ?_ ?_
       ·
        refine any_n [20] (by kernel_rfl) rfl ?_
        refine any_a (i := 20) rfl rfl (m_indexW (en := eI) (l := r3000) (lq rfl) S30 rfl rfl rfl ht36) ?_ ?_
        ·
         refine any_n [21] (by kernel_rfl) rfl ?_
         refine any_b (i := 21) rfl rfl (m_storeW (en := eI) (l := r3000) (i := (wi (a1 + v10))) (v := t28) O3 rfl rfl rfl ht36 hr3000_3x21 rfl rfl rfl rfl) ?_ ?_
         ·
          refine any_n [22] (by kernel_rfl) rfl ?_
          refine any_a (i := 22) rfl rfl (m_indexW (en := eI) (l := r3000_3x21) (lq rfl) S30 rfl rfl rfl ht37) ?_ ?_
          ·
           refine any_n [23] (by kernel_rfl) rfl ?_
           refine any_b (i := 23) rfl rfl (m_storeW (en := eI) (l := r3000_3x21) (i := (wi (a2 + v10))) (v := t34) O3 rfl rfl rfl ht37 hr3000_3x23 rfl rfl rfl rfl) ?_ ?_
           ·
            exact any_end rfl (out_mk (weak_cov ⟨rfl, rfl, rfl, rfl, rfl, trivial⟩ ⟨rfl, trivial⟩))
           ·
            exact any_nil
          ·
           exact any_nil
         ·
          exact any_nil
        ·
         exact any_nil
       ·
        exact any_nil
      refine any_a (i := 19) rfl rfl (m_loadW (en := eI) (l := r3000) (i := (wi (a1 + v10))) (v := t34) (lq rfl) O3 rfl rfl ht34 rfl) ?_ ?_
      ·
       refine any_n [13] (by kernel_rfl) rfl ?_
       refine any_a (i := 13) rfl rfl (m_loadW (en := eI) (l := r3000) (i := (wi (a2 + v10))) (v := t28) (lq rfl) O3 rfl rfl ht28 rfl) ?_ ?_
       ·
        refine any_n [20] (by kernel_rfl) rfl ?_
        refine any_a (i := 20) rfl rfl (m_indexW (en := eI) (l := r3000) (lq rfl) S30 rfl rfl rfl ht36) ?_ ?_
        ·
         refine any_n [21] (by kernel_rfl) rfl ?_
         refine any_b (i := 21) rfl rfl (m_storeW (en := eI) (l := r3000) (i := (wi (a1 + v10))) (v := t28) O3 rfl rfl rfl ht36 hr3000_3x21 rfl rfl rfl rfl) ?_ ?_
         ·
          refine any_n [22] (by kernel_rfl) rfl ?_
          refine any_a (i := 22) rfl rfl (m_indexW (en := eI) (l := r3000_3x21) (lq rfl) S30 rfl rfl rfl ht37) ?_ ?_
          ·
           refine any_n [23] (by kernel_rfl) rfl ?_
           refine any_b (i := 23) rfl rfl (m_storeW (en := eI) (l := r3000_3x21) (i := (wi (a2 + v10))) (v := t34) O3 rfl rfl rfl ht37 hr3000_3x23 rfl rfl rfl rfl) ?_ ?_
           ·
            exact any_end rfl (out_mk (weak_cov ⟨rfl, rfl, rfl, rfl, rfl, trivial⟩ ⟨rfl, trivial⟩))
           ·
            exact any_nil
          ·
           exact any_nil
         ·
          exact any_nil
        ·
         exact any_nil
       ·
        exact any_nil
      exact any_nil
     exact any_nil
    refine any_a (i := 18) rfl rfl (m_indexW (en := eI) (l := r3000) (lq rfl) S30 rfl rfl rfl ht34) ?_ ?_
    ·
     refine any_n [12, 19] (by kernel_rfl) rfl ?_
     refine any_a (i := 12) rfl rfl (m_indexW (en := eI) (l := r3000) (lq rfl) S30 rfl rfl rfl ht28) ?_ ?_
     ·
      refine any_n [13, 19] (by kernel_rfl) rfl ?_
      refine any_a (i := 13) rfl rfl (m_loadW (en := eI) (l := r3000) (i := (wi (a2 + v10))) (v := t28) (lq rfl) O3 rfl rfl ht28 rfl) ?_ ?_
      ·
       refine any_n [19] (by kernel_rfl) rfl ?_
       refine any_a (i := 19) rfl rfl (m_loadW (en := eI) (l := r3000) (i := (wi (a1 + v10))) (v := t34) (lq rfl) O3 rfl rfl ht34 rfl) ?_ ?_
       ·
        refine any_n [20] (by kernel_rfl) rfl ?_
        refine any_a (i := 20) rfl rfl (m_indexW (en := eI) (l := r3000) (lq rfl) S30 rfl rfl rfl ht36) ?_ ?_
        ·
         refine any_n [21] (by kernel_rfl) rfl ?_
         refine any_b (i := 21) rfl rfl (m_storeW (en := eI) (l := r3000) (i := (wi (a1 + v10))) (v := t28) O3 rfl rfl rfl ht36 hr3000_3x21 rfl rfl rfl rfl) ?_ ?_
         ·
          refine any_n [22] (by kernel_rfl) rfl ?_
          refine any_a (i := 22) rfl rfl (m_indexW (en := eI) (l := r3000_3x21) (lq rfl) S30 rfl rfl rfl ht37) ?_ ?_
          ·
           refine any_n [23] (by kernel_rfl) rfl ?_
           refine any_b (i := 23) rfl rfl (m_storeW (en := eI) (l := r3000_3x21) (i := (wi (a2 + v10))) (v := t34) O3 rfl rfl rfl ht37 hr3000_3x23 rfl rfl rfl rfl) ?_ ?_
           ·
            exact any_end rfl (out_mk (weak_cov ⟨rfl, rfl, rfl, rfl, rfl, trivial⟩ ⟨rfl, trivial⟩))
           ·
            exact any_nil
          ·
           exact any_nil
         ·
          exact any_nil
        ·
         exact any_nil
       ·
        exact any_nil
      refine any_a (i := 19) rfl rfl (m_loadW (en := eI) (l := r3000) (i := (wi (a1 + v10))) (v := t34) (lq rfl) O3 rfl rfl ht34 rfl) ?_ ?_
      ·
       refine any_n [13] (by kernel_rfl) rfl ?_
       refine any_a (i := 13) rfl rfl (m_loadW (en := eI) (l := r3000) (i := (wi (a2 + v10))) (v := t28) (lq rfl) O3 rfl rfl ht28 rfl) ?_ ?_
       ·
        refine any_n [20] (by kernel_rfl) rfl ?_
        refine any_a (i := 20) rfl rfl (m_indexW (en := eI) (l := r3000) (lq rfl) S30 rfl rfl rfl ht36) ?_ ?_
        ·
         refine any_n [21] (by kernel_rfl) rfl ?_
         refine any_b (i := 21) rfl rfl (m_storeW (en := eI) (l := r3000) (i := (wi (a1 + v10))) (v := t28) O3 rfl rfl rfl ht36 hr3000_3x21 rfl rfl rfl rfl) ?_ ?_
         ·
          refine any_n [22] (by kernel_rfl) rfl ?_
          refine any_a (i := 22) rfl rfl (m_indexW (en := eI) (l := r3000_3x21) (lq rfl) S30 rfl rfl rfl ht37) ?_ ?_
          ·
           refine any_n [23] (by kernel_rfl) rfl ?_
           refine any_b (i := 23) rfl rfl (m_storeW (en := eI) (l := r3000_3x21) (i := (wi (a2 + v10))) (v := t34) O3 rfl rfl rfl ht37 hr3000_3x23 rfl rfl rfl rfl) ?_ ?_
           ·
            exact any_end rfl (out_mk (weak_cov ⟨rfl, rfl, rfl, rfl, rfl, trivial⟩ ⟨rfl, trivial⟩))
           ·
            exact any_nil
          ·
           exact any_nil
         ·
          exact any_nil
        ·
         exact any_nil
       ·
        exact any_nil
      exact any_nil
     refine any_a (i := 19) rfl rfl (m_loadW (en := eI) (l := r3000) (i := (wi (a1 + v10))) (v := t34) (lq rfl) O3 rfl rfl ht34 rfl) ?_ ?_
     ·
      refine any_n [12] (by kernel_rfl) rfl ?_
      refine any_a (i := 12) rfl rfl (m_indexW (en := eI) (l := r3000) (lq rfl) S30 rfl rfl rfl ht28) ?_ ?_
      ·
       refine any_n [13] (by kernel_rfl) rfl ?_
       refine any_a (i := 13) rfl rfl (m_loadW (en := eI) (l := r3000) (i := (wi (a2 + v10))) (v := t28) (lq rfl) O3 rfl rfl ht28 rfl) ?_ ?_
       ·
        refine any_n [20] (by kernel_rfl) rfl ?_
        refine any_a (i := 20) rfl rfl (m_indexW (en := eI) (l := r3000) (lq rfl) S30 rfl rfl rfl ht36) ?_ ?_
        ·
         refine any_n [21] (by kernel_rfl) rfl ?_
         refine any_b (i := 21) rfl rfl (m_storeW (en := eI) (l := r3000) (i := (wi (a1 + v10))) (v := t28) O3 rfl rfl rfl ht36 hr3000_3x21 rfl rfl rfl rfl) ?_ ?_
         ·
          refine any_n [22] (by kernel_rfl) rfl ?_
          refine any_a (i := 22) rfl rfl (m_indexW (en := eI) (l := r3000_3x21) (lq rfl) S30 rfl rfl rfl ht37) ?_ ?_
          ·
           refine any_n [23] (by kernel_rfl) rfl ?_
           refine any_b (i := 23) rfl rfl (m_storeW (en := eI) (l := r3000_3x21) (i := (wi (a2 + v10))) (v := t34) O3 rfl rfl rfl ht37 hr3000_3x23 rfl rfl rfl rfl) ?_ ?_
           ·
            exact any_end rfl (out_mk (weak_cov ⟨rfl, rfl, rfl, rfl, rfl, trivial⟩ ⟨rfl, trivial⟩))
           ·
            exact any_nil
          ·
           exact any_nil
         ·
          exact any_nil
        ·
         exact any_nil
       ·
        exact any_nil
      ·
       exact any_nil
     exact any_nil
    exact any_nil
   refine avc_sq ?_
   refine sqa (a_move_d (lq rfl) rfl) ?_
   refine sqa (m_add (lq rfl) rfl rfl) ?_
   refine sqa (a_assign_d (lq rfl) rfl) ?_
   refine sq_nil ?_
   cases hsy1
   exact weak_cov ⟨rfl, rfl, rfl, rfl, rfl, trivial⟩ ⟨rfl, trivial⟩
  ·
   replace hsy1 := cF c1 hsy1
   refine avc_exit ?_
   cases hsy1
   intro q; cases q
   exact out_mk (weak_cov ⟨rfl, trivial⟩ ⟨rfl, trivial⟩)
 ·
  cases h'
  exact ⟨rfl, ⟨rfl, trivial⟩⟩
theorem slices_rotateCmpFunc_int_g {fv4 : DV} {a0 : (List Int)} {a1 : Int} {a2 : Int} {a3 : Int} {a4 : Int → Int → Option (Int)} (hf4 : ∀ x0 x1 y, a4 x0 x1 = some y → FnC Tryd.prog fv4 [(di x0), (di x1)] [(di y)]) {r : (List Int)} (h : slices_rotateCmpFunc_int a0 a1 a2 a3 a4 = some r) : GC Tryd.prog 96 [.row 3000, .d (di a1), .d (di a2), .d (di a3), .d fv4] [(3000, .win 3 eI.size 0 (eI.all a0))] [3000] [] [(3000, .win 3 eI.size 0 (eI.all r))] := by
 refine gc_of Tryd.func96 (by kernel_rfl) rfl (lq rfl) (lq rfl) fun w0 I0 hG0 p0 => ?_
 unfold slices_rotateCmpFunc_int at h
 refine avc_sq2 <| avc_sq ?_
 refine sqa (a_move_d (lq rfl) rfl) ?_
 refine sqa (a_move_d (lq rfl) rfl) ?_
 refine sqa (m_sub (lq rfl) rfl rfl) ?_
 refine sqa (a_assign_d (lq rfl) rfl) ?_
 refine sq_nil <| avc_sq2 <| avc_sq ?_
 refine sqa (a_move_d (lq rfl) rfl) ?_
 refine sqa (a_move_d (lq rfl) rfl) ?_
 refine sqa (m_sub (lq rfl) rfl rfl) ?_
 refine sqa (a_assign_d (lq rfl) rfl) ?_
 refine sq_nil <| avc_sq2 <| avc_block ?_
 obtain ⟨y1, hy1, h'⟩ := bE h; clear h
 refine avc_tail (e := (.exit 0)) (S2 := ⟨[(0, .row 3000), (2, .d (di a2)), (4, .d fv4), (10, .d (di y1.1))], [(3000, .win 3 eI.size 0 (eI.all y1.2))]⟩) ?_ ?_
 ·
  refine avc_loopM (fun x => ⟨[(0, .row 3000), (2, .d (di a2)), (4, .d fv4), (10, .d (di x.1)), (11, .d (di x.2.1))], [(3000, .win 3 eI.size 0 (eI.all x.2.2))]⟩) hy1 (weak_cov ⟨rfl, rfl, rfl, rfl, rfl, trivial⟩ ⟨rfl, trivial⟩) ?_
  rintro ⟨v10, v11, r3000⟩ sy1 hsy1
  replace hsy1 : slices_rotateCmpFunc_int_L0 a2 a4 v10 v11 r3000 = some sy1 := hsy1
  unfold slices_rotateCmpFunc_int_L0 at hsy1
  refine avc_sq2 <| avc_sq2 <| avc_sq ?_
  refine sqa (a_move_d (lq rfl) rfl) ?_
  refine sqa (a_move_d (lq rfl) rfl) ?_
  refine sqa (a_neq (lq rfl) rfl rfl) ?_
  refine sq_nil ?_
  refine avc_if rfl ⟨fun c1 => ?_, fun c1 => ?_⟩
  ·
   replace hsy1 := cT c1 hsy1
   refine avc_skip ?_
   obtain ⟨y2, hy2, hsy1'⟩ := bE hsy1; clear hsy1
   refine avc_tail (e := .normal) (S2 := ⟨[(0, .row 3000), (2, .d (di a2)), (4, .d fv4), (10, .d (di y2.1)), (11, .d (di y2.2.1))], [(3000, .win 3 eI.size 0 (eI.all y2.2.2))]⟩) ?_ ?_
   ·
    refine avc_block <| avc_sq2 <| avc_sq ?_
    refine sqa (a_move_d (lq rfl) rfl) ?_
    refine sqa (a_move_d (lq rfl) rfl) ?_
    refine sqa (a_gtr (lq rfl) rfl rfl) ?_
    refine sq_nil ?_
    refine avc_if rfl ⟨fun c2 => ?_, fun c2 => ?_⟩
    ·
     replace hy2 := cT c2 hy2
     refine avc_sq2 <| avc_sq ?_
     refine sqa (a_move_row (lq rfl) rfl) ?_
     refine sqa (a_move_d (lq rfl) rfl) ?_
     refine sqa (a_move_d (lq rfl) rfl) ?_
     refine sqa (m_sub (lq rfl) rfl rfl) ?_
     refine sqa (a_move_d (lq rfl) rfl) ?_
     refine sqa (a_move_d (lq rfl) rfl) ?_
     refine sqa (a_move_d (lq rfl) rfl) ?_
     obtain ⟨t31, ht31, hy2'⟩ := bE hy2; clear hy2
     refine sq_b rfl (g_callN [(3000, 3000)] (slices_swapRangeCmpFunc_int_g hf4 ht31) (lq rfl) (by decide) ⟨rfl, rfl, rfl, rfl, rfl, trivial⟩ rfl rfl ⟨rfl, trivial⟩ rfl rfl rfl rfl) ?_
     refine sq_nil <| avc_sq ?_
     refine sqa (a_move_d (lq rfl) rfl) ?_
     refine sqa (a_move_d (lq rfl) rfl) ?_
     refine sqa (m_sub (lq rfl) rfl rfl) ?_
     refine sqa (a_assign_d (lq rfl) rfl) ?_
     refine sq_nil ?_
     cases hy2'
     exact out_mk (weak_cov ⟨rfl, rfl, rfl, rfl, rfl, trivial⟩ ⟨rfl, trivial⟩)
    ·
     replace hy2 := cF c2 hy2
     refine avc_sq2 <| avc_sq ?_
     refine sqa (a_move_row (lq rfl) rfl) ?_
     refine sqa (a_move_d (lq rfl) rfl) ?_
     refine sqa (a_move_d (lq rfl) rfl) ?_
     refine sqa (m_sub (lq rfl) rfl rfl) ?_
     refine sqa (a_move_d (lq rfl) rfl) ?_
     refine sqa (a_move_d (lq rfl) rfl) ?_
     refine sqa (m_add (lq rfl) rfl rfl) ?_
     refine sqa (a_move_d (lq rfl) rfl) ?_
     refine sqa (m_sub (lq rfl) rfl rfl) ?_
     refine sqa (a_move_d (lq rfl) rfl) ?_
     refine sqa (a_move_d (lq rfl) rfl) ?_
     obtain ⟨t46, ht46, hy2'⟩ := bE hy2; clear hy2
     refine sq_b rfl (g_callN [(3000, 3000)] (slices_swapRangeCmpFunc_int_g hf4 ht46) (lq rfl) (by decide) ⟨rfl, rfl, rfl, rfl, rfl, trivial⟩ rfl rfl ⟨rfl, trivial⟩ rfl rfl rfl rfl) ?_
     refine sq_nil <| avc_sq ?_
     refine sqa (a_move_d (lq rfl) rfl) ?_
     refine sqa (a_move_d (lq rfl) rfl) ?_
     refine sqa (m_sub (lq rfl) rfl rfl) ?_
     refine sqa (a_assign_d (lq rfl) rfl) ?_
     refine sq_nil ?_
     cases hy2'
     exact out_mk (weak_cov ⟨rfl, rfl, rfl, rfl, rfl, trivial⟩ ⟨rfl, trivial⟩)
   ·
    cases hsy1'
    exact weak_cov ⟨rfl, rfl, rfl, rfl, rfl, trivial⟩ ⟨rfl, trivial⟩
  ·
   replace hsy1 := cF c1 hsy1
   refine avc_exit ?_
   cases hsy1
   intro q; cases q
   exact out_mk (weak_cov ⟨rfl, rfl, rfl, rfl, trivial⟩ ⟨rfl, trivial⟩)
 ·
  refine avc_sq ?_
  refine sqa (a_move_row (lq rfl) rfl) ?_
  refine sqa (a_move_d (lq rfl) rfl) ?_
  refine sqa (a_move_d (lq rfl) rfl) ?_
  refine sqa (m_sub (lq rfl) rfl rfl) ?_
  refine sqa (a_move_d (lq rfl) rfl) ?_
  refine sqa (a_move_d (lq rfl) rfl) ?_
  refine sqa (a_move_d (lq rfl) rfl) ?_
  obtain ⟨t57, ht57, h⟩ := bE h'; clear h'
  refine sq_b rfl (g_callN [(3000, 3000)] (slices_swapRangeCmpFunc_int_g hf4 ht57) (lq rfl) (by decide) ⟨rfl, rfl, rfl, rfl, rfl, trivial⟩ rfl rfl ⟨rfl, trivial⟩ rfl rfl rfl rfl) ?_
  refine sq_nil ?_
  cases h
  exact ⟨rfl, ⟨rfl, trivial⟩⟩
set_option maxHeartbeats 8000000 in
theorem slices_symMergeCmpFunc_int_g : ∀ (n : Nat) {fv4 : DV} {a0 : (List Int)} {a1 : Int} {a2 : Int} {a3 : Int} {a4 : Int → Int → Option (Int)} (hf4 : ∀ x0 x1 y, a4 x0 x1 = some y → FnC Tryd.prog fv4 [(di x0), (di x1)] [(di y)]) {r : (List Int)} (h : slices_symMergeCmpFunc_int n a0 a1 a2 a3 a4 = some r), GC Tryd.prog 89 [.row 3000, .d (di a1), .d (di a2), .d (di a3), .d fv4] [(3000, .win 3 eI.size 0 (eI.all a0))] [3000] [] [(3000, .win 3 eI.size 0 (eI.all r))] := by
 intro n
 induction n with
 | zero => intro fv4 a0 a1 a2 a3 a4 hf4 r h; cases h
 | succ n ih =>
 intro fv4 a0 a1 a2 a3 a4 hf4 r h
 replace h : slices_symMergeCmpFunc_int_B (slices_symMergeCmpFunc_int n) a0 a1 a2 a3 a4 = some r := h
 generalize slices_symMergeCmpFunc_int n = rec at h ih
 refine gc_of Tryd.func89 (by kernel_rfl) rfl (lq rfl) (lq rfl) fun w0 I0 hG0 p0 => ?_
 unfold slices_symMergeCmpFunc_int_B at h
 refine avc_sq2 <| avc_sq2 <| avc_sq ?_
 refine sqa (a_move_d (lq rfl) rfl) ?_
 refine sqa (a_move_d (lq rfl) rfl) ?_
 refine sqa (m_sub (lq rfl) rfl rfl) ?_
 refine sqa (a_eql (lq rfl) rfl rfl) ?_
 refine sq_nil ?_
 refine avc_if rfl ⟨fun c1 => ?_, fun c1 => ?_⟩
 ·
  replace h := cT c1 h
  refine avc_sq2 <| avc_sq ?_
  refine sqa (a_move_d (lq rfl) rfl) ?_
  refine sqa (a_assign_d (lq rfl) rfl) ?_
  refine sq_nil <| avc_sq2 <| avc_sq ?_
  refine sqa (a_move_d (lq rfl) rfl) ?_
  refine sqa (a_assign_d (lq rfl) rfl) ?_
  refine sq_nil <| avc_sq2 <| avc_block ?_
  obtain ⟨y1, hy1, h'⟩ := bE h; clear h
  refine avc_tail (e := (.exit 0)) (S2 := ⟨[(0, .row 3000), (1, .d (di a1)), (10, .d (di y1))], [(3000, .win 3 eI.size 0 (eI.all a0))]⟩) ?_ ?_
  ·
   refine avc_loopM (fun x => ⟨[(0, .row 3000), (1, .d (di a1)), (4, .d fv4), (10, .d (di x.1)), (11, .d (di x.2))], [(3000, .win 3 eI.size 0 (eI.all a0))]⟩) hy1 (weak_cov ⟨rfl, rfl, rfl, rfl, rfl, trivial⟩ ⟨rfl, trivial⟩) ?_
   rintro ⟨v10, v11⟩ sy1 hsy1
   replace hsy1 : slices_symMergeCmpFunc_int_L0 a0 a1 a4 v10 v11 = some sy1 := hsy1
   unfold slices_symMergeCmpFunc_int_L0 at hsy1
   refine avc_sq2 <| avc_sq2 <| avc_sq ?_
   refine sqa (a_move_d (lq rfl) rfl) ?_
   refine sqa (a_move_d (lq rfl) rfl) ?_
   refine sqa (a_lss (lq rfl) rfl rfl) ?_
   refine sq_nil ?_
   refine avc_if rfl ⟨fun c2 => ?_, fun c2 => ?_⟩
   ·
    replace hsy1 := cT c2 hsy1
    refine avc_skip ?_
    obtain ⟨y2, hy2, hsy1'⟩ := bE hsy1; clear hsy1
    refine avc_tail (e := .normal) (S2 := ⟨[(0, .row 3000), (1, .d (di a1)), (4, .d fv4), (10, .d (di y2.1)), (11, .d (di y2.2))], [(3000, .win 3 eI.size 0 (eI.all a0))]⟩) ?_ ?_
    ·
     refine avc_block <| avc_sq2 <| avc_sq ?_
     refine sqa (a_move_d (lq rfl) rfl) ?_
     refine sqa (a_move_d (lq rfl) rfl) ?_
     refine sqa (m_add (lq rfl) rfl rfl) ?_
     refine sqa (m_conv (lq rfl) Tryd.underlying3 Tryd.underlying132 rfl) ?_
     refine sqa (a_shr (m := 1) (lq rfl) rfl rfl (by decide)) ?_
     refine sqa (m_conv (lq rfl) Tryd.underlying132 Tryd.underlying3 rfl) ?_
     refine sqa (a_assign_d (lq rfl) rfl) ?_
     refine sq_nil <| avc_sq2 ?_
     refine avc_drawA MX rfl ?_
     refine daa (a_move_d (lq rfl) rfl) ?_
     refine daa (a_move_row (lq rfl) rfl) ?_
     refine daa (a_move_d (lq rfl) rfl) ?_
     obtain ⟨t43, ht43, hy2'⟩ := bE hy2; clear hy2
     refine daa (m_indexW (en := eI) (l := a0) (lq rfl) S30 rfl rfl rfl ht43) ?_
     refine daa (m_loadW (en := eI) (l := a0) (i := (wi ((wu (wi (v10 + v11))) / 2 ^ 1))) (v := t43) (lq rfl) O3 rfl rfl ht43 rfl) ?_
     refine daa (a_move_row (lq rfl) rfl) ?_
     refine daa (a_move_d (lq rfl) rfl) ?_
     obtain ⟨t47, ht47, hy2⟩ := bE hy2'; clear hy2'
     refine daa (m_indexW (en := eI) (l := a0) (lq rfl) S30 rfl rfl rfl ht47) ?_
     refine daa (m_loadW (en := eI) (l := a0) (i := a1) (v := t47) (lq rfl) O3 rfl rfl ht47 rfl) ?_
     obtain ⟨t49, ht49, hy2'⟩ := bE hy2; clear hy2
     refine daa (a_callF (lq rfl) rfl rfl (hf4 _ _ _ ht49)) ?_
     refine daa (a_lss (lq rfl) rfl rfl) ?_
     refine da_nil ?_
     refine avc_if rfl ⟨fun c3 => ?_, fun c3 => ?_⟩
     ·
      replace hy2' := cT c3 hy2'
      refine avc_sq ?_
      refine sqa (a_move_d (lq rfl) rfl) ?_
      refine sqa (m_add (lq rfl) rfl rfl) ?_
      refine sqa (a_assign_d (lq rfl) rfl) ?_
      refine sq_nil ?_
      cases hy2'
      exact out_mk (weak_cov ⟨rfl, rfl, rfl, rfl, rfl, trivial⟩ ⟨rfl, trivial⟩)
     ·
      replace hy2' := cF c3 hy2'
      refine avc_sq ?_
      refine sqa (a_move_d (lq rfl) rfl) ?_
      refine sqa (a_assign_d (lq rfl) rfl) ?_
      refine sq_nil ?_
      cases hy2'
      exact out_mk (weak_cov ⟨rfl, rfl, rfl, rfl, rfl, trivial⟩ ⟨rfl, trivial⟩)
    ·
     cases hsy1'
     exact weak_cov ⟨rfl, rfl, rfl, rfl, rfl, trivial⟩ ⟨rfl, trivial⟩
   ·
    replace hsy1 := cF c2 hsy1
    refine avc_exit ?_
    cases hsy1
    intro q; cases q
    exact out_mk (weak_cov ⟨rfl, rfl, rfl, trivial⟩ ⟨rfl, trivial⟩)
  ·
   refine avc_sq2 <| avc_sq2 <| avc_sq ?_
   refine sqa (a_move_d (lq rfl) rfl) ?_
   refine sqa (a_assign_d (lq rfl) rfl) ?_
   refine sq_nil <| avc_block ?_
   obtain ⟨y3, hy3, h⟩ := bE h'; clear h'
   refine avc_tail (e := (.exit 2)) (S2 := ⟨[(0, .row 3000)], [(3000, .win 3 eI.size 0 (eI.all y3))]⟩) ?_ ?_
   ·
    refine avc_loopM (fun x => ⟨[(0, .row 3000), (10, .d (di y1)), (13, .d (di x.1))], [(3000, .win 3 eI.size 0 (eI.all x.2))]⟩) hy3 (weak_cov ⟨rfl, rfl, rfl, trivial⟩ ⟨rfl, trivial⟩) ?_
    rintro ⟨v13, r3000⟩ sy3 hsy3
    replace hsy3 : slices_symMergeCmpFunc_int_L1 y1 v13 r3000 = some sy3 := hsy3
    unfold slices_symMergeCmpFunc_int_L1 at hsy3
    refine avc_sq2 <| avc_sq2 <| avc_sq ?_
    refine sqa (a_move_d (lq rfl) rfl) ?_
    refine sqa (a_move_d (lq rfl) rfl) ?_
    refine sqa (m_sub (lq rfl) rfl rfl) ?_
    refine sqa (a_lss (lq rfl) rfl rfl) ?_
    refine sq_nil ?_
    refine avc_if rfl ⟨fun c4 => ?_, fun c4 => ?_⟩
    ·
     replace hsy3 := cT c4 hsy3
     refine avc_skip <| avc_sq2 <| avc_block ?_
     obtain ⟨t69, ht69, hsy3'⟩ := bE hsy3; clear hsy3
     obtain ⟨t73, ht73, hsy3⟩ := bE hsy3'; clear hsy3'
     obtain ⟨t75, ht75, hsy3'⟩ := bE hsy3; clear hsy3
     obtain ⟨r3000_11x15, hr3000_11x15, hsy3⟩ := bE hsy3'; clear hsy3'
     obtain ⟨t76, ht76, hsy3'⟩ := bE hsy3; clear hsy3
     obtain ⟨r3000_11x17, hr3000_11x17, hsy3⟩ := bE hsy3'; clear hsy3'
     refine avc_tail (e := .normal) (S2 := ⟨[(0, .row 3000), (10, .d (di y1)), (13, .d (di v13))], [(3000, .win 3 eI.size 0 (eI.all r3000_11x17))]⟩) ?_ ?_
     ·
      refine avc_any MX ?_
      refine any_move (i := 0) rfl (lq rfl) rfl rfl rfl rfl ?_
      refine any_move (i := 1) rfl (lq rfl) rfl rfl rfl rfl ?_
      refine any_move (i := 2) rfl (lq rfl) rfl rfl rfl rfl ?_
      refine any_move (i := 3) rfl (lq rfl) rfl rfl rfl rfl ?_
      refine any_add (i := 4) rfl (lq rfl) rfl rfl rfl rfl rfl rfl ?_
      refine any_move (i := 5) rfl (lq rfl) rfl rfl rfl rfl ?_
      refine any_move (i := 6) rfl (lq rfl) rfl rfl rfl rfl ?_
      refine any_add (i := 7) rfl (lq rfl) rfl rfl rfl rfl rfl rfl ?_
      refine any_move (i := 10) rfl (lq rfl) rfl rfl rfl rfl ?_
      refine any_move (i := 11) rfl (lq rfl) rfl rfl rfl rfl ?_
      refine any_n [8, 12] (by kernel_rfl) rfl ?_
      refine any_a (i := 8) rfl rfl (m_indexW (en := eI) (l := r3000) (lq rfl) S30 rfl rfl rfl ht69) ?_ ?_
      ·
       refine any_n [9, 12] (by kernel_rfl) rfl ?_
       refine any_a (i := 9) rfl rfl (m_loadW (en := eI) (l := r3000) (i := (wi (v13 + 1))) (v := t69) (lq rfl) O3 rfl rfl ht69 rfl) ?_ ?_
       ·
        refine any_n [12] (by kernel_rfl) rfl ?_
        refine any_a (i := 12) rfl rfl (m_indexW (en := eI) (l := r3000) (lq rfl) S30 rfl rfl rfl ht73) ?_ ?_
        ·
         refine any_n [13] (by kernel_rfl) rfl ?_
         refine any_a (i := 13) rfl rfl (m_loadW (en := eI) (l := r3000) (i := v13) (v := t73) (lq rfl) O3 rfl rfl ht73 rfl) ?_ ?_
         ·
          refine any_n [14] (by kernel_rfl) rfl ?_
          refine any_a (i := 14) rfl rfl (m_indexW (en := eI) (l := r3000) (lq rfl) S30 rfl rfl rfl ht75) ?_ ?_
          ·
           refine any_n [15] (by kernel_rfl) rfl ?_
           refine any_b (i := 15) rfl rfl (m_storeW (en := eI) (l := r3000) (i := v13) (v := t69) O3 rfl rfl rfl ht75 hr3000_11x15 rfl rfl rfl rfl) ?_ ?_
           ·
            refine any_n [16] (by kernel_rfl) rfl ?_
            refine any_a (i := 16) rfl rfl (m_indexW (en := eI) (l := r3000_11x15) (lq rfl) S30 rfl rfl rfl ht76) ?_ ?_
            ·
             refine any_n [17] (by kernel_rfl) rfl ?_
             refine any_b (i := 17) rfl rfl (m_storeW (en := eI) (l := r3000_11x15) (i := (wi (v13 + 1))) (v := t73) O3 rfl rfl rfl ht76 hr3000_11x17 rfl rfl rfl rfl) ?_ ?_
             ·
              exact any_end rfl (out_mk (weak_cov ⟨rfl, rfl, rfl, trivial⟩ ⟨rfl, trivial⟩))
             ·
              exact any_nil
            ·
             exact any_nil
           ·
            exact any_nil
          ·
           exact any_nil
         ·
          exact any_nil
        ·
         exact any_nil
       refine any_a (i := 12) rfl rfl (m_indexW (en := eI) (l := r3000) (lq rfl) S30 rfl rfl rfl ht73) ?_ ?_
       ·
        refine any_n [9, 13] (by kernel_rfl) rfl ?_
        refine any_a (i := 9) rfl rfl (m_loadW (en := eI) (l := r3000) (i := (wi (v13 + 1))) (v := t69) (lq rfl) O3 rfl rfl ht69 rfl) ?_ ?_
        ·
         refine any_n [13] (by kernel_rfl) rfl ?_
         refine any_a (i := 13) rfl rfl (m_loadW (en := eI) (l := r3000) (i := v13) (v := t73) (lq rfl) O3 rfl rfl ht73 rfl) ?_ ?_
         ·
          refine any_n [14] (by kernel_rfl) rfl ?_
          refine any_a (i := 14) rfl rfl (m_indexW (en := eI) (l := r3000) (lq rfl) S30 rfl rfl rfl ht75) ?_ ?_
          ·
           refine any_n [15] (by kernel_rfl) rfl ?_
           refine any_b (i := 15) rfl rfl (m_storeW (en := eI) (l := r3000) (i := v13) (v := t69) O3 rfl rfl rfl ht75 hr3000_11x15 rfl rfl rfl rfl) ?_ ?_
           ·
            refine any_n [16] (by kernel_rfl) rfl ?_
            refine any_a (i := 16) rfl rfl (m_indexW (en := eI) (l := r3000_11x15) (lq rfl) S30 rfl rfl rfl ht76) ?_ ?_
            ·
             refine any_n [17] (by kernel_rfl) rfl ?_
             refine any_b (i := 17) rfl rfl (m_storeW (en := eI) (l := r3000_11x15) (i := (wi (v13 + 1))) (v := t73) O3 rfl rfl rfl ht76 hr3000_11x17 rfl rfl rfl rfl) ?_ ?_
             ·
              exact any_end rfl (out_mk (weak_cov ⟨rfl, rfl, rfl, trivial⟩ ⟨rfl, trivial⟩))
             ·
              exact any_nil
            ·
             exact any_nil
           ·
            exact any_nil
          ·
           exact any_nil
         ·
          exact any_nil
        refine any_a (i := 13) rfl rfl (m_loadW (en := eI) (l := r3000) (i := v13) (v := t73) (lq rfl) O3 rfl rfl ht73 rfl) ?_ ?_
        ·
         refine any_n [9] (by kernel_rfl) rfl ?_
         refine any_a (i := 9) rfl rfl (m_loadW (en := eI) (l := r3000) (i := (wi (v13 + 1))) (v := t69) (lq rfl) O3 rfl rfl ht69 rfl) ?_ ?_
         ·
          refine any_n [14] (by kernel_rfl) rfl ?_
          refine any_a (i := 14) rfl rfl (m_indexW (en := eI) (l := r3000) (lq rfl) S30 rfl rfl rfl ht75) ?_ ?_
          ·
           refine any_n [15] (by kernel_rfl) rfl ?_
           refine any_b (i := 15) rfl rfl (m_storeW (en := eI) (l := r3000) (i := v13) (v := t69) O3 rfl rfl rfl ht75 hr3000_11x15 rfl rfl rfl rfl) ?_ ?_
           ·
            refine any_n [16] (by kernel_rfl) rfl ?_
            refine any_a (i := 16) rfl rfl (m_indexW (en := eI) (l := r3000_11x15) (lq rfl) S30 rfl rfl rfl ht76) ?_ ?_
            ·
             refine any_n [17] (by kernel_rfl) rfl ?_
             refine any_b (i := 17) rfl rfl (m_storeW (en := eI) (l := r3000_11x15) (i := (wi (v13 + 1))) (v := t73) O3 rfl rfl rfl ht76 hr3000_11x17 rfl rfl rfl rfl) ?_ ?_
             ·
              exact any_end rfl (out_mk (weak_cov ⟨rfl, rfl, rfl, trivial⟩ ⟨rfl, trivial⟩))
             ·
              exact any_nil
            ·
             exact any_nil
           ·
            exact any_nil
          ·
           exact any_nil
         ·
          exact any_nil
        exact any_nil
       exact any_nil
      refine any_a (i := 12) rfl rfl (m_indexW (en := eI) (l := r3000) (lq rfl) S30 rfl rfl rfl ht73) ?_ ?_
      ·
       refine any_n [8, 13] (by kernel_rfl) rfl ?_
       refine any_a (i := 8) rfl rfl (m_indexW (en := eI) (l := r3000) (lq rfl) S30 rfl rfl rfl ht69) ?_ ?_
       ·
        refine any_n [9, 13] (by kernel_rfl) rfl ?_
        refine any_a (i := 9) rfl rfl (m_loadW (en := eI) (l := r3000) (i := (wi (v13 + 1))) (v := t69) (lq rfl) O3 rfl rfl ht69 rfl) ?_ ?_
        ·
         refine any_n [13] (by kernel_rfl) rfl ?_
         refine any_a (i := 13) rfl rfl (m_loadW (en := eI) (l := r3000) (i := v13) (v := t73) (lq rfl) O3 rfl rfl ht73 rfl) ?_ ?_
         ·
          refine any_n [14] (by kernel_rfl) rfl ?_
          refine any_a (i := 14) rfl rfl (m_indexW (en := eI) (l := r3000) (lq rfl) S30 rfl rfl rfl ht75) ?_ ?_
          ·
           refine any_n [15] (by kernel_rfl) rfl ?_
           refine any_b (i := 15) rfl rfl (m_storeW (en := eI) (l := r3000) (i := v13) (v := t69) O3 rfl rfl rfl ht75 hr3000_11x15 rfl rfl rfl rfl) ?_ ?_
           ·
            refine any_n [16] (by kernel_rfl) rfl ?_
            refine any_a (i := 16) rfl rfl (m_indexW (en := eI) (l := r3000_11x15) (lq rfl) S30 rfl rfl rfl ht76) ?_ ?_
            ·
             refine any_n [17] (by kernel_rfl) rfl ?_
             refine any_b (i := 17) rfl rfl (m_storeW (en := eI) (l := r3000_11x15) (i := (wi (v13 + 1))) (v := t73) O3 rfl rfl rfl ht76 hr3000_11x17 rfl rfl rfl rfl) ?_ ?_
             ·
              exact any_end rfl (out_mk (weak_cov ⟨rfl, rfl, rfl, trivial⟩ ⟨rfl, trivial⟩))
             ·
              exact any_nil
            ·
             exact any_nil
           ·
            exact any_nil
          ·
           exact any_nil
         ·
          exact any_nil
        refine any_a (i := 13) rfl rfl (m_loadW (en := eI) (l := r3000) (i := v13) (v := t73) (lq rfl) O3 rfl rfl ht73 rfl) ?_ ?_
        ·
         refine any_n [9] (by kernel_rfl) rfl ?_
         refine any_a (i := 9) rfl rfl (m_loadW (en := eI) (l := r3000) (i := (wi (v13 + 1))) (v := t69) (lq rfl) O3 rfl rfl ht69 rfl) ?_ ?_
         ·
          refine any_n [14] (by kernel_rfl) rfl ?_
          refine any_a (i := 14) rfl rfl (m_indexW (en := eI) (l := r3000) (lq rfl) S30 rfl rfl rfl ht75) ?_ ?_
          ·
           refine any_n [15] (by kernel_rfl) rfl ?_
           refine any_b (i := 15) rfl rfl (m_storeW (en := eI) (l := r3000) (i := v13) (v := t69) O3 rfl rfl rfl ht75 hr3000_11x15 rfl rfl rfl rfl) ?_ ?_
           ·
            refine any_n [16] (by kernel_rfl) rfl ?_
            refine any_a (i := 16) rfl rfl (m_indexW (en := eI) (l := r3000_11x15) (lq rfl) S30 rfl rfl rfl ht76) ?_ ?_
            ·
             refine any_n [17] (by kernel_rfl) rfl ?_
             refine any_b (i := 17) rfl rfl (m_storeW (en := eI) (l := r3000_11x15) (i := (wi (v13 + 1))) (v := t73) O3 rfl rfl rfl ht76 hr3000_11x17 rfl rfl rfl rfl) ?_ ?_
             ·
              exact any_end rfl (out_mk (weak_cov ⟨rfl, rfl, rfl, trivial⟩ ⟨rfl, trivial⟩))
             ·
              exact any_nil
            ·
             exact any_nil
           ·
            exact any_nil
          ·
           exact any_nil
         ·
          exact any_nil
        exact any_nil
       refine any_a (i := 13) rfl rfl (m_loadW (en := eI) (l := r3000) (i := v13) (v := t73) (lq rfl) O3 rfl rfl ht73 rfl) ?_ ?_
       ·
        refine any_n [8] (by kernel_rfl) rfl ?_
        refine any_a (i := 8) rfl rfl (m_indexW (en := eI) (l := r3000) (lq rfl) S30 rfl rfl rfl ht69) ?_ ?_
        ·
         refine any_n [9] (by kernel_rfl) rfl ?_
         refine any_a (i := 9) rfl rfl (m_loadW (en := eI) (l := r3000) (i := (wi (v13 + 1))) (v := t69) (lq rfl) O3 rfl rfl ht69 rfl) ?_ ?_
         ·
          refine any_n [14] (by kernel_rfl) rfl ?_
          refine any_a (i := 14) rfl rfl (m_indexW (en := eI) (l := r3000) (lq rfl) S30 rfl rfl rfl ht75) ?_ ?_
          ·
           refine any_n [15] (by kernel_rfl) rfl ?_
           refine any_b (i := 15) rfl rfl (m_storeW (en := eI) (l := r3000) (i := v13) (v := t69) O3 rfl rfl rfl ht75 hr3000_11x15 rfl rfl rfl rfl) ?_ ?_
           ·
            refine any_n [16] (by kernel_rfl) rfl ?_
            refine any_a (i := 16) rfl rfl (m_indexW (en := eI) (l := r3000_11x15) (lq rfl) S30 rfl rfl rfl ht76) ?_ ?_
            ·
             refine any_n [17] (by kernel_rfl) rfl ?_
             refine any_b (i := 17) rfl rfl (m_storeW (en := eI) (l := r3000_11x15) (i := (wi (v13 + 1))) (v := t73) O3 rfl rfl rfl ht76 hr3000_11x17 rfl rfl rfl rfl) ?_ ?_
             ·
              exact any_end rfl (out_mk (weak_cov ⟨rfl, rfl, rfl, trivial⟩ ⟨rfl, trivial⟩))
             ·
              exact any_nil
            ·
             exact any_nil
           ·
            exact any_nil
          ·
           exact any_nil
         ·
          exact any_nil
        ·
         exact any_nil
       exact any_nil
      exact any_nil
     refine avc_sq ?_
     refine sqa (a_move_d (lq rfl) rfl) ?_
     refine sqa (m_add (lq rfl) rfl rfl) ?_
     refine sqa (a_assign_d (lq rfl) rfl) ?_
     refine sq_nil ?_
     cases hsy3
     exact weak_cov ⟨rfl, rfl, rfl, trivial⟩ ⟨rfl, trivial⟩
    ·
     replace hsy3 := cF c4 hsy3
     refine avc_exit ?_
     cases hsy3
     intro q; cases q
     exact out_mk (weak_cov ⟨rfl, trivial⟩ ⟨rfl, trivial⟩)
   ·
    cases h
    refine avc_ret ?_
    exact ⟨rfl, ⟨rfl, trivial⟩⟩
 ·
  replace h := cF c1 h
  refine avc_skip <| avc_sq2 <| avc_sq2 <| avc_sq ?_
  refine sqa (a_move_d (lq rfl) rfl) ?_
  refine sqa (a_move_d (lq rfl) rfl) ?_
  refine sqa (m_sub (lq rfl) rfl rfl) ?_
  refine sqa (a_eql (lq rfl) rfl rfl) ?_
  refine sq_nil ?_
  refine avc_if rfl ⟨fun c5 => ?_, fun c5 => ?_⟩
  ·
   replace h := cT c5 h
   refine avc_sq2 <| avc_sq ?_
   refine sqa (a_move_d (lq rfl) rfl) ?_
   refine sqa (a_assign_d (lq rfl) rfl) ?_
   refine sq_nil <| avc_sq2 <| avc_sq ?_
   refine sqa (a_move_d (lq rfl) rfl) ?_
   refine sqa (a_assign_d (lq rfl) rfl) ?_
   refine sq_nil <| avc_sq2 <| avc_block ?_
   obtain ⟨y4, hy4, h'⟩ := bE h; clear h
   refine avc_tail (e := (.exit 4)) (S2 := ⟨[(0, .row 3000), (2, .d (di a2)), (14, .d (di y4))], [(3000, .win 3 eI.size 0 (eI.all a0))]⟩) ?_ ?_
   ·
    refine avc_loopM (fun x => ⟨[(0, .row 3000), (2, .d (di a2)), (4, .d fv4), (14, .d (di x.1)), (15, .d (di x.2))], [(3000, .win 3 eI.size 0 (eI.all a0))]⟩) hy4 (weak_cov ⟨rfl, rfl, rfl, rfl, rfl, trivial⟩ ⟨rfl, trivial⟩) ?_
    rintro ⟨v14, v15⟩ sy4 hsy4
    replace hsy4 : slices_symMergeCmpFunc_int_L2 a0 a2 a4 v14 v15 = some sy4 := hsy4
    unfold slices_symMergeCmpFunc_int_L2 at hsy4
    refine avc_sq2 <| avc_sq2 <| avc_sq ?_
    refine sqa (a_move_d (lq rfl) rfl) ?_
    refine sqa (a_move_d (lq rfl) rfl) ?_
    refine sqa (a_lss (lq rfl) rfl rfl) ?_
    refine sq_nil ?_
    refine avc_if rfl ⟨fun c6 => ?_, fun c6 => ?_⟩
    ·
     replace hsy4 := cT c6 hsy4
     refine avc_skip ?_
     obtain ⟨y5, hy5, hsy4'⟩ := bE hsy4; clear hsy4
     refine avc_tail (e := .normal) (S2 := ⟨[(0, .row 3000), (2, .d (di a2)), (4, .d fv4), (14, .d (di y5.1)), (15, .d (di y5.2))], [(3000, .win 3 eI.size 0 (eI.all a0))]⟩) ?_ ?_
     ·
      refine avc_block <| avc_sq2 <| avc_sq ?_
      refine sqa (a_move_d (lq rfl) rfl) ?_
      refine sqa (a_move_d (lq rfl) rfl) ?_
      refine sqa (m_add (lq rfl) rfl rfl) ?_
      refine sqa (m_conv (lq rfl) Tryd.underlying3 Tryd.underlying132 rfl) ?_
      refine sqa (a_shr (m := 1) (lq rfl) rfl rfl (by decide)) ?_
      refine sqa (m_conv (lq rfl) Tryd.underlying132 Tryd.underlying3 rfl) ?_
      refine sqa (a_assign_d (lq rfl) rfl) ?_
      refine sq_nil <| avc_sq2 ?_
      refine avc_drawA MX rfl ?_
      refine daa (a_move_d (lq rfl) rfl) ?_
      refine daa (a_move_row (lq rfl) rfl) ?_
      refine daa (a_move_d (lq rfl) rfl) ?_
      obtain ⟨t95, ht95, hy5'⟩ := bE hy5; clear hy5
      refine daa (m_indexW (en := eI) (l := a0) (lq rfl) S30 rfl rfl rfl ht95) ?_
      refine daa (m_loadW (en := eI) (l := a0) (i := a2) (v := t95) (lq rfl) O3 rfl rfl ht95 rfl) ?_
      refine daa (a_move_row (lq rfl) rfl) ?_
      refine daa (a_move_d (lq rfl) rfl) ?_
      obtain ⟨t99, ht99, hy5⟩ := bE hy5'; clear hy5'
      refine daa (m_indexW (en := eI) (l := a0) (lq rfl) S30 rfl rfl rfl ht99) ?_
      refine daa (m_loadW (en := eI) (l := a0) (i := (wi ((wu (wi (v14 + v15))) / 2 ^ 1))) (v := t99) (lq rfl) O3 rfl rfl ht99 rfl) ?_
      obtain ⟨t101, ht101, hy5'⟩ := bE hy5; clear hy5
      refine daa (a_callF (lq rfl) rfl rfl (hf4 _ _ _ ht101)) ?_
      refine daa (a_lss (lq rfl) rfl rfl) ?_
      refine daa (a_not (lq rfl) rfl) ?_
      refine da_nil ?_
      refine avc_if rfl ⟨fun c7 => ?_, fun c7 => ?_⟩
      ·
       replace hy5' := cT c7 hy5'
       refine avc_sq ?_
       refine sqa (a_move_d (lq rfl) rfl) ?_
       refine sqa (m_add (lq rfl) rfl rfl) ?_
       refine sqa (a_assign_d (lq rfl) rfl) ?_
       refine sq_nil ?_
       cases hy5'
       exact out_mk (weak_cov ⟨rfl, rfl, rfl, rfl, rfl, trivial⟩ ⟨rfl, trivial⟩)
      ·
       replace hy5' := cF c7 hy5'
       refine avc_sq ?_
       refine sqa (a_move_d (lq rfl) rfl) ?_
       refine sqa (a_assign_d (lq rfl) rfl) ?_
       refine sq_nil ?_
       cases hy5'
       exact out_mk (weak_cov ⟨rfl, rfl, rfl, rfl, rfl, trivial⟩ ⟨rfl, trivial⟩)
     ·
      cases hsy4'
      exact weak_cov ⟨rfl, rfl, rfl, rfl, rfl, trivial⟩ ⟨rfl, trivial⟩
    ·
     replace hsy4 := cF c6 hsy4
     refine avc_exit ?_
     cases hsy4
     intro q; cases q
     exact out_mk (weak_cov ⟨rfl, rfl, rfl, trivial⟩ ⟨rfl, trivial⟩)
   ·
    refine avc_sq2 <| avc_sq2 <| avc_sq ?_
    refine sqa (a_move_d (lq rfl) rfl) ?_
    refine sqa (a_assign_d (lq rfl) rfl) ?_
    refine sq_nil <| avc_block ?_
    obtain ⟨y6, hy6, h⟩ := bE h'; clear h'
    refine avc_tail (e := (.exit 6)) (S2 := ⟨[(0, .row 3000)], [(3000, .win 3 eI.size 0 (eI.all y6))]⟩) ?_ ?_
    ·
     refine avc_loopM (fun x => ⟨[(0, .row 3000), (14, .d (di y4)), (17, .d (di x.1))], [(3000, .win 3 eI.size 0 (eI.all x.2))]⟩) hy6 (weak_cov ⟨rfl, rfl, rfl, trivial⟩ ⟨rfl, trivial⟩) ?_
     rintro ⟨v17, r3000⟩ sy6 hsy6
     replace hsy6 : slices_symMergeCmpFunc_int_L3 y4 v17 r3000 = some sy6 := hsy6
     unfold slices_symMergeCmpFunc_int_L3 at hsy6
     refine avc_sq2 <| avc_sq2 <| avc_sq ?_
     refine sqa (a_move_d (lq rfl) rfl) ?_
     refine sqa (a_move_d (lq rfl) rfl) ?_
     refine sqa (a_gtr (lq rfl) rfl rfl) ?_
     refine sq_nil ?_
     refine avc_if rfl ⟨fun c8 => ?_, fun c8 => ?_⟩
     ·
      replace hsy6 := cT c8 hsy6
      refine avc_skip <| avc_sq2 <| avc_block ?_
      obtain ⟨t121, ht121, hsy6'⟩ := bE hsy6; clear hsy6
      obtain ⟨t125, ht125, hsy6⟩ := bE hsy6'; clear hsy6'
      obtain ⟨t127, ht127, hsy6'⟩ := bE hsy6; clear hsy6
      obtain ⟨r3000_23x15, hr3000_23x15, hsy6⟩ := bE hsy6'; clear hsy6'
      obtain ⟨t128, ht128, hsy6'⟩ := bE hsy6; clear hsy6
      obtain ⟨r3000_23x17, hr3000_23x17, hsy6⟩ := bE hsy6'; clear hsy6'
      refine avc_tail (e := .normal) (S2 := ⟨[(0, .row 3000), (14, .d (di y4)), (17, .d (di v17))], [(3000, .win 3 eI.size 0 (eI.all r3000_23x17))]⟩) ?_ ?_
      ·
       refine avc_any MX ?_
       refine any_move (i := 0) rfl (lq rfl) rfl rfl rfl rfl ?_
       refine any_move (i := 1) rfl (lq rfl) rfl rfl rfl rfl ?_
       refine any_move (i := 2) rfl (lq rfl) rfl rfl rfl rfl ?_
       refine any_move (i := 3) rfl (lq rfl) rfl rfl rfl rfl ?_
       refine any_sub (i := 4) rfl (lq rfl) rfl rfl rfl rfl rfl rfl ?_
       refine any_move (i := 5) rfl (lq rfl) rfl rfl rfl rfl ?_
       refine any_move (i := 6) rfl (lq rfl) rfl rfl rfl rfl ?_
       refine any_sub (i := 7) rfl (lq rfl) rfl rfl rfl rfl rfl rfl ?_
       refine any_move (i := 10) rfl (lq rfl) rfl rfl rfl rfl ?_
       refine any_move (i := 11) rfl (lq rfl) rfl rfl rfl rfl ?_
       refine any_n [8, 12] (by kernel_rfl) rfl ?_
       refine any_a (i := 8) rfl rfl (m_indexW (en := eI) (l := r3000) (lq rfl) S30 rfl rfl rfl ht121) ?_ ?_
       ·
        refine any_n [9, 12] (by kernel_rfl) rfl ?_
        refine any_a (i := 9) rfl rfl (m_loadW (en := eI) (l := r3000) (i := (wi (v17 - 1))) (v := t121) (lq rfl) O3 rfl rfl ht121 rfl) ?_ ?_
        ·
         refine any_n [12] (by kernel_rfl) rfl ?_
         refine any_a (i := 12) rfl rfl (m_indexW (en := eI) (l := r3000) (lq rfl) S30 rfl rfl rfl ht125) ?_ ?_
         ·
          refine any_n [13] (by kernel_rfl) rfl ?_
          refine any_a (i := 13) rfl rfl (m_loadW (en := eI) (l := r3000) (i := v17) (v := t125) (lq rfl) O3 rfl rfl ht125 rfl) ?_ ?_
          ·
           refine any_n [14] (by kernel_rfl) rfl ?_
           refine any_a (i := 14) rfl rfl (m_indexW (en := eI) (l := r3000) (lq rfl) S30 rfl rfl rfl ht127) ?_ ?_
           ·
            refine any_n [15] (by kernel_rfl) rfl ?_
            refine any_b (i := 15) rfl rfl (m_storeW (en := eI) (l := r3000) (i := v17) (v := t121) O3 rfl rfl rfl ht127 hr3000_23x15 rfl rfl rfl rfl) ?_ ?_
            ·
             refine any_n [16] (by kernel_rfl) rfl ?_
             refine any_a (i := 16) rfl rfl (m_indexW (en := eI) (l := r3000_23x15) (lq rfl) S30 rfl rfl rfl ht128) ?_ ?_
             ·
              refine any_n [17] (by kernel_rfl) rfl ?_
              refine any_b (i := 17) rfl rfl (m_storeW (en := eI) (l := r3000_23x15) (i := (wi (v17 - 1))) (v := t125) O3 rfl rfl rfl ht128 hr3000_23x17 rfl rfl rfl rfl) ?_ ?_
              ·
               exact any_end rfl (out_mk (weak_cov ⟨rfl, rfl, rfl, trivial⟩ ⟨rfl, trivial⟩))
              ·
               exact any_nil
             ·
              exact any_nil
            ·
             exact any_nil
           ·
            exact any_nil
          ·
           exact any_nil
         ·
          exact any_nil
        refine any_a (i := 12) rfl rfl (m_indexW (en := eI) (l := r3000) (lq rfl) S30 rfl rfl rfl ht125) ?_ ?_
        ·
         refine any_n [9, 13] (by kernel_rfl) rfl ?_
         refine any_a (i := 9) rfl rfl (m_loadW (en := eI) (l := r3000) (i := (wi (v17 - 1))) (v := t121) (lq rfl) O3 rfl rfl ht121 rfl) ?_ ?_
         ·
          refine any_n [13] (by kernel_rfl) rfl ?_
          refine any_a (i := 13) rfl rfl (m_loadW (en := eI) (l := r3000) (i := v17) (v := t125) (lq rfl) O3 rfl rfl ht125 rfl) ?_ ?_
          ·
           refine any_n [14] (by kernel_rfl) rfl ?_
           refine any_a (i := 14) rfl rfl (m_indexW (en := eI) (l := r3000) (lq rfl) S30 rfl rfl rfl ht127) ?_ ?_
           ·
            refine any_n [15] (by kernel_rfl) rfl ?_
            refine any_b (i := 15) rfl rfl (m_storeW (en := eI) (l := r3000) (i := v17) (v := t121) O3 rfl rfl rfl ht127 hr3000_23x15 rfl rfl rfl rfl) ?_ ?_
            ·
             refine any_n [16] (by kernel_rfl) rfl ?_
             refine any_a (i := 16) rfl rfl (m_indexW (en := eI) (l := r3000_23x15) (lq rfl) S30 rfl rfl rfl ht128) ?_ ?_
             ·
              refine any_n [17] (by kernel_rfl) rfl ?_
              refine any_b (i := 17) rfl rfl (m_storeW (en := eI) (l := r3000_23x15) (i := (wi (v17 - 1))) (v := t125) O3 rfl rfl rfl ht128 hr3000_23x17 rfl rfl rfl rfl) ?_ ?_
              ·
               exact any_end rfl (out_mk (weak_cov ⟨rfl, rfl, rfl, trivial⟩ ⟨rfl, trivial⟩))
              ·
               exact any_nil
             ·
              exact any_nil
            ·
             exact any_nil
           ·
            exact any_nil
          ·
           exact any_nil
         refine any_a (i := 13) rfl rfl (m_loadW (en := eI) (l := r3000) (i := v17) (v := t125) (lq rfl) O3 rfl rfl ht125 rfl) ?_ ?_
         ·
          refine any_n [9] (by kernel_rfl) rfl ?_
          refine any_a (i := 9) rfl rfl (m_loadW (en := eI) (l := r3000) (i := (wi (v17 - 1))) (v := t121) (lq rfl) O3 rfl rfl ht121 rfl) ?_ ?_
          ·
           refine any_n [14] (by kernel_rfl) rfl ?_
           refine any_a (i := 14) rfl rfl (m_indexW (en := eI) (l := r3000) (lq rfl) S30 rfl rfl rfl ht127) ?_ ?_
           ·
            refine any_n [15] (by kernel_rfl) rfl ?_
            refine any_b (i := 15) rfl rfl (m_storeW (en := eI) (l := r3000) (i := v17) (v := t121) O3 rfl rfl rfl ht127 hr3000_23x15 rfl rfl rfl rfl) ?_ ?_
            ·
             refine any_n [16] (by kernel_rfl) rfl ?_
             refine any_a (i := 16) rfl rfl (m_indexW (en := eI) (l := r3000_23x15) (lq rfl) S30 rfl rfl rfl ht128) ?_ ?_
             ·
              refine any_n [17] (by kernel_rfl) rfl ?_
              refine any_b (i := 17) rfl rfl (m_storeW (en := eI) (l := r3000_23x15) (i := (wi (v17 - 1))) (v := t125) O3 rfl rfl rfl ht128 hr3000_23x17 rfl rfl rfl rfl) ?_ ?_
              ·
               exact any_end rfl (out_mk (weak_cov ⟨rfl, rfl, rfl, trivial⟩ ⟨rfl, trivial⟩))
              ·
               exact any_nil
             ·
              exact any_nil
            ·
             exact any_nil
           ·
            exact any_nil
          ·
           exact any_nil
         exact any_nil
        exact any_nil
       refine any_a (i := 12) rfl rfl (m_indexW (en := eI) (l := r3000) (lq rfl) S30 rfl rfl rfl ht125) ?_ ?_
       ·
        refine any_n [8, 13] (by kernel_rfl) rfl ?_
        refine any_a (i := 8) rfl rfl (m_indexW (en := eI) (l := r3000) (lq rfl) S30 rfl rfl rfl ht121) ?_ ?_
        ·
         refine any_n [9, 13] (by kernel_rfl) rfl ?_
         refine any_a (i := 9) rfl rfl (m_loadW (en := eI) (l := r3000) (i := (wi (v17 - 1))) (v := t121) (lq rfl) O3 rfl rfl ht121 rfl) ?_ ?_
         ·
          refine any_n [13] (by kernel_rfl) rfl ?_
          refine any_a (i := 13) rfl rfl (m_loadW (en := eI) (l := r3000) (i := v17) (v := t125) (lq rfl) O3 rfl rfl ht125 rfl) ?_ ?_
          ·
           refine any_n [14] (by kernel_rfl) rfl ?_
           refine any_a (i := 14) rfl rfl (m_indexW (en := eI) (l := r3000) (lq rfl) S30 rfl rfl rfl ht127) ?_ ?_
           ·
            refine any_n [15] (by kernel_rfl) rfl ?_
            refine any_b (i := 15) rfl rfl (m_storeW (en := eI) (l := r3000) (i := v17) (v := t121) O3 rfl rfl rfl ht127 hr3000_23x15 rfl rfl rfl rfl) ?_ ?_
            ·
             refine any_n [16] (by kernel_rfl) rfl ?_
             refine any_a (i := 16) rfl rfl (m_indexW (en := eI) (l := r3000_23x15) (lq rfl) S30 rfl rfl rfl ht128) ?_ ?_
             ·
              refine any_n [17] (by kernel_rfl) rfl ?_
              refine any_b (i := 17) rfl rfl (m_storeW (en := eI) (l := r3000_23x15) (i := (wi (v17 - 1))) (v := t125) O3 rfl rfl rfl ht128 hr3000_23x17 rfl rfl rfl rfl) ?_ ?_
              ·
               exact any_end rfl (out_mk (weak_cov ⟨rfl, rfl, rfl, trivial⟩ ⟨rfl, trivial⟩))
              ·
               exact any_nil
             ·
              exact any_nil
            ·
             exact any_nil
           ·
            exact any_nil
          ·
           exact any_nil
         refine any_a (i := 13) rfl rfl (m_loadW (en := eI) (l := r3000) (i := v17) (v := t125) (lq rfl) O3 rfl rfl ht125 rfl) ?_ ?_
         ·
          refine any_n [9] (by kernel_rfl) rfl ?_
          refine any_a (i := 9) rfl rfl (m_loadW (en := eI) (l := r3000) (i := (wi (v17 - 1))) (v := t121) (lq rfl) O3 rfl rfl ht121 rfl) ?_ ?_
          ·
           refine any_n [14] (by kernel_rfl) rfl ?_
           refine any_a (i := 14) rfl rfl (m_indexW (en := eI) (l := r3000) (lq rfl) S30 rfl rfl rfl ht127) ?_ ?_
           ·
            refine any_n [15] (by kernel_rfl) rfl ?_
            refine any_b (i := 15) rfl rfl (m_storeW (en := eI) (l := r3000) (i := v17) (v := t121) O3 rfl rfl rfl ht127 hr3000_23x15 rfl rfl rfl rfl) ?_ ?_
            ·
             refine any_n [16] (by kernel_rfl) rfl ?_
             refine any_a (i := 16) rfl rfl (m_indexW (en := eI) (l := r3000_23x15) (lq rfl) S30 rfl rfl rfl ht128) ?_ ?_
             ·
              refine any_n [17] (by kernel_rfl) rfl ?_
              refine any_b (i := 17) rfl rfl (m_storeW (en := eI) (l := r3000_23x15) (i := (wi (v17 - 1))) (v := t125) O3 rfl rfl rfl ht128 hr3000_23x17 rfl rfl rfl rfl) ?_ ?_
              ·
               exact any_end rfl (out_mk (weak_cov ⟨rfl, rfl, rfl, trivial⟩ ⟨rfl, trivial⟩))
              ·
               exact any_nil
             ·
              exact any_nil
            ·
             exact any_nil
           ·
            exact any_nil
          ·
           exact any_nil
         exact any_nil
        refine any_a (i := 13) rfl rfl (m_loadW (en := eI) (l := r3000) (i := v17) (v := t125) (lq rfl) O3 rfl rfl ht125 rfl) ?_ ?_
        ·
         refine any_n [8] (by kernel_rfl) rfl ?_
         refine any_a (i := 8) rfl rfl (m_indexW (en := eI) (l := r3000) (lq rfl) S30 rfl rfl rfl ht121) ?_ ?_
         ·
          refine any_n [9] (by kernel_rfl) rfl ?_
          refine any_a (i := 9) rfl rfl (m_loadW (en := eI) (l := r3000) (i := (wi (v17 - 1))) (v := t121) (lq rfl) O3 rfl rfl ht121 rfl) ?_ ?_
          ·
           refine any_n [14] (by kernel_rfl) rfl ?_
           refine any_a (i := 14) rfl rfl (m_indexW (en := eI) (l := r3000) (lq rfl) S30 rfl rfl rfl ht127) ?_ ?_
           ·
            refine any_n [15] (by kernel_rfl) rfl ?_
            refine any_b (i := 15) rfl rfl (m_storeW (en := eI) (l := r3000) (i := v17) (v := t121) O3 rfl rfl rfl ht127 hr3000_23x15 rfl rfl rfl rfl) ?_ ?_
            ·
             refine any_n [16] (by kernel_rfl) rfl ?_
             refine any_a (i := 16) rfl rfl (m_indexW (en := eI) (l := r3000_23x15) (lq rfl) S30 rfl rfl rfl ht128) ?_ ?_
             ·
              refine any_n [17] (by kernel_rfl) rfl ?_
              refine any_b (i := 17) rfl rfl (m_storeW (en := eI) (l := r3000_23x15) (i := (wi (v17 - 1))) (v := t125) O3 rfl rfl rfl ht128 hr3000_23x17 rfl rfl rfl rfl) ?_ ?_
              ·
               exact any_end rfl (out_mk (weak_cov ⟨rfl, rfl, rfl, trivial⟩ ⟨rfl, trivial⟩))
              ·
               exact any_nil
             ·
              exact any_nil
            ·
             exact any_nil
           ·
            exact any_nil
          ·
           exact any_nil
         ·
          exact any_nil
        exact any_nil
       exact any_nil
      refine avc_sq ?_
      refine sqa (a_move_d (lq rfl) rfl) ?_
      refine sqa (m_sub (lq rfl) rfl rfl) ?_
      refine sqa (a_assign_d (lq rfl) rfl) ?_
      refine sq_nil ?_
      cases hsy6
      exact weak_cov ⟨rfl, rfl, rfl, trivial⟩ ⟨rfl, trivial⟩
     ·
      replace hsy6 := cF c8 hsy6
      refine avc_exit ?_
      cases hsy6
      intro q; cases q
      exact out_mk (weak_cov ⟨rfl, trivial⟩ ⟨rfl, trivial⟩)
    ·
     cases h
     refine avc_ret ?_
     exact ⟨rfl, ⟨rfl, trivial⟩⟩
  ·
   replace h := cF c5 h
   refine avc_skip <| avc_sq2 <| avc_sq ?_
   refine sqa (a_move_d (lq rfl) rfl) ?_
   refine sqa (a_move_d (lq rfl) rfl) ?_
   refine sqa (m_add (lq rfl) rfl rfl) ?_
   refine sqa (m_conv (lq rfl) Tryd.underlying3 Tryd.underlying132 rfl) ?_
   refine sqa (a_shr (m := 1) (lq rfl) rfl rfl (by decide)) ?_
   refine sqa (m_conv (lq rfl) Tryd.underlying132 Tryd.underlying3 rfl) ?_
   refine sqa (a_assign_d (lq rfl) rfl) ?_
   refine sq_nil <| avc_sq2 <| avc_sq ?_
   refine sqa (a_move_d (lq rfl) rfl) ?_
   refine sqa (a_move_d (lq rfl) rfl) ?_
   refine sqa (m_add (lq rfl) rfl rfl) ?_
   refine sqa (a_assign_d (lq rfl) rfl) ?_
   refine sq_nil <| avc_sq2 <| avc_sq ?_
   refine sqa (a_assign_d (lq rfl) rfl) ?_
   refine sqa (a_assign_d (lq rfl) rfl) ?_
   refine sq_nil <| avc_sq2 <| avc_sq2 <| avc_sq ?_
   refine sqa (a_move_d (lq rfl) rfl) ?_
   refine sqa (a_move_d (lq rfl) rfl) ?_
   refine sqa (a_gtr (lq rfl) rfl rfl) ?_
   refine sq_nil ?_
   obtain ⟨y7, hy7, h'⟩ := bE h; clear h
   refine avc_tail (e := .normal) (S2 := ⟨[(0, .row 3000), (1, .d (di a1)), (2, .d (di a2)), (3, .d (di a3)), (4, .d fv4), (18, .d (di (wi ((wu (wi (a1 + a3))) / 2 ^ 1)))), (19, .d (di (wi ((wi ((wu (wi (a1 + a3))) / 2 ^ 1)) + a2)))), (20, .d (di y7.1)), (21, .d (di y7.2))], [(3000, .win 3 eI.size 0 (eI.all a0))]⟩) ?_ ?_
   ·
    refine avc_if rfl ⟨fun c9 => ?_, fun c9 => ?_⟩
    ·
     replace hy7 := cT c9 hy7
     refine avc_sq2 <| avc_sq ?_
     refine sqa (a_move_d (lq rfl) rfl) ?_
     refine sqa (a_move_d (lq rfl) rfl) ?_
     refine sqa (m_sub (lq rfl) rfl rfl) ?_
     refine sqa (a_assign_d (lq rfl) rfl) ?_
     refine sq_nil <| avc_sq ?_
     refine sqa (a_move_d (lq rfl) rfl) ?_
     refine sqa (a_assign_d (lq rfl) rfl) ?_
     refine sq_nil ?_
     cases hy7
     exact out_mk (weak_cov ⟨rfl, rfl, rfl, rfl, rfl, rfl, rfl, rfl, rfl, trivial⟩ ⟨rfl, trivial⟩)
    ·
     replace hy7 := cF c9 hy7
     refine avc_sq2 <| avc_sq ?_
     refine sqa (a_move_d (lq rfl) rfl) ?_
     refine sqa (a_assign_d (lq rfl) rfl) ?_
     refine sq_nil <| avc_sq ?_
     refine sqa (a_move_d (lq rfl) rfl) ?_
     refine sqa (a_assign_d (lq rfl) rfl) ?_
     refine sq_nil ?_
     cases hy7
     exact out_mk (weak_cov ⟨rfl, rfl, rfl, rfl, rfl, rfl, rfl, rfl, rfl, trivial⟩ ⟨rfl, trivial⟩)
   ·
    refine avc_sq2 <| avc_sq ?_
    refine sqa (a_move_d (lq rfl) rfl) ?_
    refine sqa (m_sub (lq rfl) rfl rfl) ?_
    refine sqa (a_assign_d (lq rfl) rfl) ?_
    refine sq_nil <| avc_sq2 <| avc_block ?_
    obtain ⟨y8, hy8, h⟩ := bE h'; clear h'
    refine avc_tail (e := (.exit 8)) (S2 := ⟨[(0, .row 3000), (1, .d (di a1)), (2, .d (di a2)), (3, .d (di a3)), (4, .d fv4), (18, .d (di (wi ((wu (wi (a1 + a3))) / 2 ^ 1)))), (19, .d (di (wi ((wi ((wu (wi (a1 + a3))) / 2 ^ 1)) + a2)))), (20, .d (di y8))], [(3000, .win 3 eI.size 0 (eI.all a0))]⟩) ?_ ?_
    ·
     refine avc_loopM (fun x => ⟨[(0, .row 3000), (1, .d (di a1)), (2, .d (di a2)), (3, .d (di a3)), (4, .d fv4), (18, .d (di (wi ((wu (wi (a1 + a3))) / 2 ^ 1)))), (19, .d (di (wi ((wi ((wu (wi (a1 + a3))) / 2 ^ 1)) + a2)))), (20, .d (di x.1)), (21, .d (di x.2)), (22, .d (di (wi ((wi ((wi ((wu (wi (a1 + a3))) / 2 ^ 1)) + a2)) - 1))))], [(3000, .win 3 eI.size 0 (eI.all a0))]⟩) hy8 (weak_cov ⟨rfl, rfl, rfl, rfl, rfl, rfl, rfl, rfl, rfl, rfl, trivial⟩ ⟨rfl, trivial⟩) ?_
     rintro ⟨v20, v21⟩ sy8 hsy8
     replace hsy8 : slices_symMergeCmpFunc_int_L4 a0 a1 a3 a2 a4 v20 v21 = some sy8 := hsy8
     unfold slices_symMergeCmpFunc_int_L4 at hsy8
     refine avc_sq2 <| avc_sq2 <| avc_sq ?_
     refine sqa (a_move_d (lq rfl) rfl) ?_
     refine sqa (a_move_d (lq rfl) rfl) ?_
     refine sqa (a_lss (lq rfl) rfl rfl) ?_
     refine sq_nil ?_
     refine avc_if rfl ⟨fun c10 => ?_, fun c10 => ?_⟩
     ·
      replace hsy8 := cT c10 hsy8
      refine avc_skip ?_
      obtain ⟨y9, hy9, hsy8'⟩ := bE hsy8; clear hsy8
      refine avc_tail (e := .normal) (S2 := ⟨[(0, .row 3000), (1, .d (di a1)), (2, .d (di a2)), (3, .d (di a3)), (4, .d fv4), (18, .d (di (wi ((wu (wi (a1 + a3))) / 2 ^ 1)))), (19, .d (di (wi ((wi ((wu (wi (a1 + a3))) / 2 ^ 1)) + a2)))), (20, .d (di y9.1)), (21, .d (di y9.2)), (22, .d (di (wi ((wi ((wi ((wu (wi (a1 + a3))) / 2 ^ 1)) + a2)) - 1))))], [(3000, .win 3 eI.size 0 (eI.all a0))]⟩) ?_ ?_
      ·
       refine avc_block <| avc_sq2 <| avc_sq ?_
       refine sqa (a_move_d (lq rfl) rfl) ?_
       refine sqa (a_move_d (lq rfl) rfl) ?_
       refine sqa (m_add (lq rfl) rfl rfl) ?_
       refine sqa (m_conv (lq rfl) Tryd.underlying3 Tryd.underlying132 rfl) ?_
       refine sqa (a_shr (m := 1) (lq rfl) rfl rfl (by decide)) ?_
       refine sqa (m_conv (lq rfl) Tryd.underlying132 Tryd.underlying3 rfl) ?_
       refine sqa (a_assign_d (lq rfl) rfl) ?_
       refine sq_nil <| avc_sq2 ?_
       refine avc_drawA MX rfl ?_
       refine daa (a_move_d (lq rfl) rfl) ?_
       refine daa (a_move_row (lq rfl) rfl) ?_
       refine daa (a_move_d (lq rfl) rfl) ?_
       refine daa (a_move_d (lq rfl) rfl) ?_
       refine daa (m_sub (lq rfl) rfl rfl) ?_
       obtain ⟨t163, ht163, hy9'⟩ := bE hy9; clear hy9
       refine daa (m_indexW (en := eI) (l := a0) (lq rfl) S30 rfl rfl rfl ht163) ?_
       refine daa (m_loadW (en := eI) (l := a0) (i := (wi ((wi ((wi ((wi ((wu (wi (a1 + a3))) / 2 ^ 1)) + a2)) - 1)) - (wi ((wu (wi (v20 + v21))) / 2 ^ 1))))) (v := t163) (lq rfl) O3 rfl rfl ht163 rfl) ?_
       refine daa (a_move_row (lq rfl) rfl) ?_
       refine daa (a_move_d (lq rfl) rfl) ?_
       obtain ⟨t167, ht167, hy9⟩ := bE hy9'; clear hy9'
       refine daa (m_indexW (en := eI) (l := a0) (lq rfl) S30 rfl rfl rfl ht167) ?_
       refine daa (m_loadW (en := eI) (l := a0) (i := (wi ((wu (wi (v20 + v21))) / 2 ^ 1))) (v := t167) (lq rfl) O3 rfl rfl ht167 rfl) ?_
       obtain ⟨t169, ht169, hy9'⟩ := bE hy9; clear hy9
       refine daa (a_callF (lq rfl) rfl rfl (hf4 _ _ _ ht169)) ?_
       refine daa (a_lss (lq rfl) rfl rfl) ?_
       refine daa (a_not (lq rfl) rfl) ?_
       refine da_nil ?_
       refine avc_if rfl ⟨fun c11 => ?_, fun c11 => ?_⟩
       ·
        replace hy9' := cT c11 hy9'
        refine avc_sq ?_
        refine sqa (a_move_d (lq rfl) rfl) ?_
        refine sqa (m_add (lq rfl) rfl rfl) ?_
        refine sqa (a_assign_d (lq rfl) rfl) ?_
        refine sq_nil ?_
        cases hy9'
        exact out_mk (weak_cov ⟨rfl, rfl, rfl, rfl, rfl, rfl, rfl, rfl, rfl, rfl, trivial⟩ ⟨rfl, trivial⟩)
       ·
        replace hy9' := cF c11 hy9'
        refine avc_sq ?_
        refine sqa (a_move_d (lq rfl) rfl) ?_
        refine sqa (a_assign_d (lq rfl) rfl) ?_
        refine sq_nil ?_
        cases hy9'
        exact out_mk (weak_cov ⟨rfl, rfl, rfl, rfl, rfl, rfl, rfl, rfl, rfl, rfl, trivial⟩ ⟨rfl, trivial⟩)
      ·
       cases hsy8'
       exact weak_cov ⟨rfl, rfl, rfl, rfl, rfl, rfl, rfl, rfl, rfl, rfl, trivial⟩ ⟨rfl, trivial⟩
     ·
      replace hsy8 := cF c10 hsy8
      refine avc_exit ?_
      cases hsy8
      intro q; cases q
      exact out_mk (weak_cov ⟨rfl, rfl, rfl, rfl, rfl, rfl, rfl, rfl, trivial⟩ ⟨rfl, trivial⟩)
    ·
     refine avc_sq2 <| avc_sq ?_
     refine sqa (a_move_d (lq rfl) rfl) ?_
     refine sqa (a_move_d (lq rfl) rfl) ?_
     refine sqa (m_sub (lq rfl) rfl rfl) ?_
     refine sqa (a_assign_d (lq rfl) rfl) ?_
     refine sq_nil <| avc_sq2 <| avc_sq2 <| avc_sq ?_
     refine sqa (a_move_d (lq rfl) rfl) ?_
     refine sqa (a_move_d (lq rfl) rfl) ?_
     refine sqa (a_lss (lq rfl) rfl rfl) ?_
     obtain ⟨b181, hb181, h'⟩ := bE h; clear h
     refine sqa ((a_move_d (lq rfl) rfl).bool (Option.some.inj hb181)) ?_
     refine sq_g (x := .d (di a2)) rfl rfl rfl (lq rfl) (lq rfl) rfl (fun hb => by obtain rfl : b181 = true := hb; exact a_move_d (lq rfl) rfl) ?_
     refine sq_g (x := .d (di (wi ((wi ((wi ((wu (wi (a1 + a3))) / 2 ^ 1)) + a2)) - y8)))) rfl rfl rfl (lq rfl) (lq rfl) rfl (fun hb => by obtain rfl : b181 = true := hb; exact a_move_d (lq rfl) rfl) ?_
     refine sq_g (x := .d (db (decide (a2 < (wi ((wi ((wi ((wu (wi (a1 + a3))) / 2 ^ 1)) + a2)) - y8)))))) rfl rfl rfl (lq rfl) (lq rfl) rfl (fun hb => by obtain rfl : b181 = true := hb; exact a_lss (lq rfl) rfl rfl) ?_
     refine sqa (a_pick_and (lq rfl) rfl rfl) ?_
     refine sq_nil ?_
     obtain ⟨y10, hy10, h⟩ := bE h'; clear h'
     refine avc_tail (e := .normal) (S2 := ⟨[(0, .row 3000), (1, .d (di a1)), (3, .d (di a3)), (4, .d fv4), (18, .d (di (wi ((wu (wi (a1 + a3))) / 2 ^ 1)))), (20, .d (di y8)), (24, .d (di (wi ((wi ((wi ((wu (wi (a1 + a3))) / 2 ^ 1)) + a2)) - y8))))], [(3000, .win 3 eI.size 0 (eI.all y10))]⟩) ?_ ?_
     ·
      refine avc_if rfl ⟨fun c12 => ?_, fun c12 => ?_⟩
      ·
       replace hy10 := cT c12 hy10
       refine avc_sq ?_
       refine sqa (a_move_row (lq rfl) rfl) ?_
       refine sqa (a_move_d (lq rfl) rfl) ?_
       refine sqa (a_move_d (lq rfl) rfl) ?_
       refine sqa (a_move_d (lq rfl) rfl) ?_
       refine sqa (a_move_d (lq rfl) rfl) ?_
       obtain ⟨t191, ht191, hy10'⟩ := bE hy10; clear hy10
       refine sq_b rfl (g_callN [(3000, 3000)] (slices_rotateCmpFunc_int_g hf4 ht191) (lq rfl) (by decide) ⟨rfl, rfl, rfl, rfl, rfl, trivial⟩ rfl rfl ⟨rfl, trivial⟩ rfl rfl rfl rfl) ?_
       refine sq_nil ?_
       cases hy10'
       exact out_mk (weak_cov ⟨rfl, rfl, rfl, rfl, rfl, rfl, rfl, trivial⟩ ⟨rfl, trivial⟩)
      ·
       replace hy10 := cF c12 hy10
       refine avc_skip ?_
       cases hy10
       exact out_mk (weak_cov ⟨rfl, rfl, rfl, rfl, rfl, rfl, rfl, trivial⟩ ⟨rfl, trivial⟩)
     ·
      refine avc_sq2 <| avc_sq2 <| avc_sq ?_
      refine sqa (a_move_d (lq rfl) rfl) ?_
      refine sqa (a_move_d (lq rfl) rfl) ?_
      refine sqa (a_lss (lq rfl) rfl rfl) ?_
      obtain ⟨b195, hb195, h'⟩ := bE h; clear h
      refine sqa ((a_move_d (lq rfl) rfl).bool (Option.some.inj hb195)) ?_
      refine sq_g (x := .d (di y8)) rfl rfl rfl (lq rfl) (lq rfl) rfl (fun hb => by obtain rfl : b195 = true := hb; exact a_move_d (lq rfl) rfl) ?_
      refine sq_g (x := .d (di (wi ((wu (wi (a1 + a3))) / 2 ^ 1)))) rfl rfl rfl (lq rfl) (lq rfl) rfl (fun hb => by obtain rfl : b195 = true := hb; exact a_move_d (lq rfl) rfl) ?_
      refine sq_g (x := .d (db (decide (y8 < (wi ((wu (wi (a1 + a3))) / 2 ^ 1)))))) rfl rfl rfl (lq rfl) (lq rfl) rfl (fun hb => by obtain rfl : b195 = true := hb; exact a_lss (lq rfl) rfl rfl) ?_
      refine sqa (a_pick_and (lq rfl) rfl rfl) ?_
      refine sq_nil ?_
      obtain ⟨y11, hy11, h⟩ := bE h'; clear h'
      refine avc_tail (e := .normal) (S2 := ⟨[(0, .row 3000), (3, .d (di a3)), (4, .d fv4), (18, .d (di (wi ((wu (wi (a1 + a3))) / 2 ^ 1)))), (24, .d (di (wi ((wi ((wi ((wu (wi (a1 + a3))) / 2 ^ 1)) + a2)) - y8))))], [(3000, .win 3 eI.size 0 (eI.all y11))]⟩) ?_ ?_
      ·
       refine avc_if rfl ⟨fun c13 => ?_, fun c13 => ?_⟩
       ·
        replace hy11 := cT c13 hy11
        refine avc_sq ?_
        refine sqa (a_move_row (lq rfl) rfl) ?_
        refine sqa (a_move_d (lq rfl) rfl) ?_
        refine sqa (a_move_d (lq rfl) rfl) ?_
        refine sqa (a_move_d (lq rfl) rfl) ?_
        refine sqa (a_move_d (lq rfl) rfl) ?_
        obtain ⟨t205, ht205, hy11'⟩ := bE hy11; clear hy11
        refine sq_b rfl (g_callN [(3000, 3000)] (ih hf4 ht205) (lq rfl) (by decide) ⟨rfl, rfl, rfl, rfl, rfl, trivial⟩ rfl rfl ⟨rfl, trivial⟩ rfl rfl rfl rfl) ?_
        refine sq_nil ?_
        cases hy11'
        exact out_mk (weak_cov ⟨rfl, rfl, rfl, rfl, rfl, trivial⟩ ⟨rfl, trivial⟩)
       ·
        replace hy11 := cF c13 hy11
        refine avc_skip ?_
        cases hy11
        exact out_mk (weak_cov ⟨rfl, rfl, rfl, rfl, rfl, trivial⟩ ⟨rfl, trivial⟩)
      ·
       refine avc_sq2 <| avc_sq ?_
       refine sqa (a_move_d (lq rfl) rfl) ?_
       refine sqa (a_move_d (lq rfl) rfl) ?_
       refine sqa (a_lss (lq rfl) rfl rfl) ?_
       obtain ⟨b209, hb209, h'⟩ := bE h; clear h
       refine sqa ((a_move_d (lq rfl) rfl).bool (Option.some.inj hb209)) ?_
       refine sq_g (x := .d (di (wi ((wi ((wi ((wu (wi (a1 + a3))) / 2 ^ 1)) + a2)) - y8)))) rfl rfl rfl (lq rfl) (lq rfl) rfl (fun hb => by obtain rfl : b209 = true := hb; exact a_move_d (lq rfl) rfl) ?_
       refine sq_g (x := .d (di a3)) rfl rfl rfl (lq rfl) (lq rfl) rfl (fun hb => by obtain rfl : b209 = true := hb; exact a_move_d (lq rfl) rfl) ?_
       refine sq_g (x := .d (db (decide ((wi ((wi ((wi ((wu (wi (a1 + a3))) / 2 ^ 1)) + a2)) - y8)) < a3)))) rfl rfl rfl (lq rfl) (lq rfl) rfl (fun hb => by obtain rfl : b209 = true := hb; exact a_lss (lq rfl) rfl rfl) ?_
       refine sqa (a_pick_and (lq rfl) rfl rfl) ?_
       refine sq_nil ?_
       refine avc_if rfl ⟨fun c14 => ?_, fun c14 => ?_⟩
       ·
        replace h' := cT c14 h'
        refine avc_sq ?_
        refine sqa (a_move_row (lq rfl) rfl) ?_
        refine sqa (a_move_d (lq rfl) rfl) ?_
        refine sqa (a_move_d (lq rfl) rfl) ?_
        refine sqa (a_move_d (lq rfl) rfl) ?_
        refine sqa (a_move_d (lq rfl) rfl) ?_
        obtain ⟨t219, ht219, h⟩ := bE h'; clear h'
        refine sq_b rfl (g_callN [(3000, 3000)] (ih hf4 ht219) (lq rfl) (by decide) ⟨rfl, rfl, rfl, rfl, rfl, trivial⟩ rfl rfl ⟨rfl, trivial⟩ rfl rfl rfl rfl) ?_
        refine sq_nil ?_
        cases h
        exact ⟨rfl, ⟨rfl, trivial⟩⟩
       ·
        replace h' := cF c14 h'
        refine avc_skip ?_
        cases h'
        exact ⟨rfl, ⟨rfl, trivial⟩⟩
theorem slices_stableCmpFunc_int_g {fv2 : DV} {a0 : (List Int)} {a1 : Int} {a2 : Int → Int → Option (Int)} (hf2 : ∀ x0 x1 y, a2 x0 x1 = some y → FnC Tryd.prog fv2 [(di x0), (di x1)] [(di y)]) {r : (List Int)} (h : slices_stableCmpFunc_int a0 a1 a2 = some r) : GC Tryd.prog 78 [.row 3000, .d (di a1), .d fv2] [(3000, .win 3 eI.size 0 (eI.all a0))] [3000] [] [(3000, .win 3 eI.size 0 (eI.all r))] := by
 refine gc_of Tryd.func78 (by kernel_rfl) rfl (lq rfl) (lq rfl) fun w0 I0 hG0 p0 => ?_
 unfold slices_stableCmpFunc_int at h
 refine avc_sq2 <| avc_sq ?_
 refine sqa (a_assign_d (lq rfl) rfl) ?_
 refine sq_nil <| avc_sq2 <| avc_sq ?_
 refine sqa (a_move_d (lq rfl) rfl) ?_
 refine sqa (a_assign_d (lq rfl) rfl) ?_
 refine sqa (a_assign_d (lq rfl) rfl) ?_
 refine sq_nil <| avc_sq2 <| avc_block ?_
 obtain ⟨y1, hy1, h'⟩ := bE h; clear h
 refine avc_tail (e := (.exit 0)) (S2 := ⟨[(0, .row 3000), (1, .d (di a1)), (2, .d fv2), (6, .d (di 20)), (7, .d (di y1.1))], [(3000, .win 3 eI.size 0 (eI.all y1.2))]⟩) ?_ ?_
 ·
  refine avc_loopM (fun x => ⟨[(0, .row 3000), (1, .d (di a1)), (2, .d fv2), (6, .d (di 20)), (7, .d (di x.1)), (8, .d (di x.2.1))], [(3000, .win 3 eI.size 0 (eI.all x.2.2))]⟩) hy1 (weak_cov ⟨rfl, rfl, rfl, rfl, rfl, rfl, trivial⟩ ⟨rfl, trivial⟩) ?_
  rintro ⟨v7, v8, r3000⟩ sy1 hsy1
  replace hsy1 : slices_stableCmpFunc_int_L0 a1 a2 v7 v8 r3000 = some sy1 := hsy1
  unfold slices_stableCmpFunc_int_L0 at hsy1
  refine avc_sq2 <| avc_sq2 <| avc_sq ?_
  refine sqa (a_move_d (lq rfl) rfl) ?_
  refine sqa (a_move_d (lq rfl) rfl) ?_
  refine sqa (a_leq (lq rfl) rfl rfl) ?_
  refine sq_nil ?_
  refine avc_if rfl ⟨fun c1 => ?_, fun c1 => ?_⟩
  ·
   replace hsy1 := cT c1 hsy1
   refine avc_skip <| avc_block <| avc_sq2 <| avc_sq ?_
   refine sqa (a_move_row (lq rfl) rfl) ?_
   refine sqa (a_move_d (lq rfl) rfl) ?_
   refine sqa (a_move_d (lq rfl) rfl) ?_
   refine sqa (a_move_d (lq rfl) rfl) ?_
   obtain ⟨t18, ht18, hsy1'⟩ := bE hsy1; clear hsy1
   refine sq_b rfl (g_callN [(3000, 3000)] (slices_insertionSortCmpFunc_int_g hf2 ht18) (lq rfl) (by decide) ⟨rfl, rfl, rfl, rfl, trivial⟩ rfl rfl ⟨rfl, trivial⟩ rfl rfl rfl rfl) ?_
   refine sq_nil <| avc_sq2 <| avc_sq ?_
   refine sqa (a_move_d (lq rfl) rfl) ?_
   refine sqa (a_assign_d (lq rfl) rfl) ?_
   refine sq_nil <| avc_sq ?_
   refine sqa (a_move_d (lq rfl) rfl) ?_
   refine sqa (a_move_d (lq rfl) rfl) ?_
   refine sqa (m_add (lq rfl) rfl rfl) ?_
   refine sqa (a_assign_d (lq rfl) rfl) ?_
   refine sq_nil ?_
   cases hsy1'
   exact weak_cov ⟨rfl, rfl, rfl, rfl, rfl, rfl, trivial⟩ ⟨rfl, trivial⟩
  ·
   replace hsy1 := cF c1 hsy1
   refine avc_exit ?_
   cases hsy1
   intro q; cases q
   exact out_mk (weak_cov ⟨rfl, rfl, rfl, rfl, rfl, trivial⟩ ⟨rfl, trivial⟩)
 ·
  refine avc_sq2 <| avc_sq ?_
  refine sqa (a_move_row (lq rfl) rfl) ?_
  refine sqa (a_move_d (lq rfl) rfl) ?_
  refine sqa (a_move_d (lq rfl) rfl) ?_
  refine sqa (a_move_d (lq rfl) rfl) ?_
  obtain ⟨t27, ht27, h⟩ := bE h'; clear h'
  refine sq_b rfl (g_callN [(3000, 3000)] (slices_insertionSortCmpFunc_int_g hf2 ht27) (lq rfl) (by decide) ⟨rfl, rfl, rfl, rfl, trivial⟩ rfl rfl ⟨rfl, trivial⟩ rfl rfl rfl rfl) ?_
  refine sq_nil <| avc_block ?_
  obtain ⟨y2, hy2, h'⟩ := bE h; clear h
  refine avc_tail (e := (.exit 2)) (S2 := ⟨[(0, .row 3000)], [(3000, .win 3 eI.size 0 (eI.all y2))]⟩) ?_ ?_
  ·
   refine avc_loopM (fun x => ⟨[(0, .row 3000), (1, .d (di a1)), (2, .d fv2), (6, .d (di x.1))], [(3000, .win 3 eI.size 0 (eI.all x.2))]⟩) hy2 (weak_cov ⟨rfl, rfl, rfl, rfl, trivial⟩ ⟨rfl, trivial⟩) ?_
   rintro ⟨v6, r3000⟩ sy2 hsy2
   replace hsy2 : slices_stableCmpFunc_int_L1 a1 a2 v6 r3000 = some sy2 := hsy2
   unfold slices_stableCmpFunc_int_L1 at hsy2
   refine avc_sq2 <| avc_sq2 <| avc_sq ?_
   refine sqa (a_move_d (lq rfl) rfl) ?_
   refine sqa (a_move_d (lq rfl) rfl) ?_
   refine sqa (a_lss (lq rfl) rfl rfl) ?_
   refine sq_nil ?_
   refine avc_if rfl ⟨fun c2 => ?_, fun c2 => ?_⟩
   ·
    replace hsy2 := cT c2 hsy2
    refine avc_skip <| avc_block <| avc_sq2 <| avc_sq ?_
    refine sqa (a_move_d (lq rfl) rfl) ?_
    refine sqa (m_mul (lq rfl) rfl rfl) ?_
    refine sqa (a_assign_d (lq rfl) rfl) ?_
    refine sqa (a_assign_d (lq rfl) rfl) ?_
    refine sq_nil <| avc_sq2 <| avc_block ?_
    obtain ⟨y3, hy3, hsy2'⟩ := bE hsy2; clear hsy2
    refine avc_tail (e := (.exit 4)) (S2 := ⟨[(0, .row 3000), (1, .d (di a1)), (2, .d fv2), (6, .d (di v6)), (7, .d (di y3.1))], [(3000, .win 3 eI.size 0 (eI.all y3.2))]⟩) ?_ ?_
    ·
     refine avc_loopM (fun x => ⟨[(0, .row 3000), (1, .d (di a1)), (2, .d fv2), (6, .d (di v6)), (7, .d (di x.1)), (8, .d (di x.2.1))], [(3000, .win 3 eI.size 0 (eI.all x.2.2))]⟩) hy3 (weak_cov ⟨rfl, rfl, rfl, rfl, rfl, rfl, trivial⟩ ⟨rfl, trivial⟩) ?_
     rintro ⟨v7, v8, r3000⟩ sy3 hsy3
     replace hsy3 : slices_stableCmpFunc_int_L2 a1 v6 a2 v7 v8 r3000 = some sy3 := hsy3
     unfold slices_stableCmpFunc_int_L2 at hsy3
     refine avc_sq2 <| avc_sq2 <| avc_sq ?_
     refine sqa (a_move_d (lq rfl) rfl) ?_
     refine sqa (a_move_d (lq rfl) rfl) ?_
     refine sqa (a_leq (lq rfl) rfl rfl) ?_
     refine sq_nil ?_
     refine avc_if rfl ⟨fun c3 => ?_, fun c3 => ?_⟩
     ·
      replace hsy3 := cT c3 hsy3
      refine avc_skip <| avc_block <| avc_sq2 <| avc_sq ?_
      refine sqa (a_move_row (lq rfl) rfl) ?_
      refine sqa (a_move_d (lq rfl) rfl) ?_
      refine sqa (a_move_d (lq rfl) rfl) ?_
      refine sqa (a_move_d (lq rfl) rfl) ?_
      refine sqa (m_add (lq rfl) rfl rfl) ?_
      refine sqa (a_move_d (lq rfl) rfl) ?_
      refine sqa (a_move_d (lq rfl) rfl) ?_
      obtain ⟨t43, ht43, hsy3'⟩ := bE hsy3; clear hsy3
      refine sq_b rfl (g_callN [(3000, 3000)] (slices_symMergeCmpFunc_int_g _ hf2 ht43) (lq rfl) (by decide) ⟨rfl, rfl, rfl, rfl, rfl, trivial⟩ rfl rfl ⟨rfl, trivial⟩ rfl rfl rfl rfl) ?_
      refine sq_nil <| avc_sq2 <| avc_sq ?_
      refine sqa (a_move_d (lq rfl) rfl) ?_
      refine sqa (a_assign_d (lq rfl) rfl) ?_
      refine sq_nil <| avc_sq ?_
      refine sqa (a_move_d (lq rfl) rfl) ?_
      refine sqa (a_move_d (lq rfl) rfl) ?_
      refine sqa (m_mul (lq rfl) rfl rfl) ?_
      refine sqa (m_add (lq rfl) rfl rfl) ?_
      refine sqa (a_assign_d (lq rfl) rfl) ?_
      refine sq_nil ?_
      cases hsy3'
      exact weak_cov ⟨rfl, rfl, rfl, rfl, rfl, rfl, trivial⟩ ⟨rfl, trivial⟩
     ·
      replace hsy3 := cF c3 hsy3
      refine avc_exit ?_
      cases hsy3
      intro q; cases q
      exact out_mk (weak_cov ⟨rfl, rfl, rfl, rfl, rfl, trivial⟩ ⟨rfl, trivial⟩)
    ·
     refine avc_sq2 <| avc_sq2 <| avc_sq ?_
     refine sqa (a_move_d (lq rfl) rfl) ?_
     refine sqa (a_move_d (lq rfl) rfl) ?_
     refine sqa (m_add (lq rfl) rfl rfl) ?_
     refine sqa (a_assign_d (lq rfl) rfl) ?_
     refine sq_nil <| avc_sq2 <| avc_sq ?_
     refine sqa (a_move_d (lq rfl) rfl) ?_
     refine sqa (a_move_d (lq rfl) rfl) ?_
     refine sqa (a_lss (lq rfl) rfl rfl) ?_
     refine sq_nil ?_
     obtain ⟨y4, hy4, hsy2⟩ := bE hsy2'; clear hsy2'
     refine avc_tail (e := .normal) (S2 := ⟨[(0, .row 3000), (1, .d (di a1)), (2, .d fv2), (6, .d (di v6))], [(3000, .win 3 eI.size 0 (eI.all y4))]⟩) ?_ ?_
     ·
      refine avc_if rfl ⟨fun c4 => ?_, fun c4 => ?_⟩
      ·
       replace hy4 := cT c4 hy4
       refine avc_sq ?_
       refine sqa (a_move_row (lq rfl) rfl) ?_
       refine sqa (a_move_d (lq rfl) rfl) ?_
       refine sqa (a_move_d (lq rfl) rfl) ?_
       refine sqa (a_move_d (lq rfl) rfl) ?_
       refine sqa (a_move_d (lq rfl) rfl) ?_
       obtain ⟨t60, ht60, hy4'⟩ := bE hy4; clear hy4
       refine sq_b rfl (g_callN [(3000, 3000)] (slices_symMergeCmpFunc_int_g _ hf2 ht60) (lq rfl) (by decide) ⟨rfl, rfl, rfl, rfl, rfl, trivial⟩ rfl rfl ⟨rfl, trivial⟩ rfl rfl rfl rfl) ?_
       refine sq_nil ?_
       cases hy4'
       exact out_mk (weak_cov ⟨rfl, rfl, rfl, rfl, trivial⟩ ⟨rfl, trivial⟩)
      ·
       replace hy4 := cF c4 hy4
       refine avc_skip ?_
       cases hy4
       exact out_mk (weak_cov ⟨rfl, rfl, rfl, rfl, trivial⟩ ⟨rfl, trivial⟩)
     ·
      refine avc_sq ?_
      refine sqa (a_move_d (lq rfl) rfl) ?_
      refine sqa (m_mul (lq rfl) rfl rfl) ?_
      refine sqa (a_assign_d (lq rfl) rfl) ?_
      refine sq_nil ?_
      cases hsy2
      exact weak_cov ⟨rfl, rfl, rfl, rfl, trivial⟩ ⟨rfl, trivial⟩
   ·
    replace hsy2 := cF c2 hsy2
    refine avc_exit ?_
    cases hsy2
    intro q; cases q
    exact out_mk (weak_cov ⟨rfl, trivial⟩ ⟨rfl, trivial⟩)
  ·
   cases h'
   exact ⟨rfl, ⟨rfl, trivial⟩⟩
theorem slices_SortStableFunc_int_int_g {fv1 : DV} {a0 : (List Int)} {a1 : Int → Int → Option (Int)} (hf1 : ∀ x0 x1 y, a1 x0 x1 = some y → FnC Tryd.prog fv1 [(di x0), (di x1)] [(di y)]) {r : (List Int)} (h : slices_SortStableFunc_int_int a0 a1 = some r) : GC Tryd.prog 61 [.row 3000, .d fv1] [(3000, .win 3 eI.size 0 (eI.all a0))] [3000] [] [(3000, .win 3 eI.size 0 (eI.all r))] := by
 refine gc_of Tryd.func61 (by kernel_rfl) rfl (lq rfl) (lq rfl) fun w0 I0 hG0 p0 => ?_
 unfold slices_SortStableFunc_int_int at h
 refine avc_sq ?_
 refine sqa (a_move_row (lq rfl) rfl) ?_
 refine sqa (a_move_row (lq rfl) rfl) ?_
 refine sqa (m_lenW (en := eI) (l := a0) (lq rfl) S30 rfl rfl) ?_
 refine sqa (a_move_d (lq rfl) rfl) ?_
 obtain ⟨t8, ht8, h'⟩ := bE h; clear h
 refine sq_b rfl (g_callN [(3000, 3000)] (slices_stableCmpFunc_int_g hf1 ht8) (lq rfl) (by decide) ⟨rfl, rfl, rfl, trivial⟩ rfl rfl ⟨rfl, trivial⟩ rfl rfl rfl rfl) ?_
 refine sq_nil ?_
 cases h'
 exact ⟨rfl, ⟨rfl, trivial⟩⟩
theorem ordering_Sort_g {a0 : List Span} {a1 r : List Int} (h : ordering_Sort a0 a1 = some r) : GC Tryd.prog 44 [.d (dsl eSpan a0), .d (dsl eI a1)] [] [] [.row 100] [(100, .row 3 eI.size false (eI.all r))] := by
 unfold ordering_Sort at h
 obtain ⟨t8, ht8, h'⟩ := bE h; clear h
 obtain ⟨t10, ht10, h⟩ := bE h'; clear h'
 obtain ⟨t13, ht13, h'⟩ := bE h; clear h
 refine gc_of Tryd.func44 (by kernel_rfl) rfl (lq rfl) (lq rfl) fun w0 I0 hG0 p0 => ?_
 refine avc_sq2 <| avc_sq ?_
 refine sq_b rfl (s_box_d (lq rfl) rfl rfl rfl) ?_
 refine sqa (a_assign_d (lq rfl) rfl) ?_
 refine sq_nil <| avc_sq2 <| avc_sq ?_
 refine sqa (a_load_box (lq rfl) O37 rfl rfl rfl) ?_
 refine sqa (a_call (lq rfl) rfl (ordering_usable_c ht8)) ?_
 refine sq_b rfl (s_store_box_d O37 rfl rfl (lq rfl) rfl rfl rfl) ?_
 refine sq_nil ?_
 refine avc_weak (weak_freeze (t := 2) (lq rfl) rfl rfl rfl) ?_
 refine avc_sq2 <| avc_sq ?_
 refine sqa (a_move_d (lq rfl) rfl) ?_
 refine sq_b rfl (g_call [(5, 100)] (slices_Clone_int_int_g ht10) (lq rfl) (by decide) ⟨rfl, trivial⟩ rfl rfl trivial rfl rfl rfl (fun _ => rfl) rfl) ?_
 refine sq_b rfl (step_alloc (zs := [(.slice none 0 0)]) (lq rfl) (by kernel_rfl) rfl rfl) ?_
 refine sq_b rfl (s_store_box_row O30 rfl rfl (lq rfl) rfl rfl rfl) ?_
 refine sq_nil <| avc_sq2 <| avc_sq2 <| avc_sq ?_
 refine sqa (m_loadPt1 (lq rfl) O37 rfl) ?_
 refine sqa (a_move_d (lq rfl) rfl) ?_
 refine sqa (a_call (lq rfl) rfl ordering_runs_c) ?_
 refine sq_nil <| avc_block ?_
 refine avc_range [(5, .ptr 5 0), (2, .d (.pt [dsl eSpan t8])), (4, .d (.v (.slice none 0 0)))] [5] (fun k => [(5, .box 30 [.row 100]), (100, .row 3 eI.size false (eI.all (outK (fun p => slices_SortStableFunc_int_int p (fun x0 x1 => ordering_Sort_1 x0 x1 t8)) Range.Lo Range.Hi t10 (runsOf (fun c => ordering_class t8 c == some 0) a1 0 (-1)) k)))]) rfl (ordering_runs_1_i ht13) rfl (fun _ _ _ _ h => h) ?hk ?hT rfl (fun _ => rfl) ?hbx (fun _ _ => rfl) ?hl ?hpn ?rd ?hK
 case hk => exact ⟨rfl, rfl, rfl, trivial⟩
 case hT => exact ⟨rfl, rfl, trivial⟩
 case hbx => intro k id hi; simp at hi; subst hi; exact fun (h : Blk.box _ _ = Blk.none) => by cases h
 case hl => intro x hx; obtain ⟨y, _, rfl⟩ := List.mem_map.1 hx; rfl
 case hpn => intro p hp; simp at hp; subst hp; exact (lq rfl)
 case rd =>
  intro w1 Iall X C0 ρ0 defs l1 D lp1 lp2 hok k x hx
  rw [List.getElem?_map] at hx
  obtain ⟨v, hv, rfl⟩ := Option.map_eq_some_iff.1 hx
  have hst := outK_step h' hv
  obtain ⟨q0, q1, q2⟩ := partM_ok hst
  refine avc_sq ?_
  refine sq_b rfl (step_alloc (zs := [(.int IntKind.i64 (0)), (.int IntKind.i64 (0))]) (lq rfl) (by kernel_rfl) rfl rfl) ?_
  refine sq_b rfl (s_store_boxA G104 rfl rfl rfl rfl rfl rfl) ?_
  refine sq_nil <| avc_block <| avc_sq ?_
  refine sqa (a_load_box (lq rfl) O30 rfl rfl rfl) ?_
  refine sqa (a_fieldAddr_ptr (lq rfl) L104_0 rfl) ?_
  refine sqa (a_load_box (lq rfl) O3 rfl rfl rfl) ?_
  refine sqa (a_fieldAddr_ptr (lq rfl) L104_1 rfl) ?_
  refine sqa (a_load_box (lq rfl) O3 rfl rfl rfl) ?_
  refine sqa (m_slicePart (en := eI) (lq rfl) S30 rfl rfl rfl rfl q0 q1 q2) ?_
  refine sqa (a_makeFunc (lq rfl) rfl) ?_
  refine sq_b rfl (m_part (en := eI) (lq rfl) rfl rfl rfl hst eI_v (fun m m' hm => slices_SortStableFunc_int_int_g (fun _ _ _ q => .inl ⟨_, _, rfl, ordering_Sort_1_c q⟩) hm) rfl) ?_
  refine sq_nil ?_
  exact ⟨rfl, rfl, trivial⟩
 case hK =>
  rw [List.length_map, outK_len h']
  refine avc_sq2 <| avc_sq ?_
  refine sqa (a_load_box (lq rfl) O30 rfl rfl rfl) ?_
  refine sqa (a_assign_row (lq rfl) rfl) ?_
  refine sq_nil ?_
  refine avc_ret ?_
  exact ⟨⟨_, _, rfl, rfl, rfl⟩, rfl, trivial⟩
theorem decompose_Text_c  {a0 : Norm} {a1 : (List Int)} {a2 : Bool}  {r : (List Int)} (h : decompose_Text a0 a1 a2 = some r) : Contract Tryd.prog 20 [(eNorm.dv a0), (dsl eI a1), (db a2)] [(dsl eI r)] := by
 refine contract_of Tryd.func20 (by kernel_rfl) rfl (lq rfl) (lq rfl) fun w0 I0 hI0 hG0 => ?_
 unfold decompose_Text at h
 refine avc_sq2 <| avc_sq ?_
 refine sq_b rfl (s_box_agg (lq rfl) rfl rfl) ?_
 refine sqa (a_assign_d (lq rfl) rfl) ?_
 refine sq_nil <| avc_sq2 <| avc_sq ?_
 refine sqa ((a_load_boxA (lq rfl) G43 rfl rfl rfl rfl).data rfl) ?_
 obtain ⟨t12, ht12, h'⟩ := bE h; clear h
 refine sqa (a_call (lq rfl) rfl (decompose_usable_c ht12)) ?_
 refine sq_b rfl (s_store_boxA G43 rfl rfl rfl rfl rfl rfl) ?_
 refine sq_nil <| avc_sq2 <| avc_sq ?_
 refine sqa ((a_load_boxA (lq rfl) G43 rfl rfl rfl rfl).data rfl) ?_
 refine sqa (a_move_d (lq rfl) rfl) ?_
 obtain ⟨t15, ht15, h⟩ := bE h'; clear h'
 refine sq_b rfl (g_callA [(5, 2515), (6, 3015), (7, 3515)] (decompose_expander_a ht15) (lq rfl) (by decide) ⟨rfl, rfl, trivial⟩ rfl rfl trivial rfl rfl rfl (fun _ => rfl) rfl) ?_
 refine sqa (a_assign_to (lq rfl) rfl) ?_
 refine sq_nil <| avc_sq2 <| avc_sq ?_
 refine sqa (a_assign_d (lq rfl) rfl) ?_
 refine sq_nil ?_
 refine avc_weak (weak_nil (t := 8) 1008 3 eI.size (lq rfl) (lq rfl) rfl rfl) ?_
 refine avc_sq2 <| avc_sq2 <| avc_sq ?_
 refine sqa (a_move_d (lq rfl) rfl) ?_
 refine sqa (m_len (en := eI) (l := a1) (lq rfl) S30 rfl) ?_
 refine sqa (a_move_d (lq rfl) rfl) ?_
 refine sq_nil <| avc_block ?_
 obtain ⟨y1, hy1, h'⟩ := bE h; clear h
 refine avc_tail (e := (.exit 0)) (S2 := ⟨[(3, .ptr 3 0), (8, .row 1008)], [(3, .box 43 [.d (dsl eSpan t12.Classes), .d (dsl eMapping t12.Decomp), .d (dsl eRange t12.Excluded.Ranges)]), (1008, .row 3 eI.size false (eI.all y1))]⟩) ?_ ?_
 ·
  refine avc_loopM (fun x => ⟨[(3, .ptr 3 0), (7, .clo 57 [.ptr 2515 0, .d (.pt (eNorm.cells ({ Classes := t12.Classes, Decomp := t12.Decomp, Excluded := ({ Ranges := t12.Excluded.Ranges } : Set) } : Norm))), .d (.pt [(db a2)]), .ptr 3015 0]), (8, .row 1008), (16, .d (dsl eI a1)), (17, .d (di (a1.length : Int))), (18, .d (di x.1))], [(3, .box 43 [.d (dsl eSpan t12.Classes), .d (dsl eMapping t12.Decomp), .d (dsl eRange t12.Excluded.Ranges)]), (1008, .row 3 eI.size false (eI.all x.2.1)), (2515, .box 96 [.row 3515]), (3015, .box 76 [.clo 57 [.ptr 2515 0, .d (.pt (eNorm.cells ({ Classes := t12.Classes, Decomp := t12.Decomp, Excluded := ({ Ranges := t12.Excluded.Ranges } : Set) } : Norm))), .d (.pt [(db a2)]), .ptr 3015 0]]), (3515, .map (mapE kI (eL eI) x.2.2))]⟩) hy1 (weak_cov ⟨rfl, rfl, rfl, rfl, rfl, rfl, trivial⟩ ⟨rfl, rfl, rfl, rfl, rfl, trivial⟩) ?_
  rintro ⟨v18, r1008, r3515⟩ sy1 hsy1
  replace hsy1 : decompose_Text_L0 a1 t12 a2 v18 r1008 r3515 = some sy1 := hsy1
  unfold decompose_Text_L0 at hsy1
  refine avc_sq2 <| avc_sq ?_
  refine sqa (a_lss (lq rfl) rfl rfl) ?_
  refine sq_nil <| avc_sq2 ?_
  refine avc_if rfl ⟨fun c1 => ?_, fun c1 => ?_⟩
  ·
   replace hsy1 := cT c1 hsy1
   refine avc_skip <| avc_sq2 <| avc_block <| avc_sq2 <| avc_sq ?_
   obtain ⟨t20, ht20, hsy1'⟩ := bE hsy1; clear hsy1
   refine sqa (m_index (en := eI) (lq rfl) S30 rfl rfl ht20) ?_
   refine sqa (m_loadE (en := eI) (l := a1) (i := v18) (v := t20) (off := 0) (lq rfl) O3 rfl ht20 rfl) ?_
   refine sqa (a_assign_d (lq rfl) rfl) ?_
   refine sq_nil <| avc_sq ?_
   refine sqa (a_move_row (lq rfl) rfl) ?_
   refine sqa (a_move_to (lq rfl) rfl) ?_
   refine sqa (a_move_d (lq rfl) rfl) ?_
   obtain ⟨t25, ht25, hsy1⟩ := bE hsy1'; clear hsy1'
   refine sq_b rfl (g_callC [(3001, 2515), (3004, 3015), (3120, 3515)] (decompose_expander_1_g _ ht25) (lq rfl) (by decide) rfl ⟨rfl, rfl, rfl, rfl, rfl, trivial⟩ rfl rfl ⟨rfl, rfl, rfl, trivial⟩ rfl rfl rfl (fun _ => rfl) rfl) ?_
   obtain ⟨r1008_2, hr1008_2, hsy1'⟩ := bE hsy1; clear hsy1
   refine sq_b rfl (m_append (en := eI) (l := r1008) (m := t25.1) (lq rfl) S30 rfl rfl rfl hr1008_2 (by decide) (by decide) rfl rfl) ?_
   refine sqa (a_assign_row (lq rfl) rfl) ?_
   refine sq_nil <| avc_sq ?_
   refine sqa (m_add (lq rfl) rfl rfl) ?_
   refine sqa (a_move_d (lq rfl) rfl) ?_
   refine sq_nil ?_
   cases hsy1'
   exact weak_cov ⟨rfl, rfl, rfl, rfl, rfl, rfl, trivial⟩ ⟨rfl, rfl, rfl, rfl, rfl, trivial⟩
  ·
   replace hsy1 := cF c1 hsy1
   refine avc_exit ?_
   cases hsy1
   intro q; cases q
   exact out_mk (weak_cov ⟨rfl, rfl, trivial⟩ ⟨rfl, rfl, trivial⟩)
 ·
  refine avc_sq2 <| avc_sq ?_
  refine sqa (a_fieldAddr_ptr (lq rfl) L43_0 rfl) ?_
  refine sqa (a_load_box (lq rfl) O37 rfl rfl rfl) ?_
  refine sqa (a_move_row (lq rfl) rfl) ?_
  refine sq_weak (weak_row_d (t := 30) (lq rfl) rfl rfl) ?_ (by simp)
  obtain ⟨t31, ht31, h⟩ := bE h'; clear h'
  refine sq_b rfl (g_call [(100, 2531)] (ordering_Sort_g ht31) (lq rfl) (by decide) ⟨rfl, rfl, trivial⟩ rfl rfl trivial rfl rfl rfl (fun _ => rfl) rfl) ?_
  refine sqa (a_assign_row (lq rfl) rfl) ?_
  refine sq_nil ?_
  cases h
  refine avc_ret ?_
  exact ret_1 rfl
theorem decompose_Text_g  {a0 : Norm} {a1 : (List Int)} {a2 : Bool}  {r : (List Int)} (h : decompose_Text a0 a1 a2 = some r) : GC Tryd.prog 20 [.d (eNorm.dv a0), .d (dsl eI a1), .d (db a2)] [] [] [.row 2531] [(2531, .row 3 eI.size false (eI.all r))] := by
 refine gc_of Tryd.func20 (by kernel_rfl) rfl (lq rfl) (lq rfl) fun w0 I0 hG0 p0 => ?_
 unfold decompose_Text at h
 refine avc_sq2 <| avc_sq ?_
 refine sq_b rfl (s_box_agg (lq rfl) rfl rfl) ?_
 refine sqa (a_assign_d (lq rfl) rfl) ?_
 refine sq_nil <| avc_sq2 <| avc_sq ?_
 refine sqa ((a_load_boxA (lq rfl) G43 rfl rfl rfl rfl).data rfl) ?_
 obtain ⟨t12, ht12, h'⟩ := bE h; clear h
 refine sqa (a_call (lq rfl) rfl (decompose_usable_c ht12)) ?_
 refine sq_b rfl (s_store_boxA G43 rfl rfl rfl rfl rfl rfl) ?_
 refine sq_nil <| avc_sq2 <| avc_sq ?_
 refine sqa ((a_load_boxA (lq rfl) G43 rfl rfl rfl rfl).data rfl) ?_
 refine sqa (a_move_d (lq rfl) rfl) ?_
 obtain ⟨t15, ht15, h⟩ := bE h'; clear h'
 refine sq_b rfl (g_callA [(5, 2515), (6, 3015), (7, 3515)] (decompose_expander_a ht15) (lq rfl) (by decide) ⟨rfl, rfl, trivial⟩ rfl rfl trivial rfl rfl rfl (fun _ => rfl) rfl) ?_
 refine sqa (a_assign_to (lq rfl) rfl) ?_
 refine sq_nil <| avc_sq2 <| avc_sq ?_
 refine sqa (a_assign_d (lq rfl) rfl) ?_
 refine sq_nil ?_
 refine avc_weak (weak_nil (t := 8) 1008 3 eI.size (lq rfl) (lq rfl) rfl rfl) ?_
 refine avc_sq2 <| avc_sq2 <| avc_sq ?_
 refine sqa (a_move_d (lq rfl) rfl) ?_
 refine sqa (m_len (en := eI) (l := a1) (lq rfl) S30 rfl) ?_
 refine sqa (a_move_d (lq rfl) rfl) ?_
 refine sq_nil <| avc_block ?_
 obtain ⟨y1, hy1, h'⟩ := bE h; clear h
 refine avc_tail (e := (.exit 0)) (S2 := ⟨[(3, .ptr 3 0), (8, .row 1008)], [(3, .box 43 [.d (dsl eSpan t12.Classes), .d (dsl eMapping t12.Decomp), .d (dsl eRange t12.Excluded.Ranges)]), (1008, .row 3 eI.size false (eI.all y1))]⟩) ?_ ?_
 ·
  refine avc_loopM (fun x => ⟨[(3, .ptr 3 0), (7, .clo 57 [.ptr 2515 0, .d (.pt (eNorm.cells ({ Classes := t12.Classes, Decomp := t12.Decomp, Excluded := ({ Ranges := t12.Excluded.Ranges } : Set) } : Norm))), .d (.pt [(db a2)]), .ptr 3015 0]), (8, .row 1008), (16, .d (dsl eI a1)), (17, .d (di (a1.length : Int))), (18, .d (di x.1))], [(3, .box 43 [.d (dsl eSpan t12.Classes), .d (dsl eMapping t12.Decomp), .d (dsl eRange t12.Excluded.Ranges)]), (1008, .row 3 eI.size false (eI.all x.2.1)), (2515, .box 96 [.row 3515]), (3015, .box 76 [.clo 57 [.ptr 2515 0, .d (.pt (eNorm.cells ({ Classes := t12.Classes, Decomp := t12.Decomp, Excluded := ({ Ranges := t12.Excluded.Ranges } : Set) } : Norm))), .d (.pt [(db a2)]), .ptr 3015 0]]), (3515, .map (mapE kI (eL eI) x.2.2))]⟩) hy1 (weak_cov ⟨rfl, rfl, rfl, rfl, rfl, rfl, trivial⟩ ⟨rfl, rfl, rfl, rfl, rfl, trivial⟩) ?_
  rintro ⟨v18, r1008, r3515⟩ sy1 hsy1
  replace hsy1 : decompose_Text_L0 a1 t12 a2 v18 r1008 r3515 = some sy1 := hsy1
  unfold decompose_Text_L0 at hsy1
  refine avc_sq2 <| avc_sq ?_
  refine sqa (a_lss (lq rfl) rfl rfl) ?_
  refine sq_nil <| avc_sq2 ?_
  refine avc_if rfl ⟨fun c1 => ?_, fun c1 => ?_⟩
  ·
   replace hsy1 := cT c1 hsy1
   refine avc_skip <| avc_sq2 <| avc_block <| avc_sq2 <| avc_sq ?_
   obtain ⟨t20, ht20, hsy1'⟩ := bE hsy1; clear hsy1
   refine sqa (m_index (en := eI) (lq rfl) S30 rfl rfl ht20) ?_
   refine sqa (m_loadE (en := eI) (l := a1) (i := v18) (v := t20) (off := 0) (lq rfl) O3 rfl ht20 rfl) ?_
   refine sqa (a_assign_d (lq rfl) rfl) ?_
   refine sq_nil <| avc_sq ?_
   refine sqa (a_move_row (lq rfl) rfl) ?_
   refine sqa (a_move_to (lq rfl) rfl) ?_
   refine sqa (a_move_d (lq rfl) rfl) ?_
   obtain ⟨t25, ht25, hsy1⟩ := bE hsy1'; clear hsy1'
   refine sq_b rfl (g_callC [(3001, 2515), (3004, 3015), (3120, 3515)] (decompose_expander_1_g _ ht25) (lq rfl) (by decide) rfl ⟨rfl, rfl, rfl, rfl, rfl, trivial⟩ rfl rfl ⟨rfl, rfl, rfl, trivial⟩ rfl rfl rfl (fun _ => rfl) rfl) ?_
   obtain ⟨r1008_2, hr1008_2, hsy1'⟩ := bE hsy1; clear hsy1
   refine sq_b rfl (m_append (en := eI) (l := r1008) (m := t25.1) (lq rfl) S30 rfl rfl rfl hr1008_2 (by decide) (by decide) rfl rfl) ?_
   refine sqa (a_assign_row (lq rfl) rfl) ?_
   refine sq_nil <| avc_sq ?_
   refine sqa (m_add (lq rfl) rfl rfl) ?_
   refine sqa (a_move_d (lq rfl) rfl) ?_
   refine sq_nil ?_
   cases hsy1'
   exact weak_cov ⟨rfl, rfl, rfl, rfl, rfl, rfl, trivial⟩ ⟨rfl, rfl, rfl, rfl, rfl, trivial⟩
  ·
   replace hsy1 := cF c1 hsy1
   refine avc_exit ?_
   cases hsy1
   intro q; cases q
   exact out_mk (weak_cov ⟨rfl, rfl, trivial⟩ ⟨rfl, rfl, trivial⟩)
 ·
  refine avc_sq2 <| avc_sq ?_
  refine sqa (a_fieldAddr_ptr (lq rfl) L43_0 rfl) ?_
  refine sqa (a_load_box (lq rfl) O37 rfl rfl rfl) ?_
  refine sqa (a_move_row (lq rfl) rfl) ?_
  refine sq_weak (weak_row_d (t := 30) (lq rfl) rfl rfl) ?_ (by simp)
  obtain ⟨t31, ht31, h⟩ := bE h'; clear h'
  refine sq_b rfl (g_call [(100, 2531)] (ordering_Sort_g ht31) (lq rfl) (by decide) ⟨rfl, rfl, trivial⟩ rfl rfl trivial rfl rfl rfl (fun _ => rfl) rfl) ?_
  refine sqa (a_assign_row (lq rfl) rfl) ?_
  refine sq_nil ?_
  cases h
  refine avc_ret ?_
  exact ⟨⟨_, _, rfl, rfl, rfl⟩, ⟨rfl, trivial⟩⟩
set_option maxHeartbeats 8000000 in
theorem colltable_Elements_c  {a0 : Norm} {a1 : Collation} {a2 : (List Int)}  {r : (List Element)} (h : colltable_Elements a0 a1 a2 = some r) : Contract Tryd.prog 21 [(eNorm.dv a0), (eCollation.dv a1), (dsl eI a2)] [(dsl eElement r)] := by
 refine contract_of Tryd.func21 (by kernel_rfl) rfl (lq rfl) (lq rfl) fun w0 I0 hI0 hG0 => ?_
 unfold colltable_Elements at h
 refine avc_sq2 <| avc_sq ?_
 refine sqa (m_box (size := 3) (lq rfl) rfl rfl) ?_
 refine sqa (m_box (size := 5) (lq rfl) rfl rfl) ?_
 refine sqa (a_assign_d (lq rfl) rfl) ?_
 refine sq_nil <| avc_sq2 ?_
 obtain ⟨t14, ht14, h'⟩ := bE h; clear h
 obtain ⟨t16, ht16, h⟩ := bE h'; clear h'
 refine avc_tail (e := .normal) (S2 := ⟨[(2, .d (dsl eI a2)), (3, .d (.pt (eNorm.cells a0))), (7, .ptr 2514 0)], [(2514, .box 87 [.d (dsl eEntry t16.c.Entries), .d (dsl eGroup t16.c.Groups), .d (di t16.c.Base), .d (di t16.c.Second), .d (di t16.c.Third), .row 3014, .d (di t16.longest), .d (dsl eSpan t16.classes), .d (di t16.top)]), (3014, .map (mapE kA9Int (eL eElement) t16.entries))]⟩) ?_ ?_
 ·
  refine avc_any MX ?_
  refine any_n [0, 2] (by kernel_rfl) rfl ?_
  refine any_a (i := 0) rfl rfl (m_loadPt (lq rfl) G25 rfl rfl) ?_ ?_
  ·
   refine any_n [1, 2] (by kernel_rfl) rfl ?_
   refine any_b (i := 1) rfl rfl (g_call [(13, 2514), (11, 3014)] (colltable_made_g ht14) (lq rfl) (by decide) ⟨rfl, trivial⟩ rfl rfl trivial rfl rfl rfl (fun _ => rfl) rfl) ?_ ?_
   ·
    refine any_n [2] (by kernel_rfl) rfl ?_
    refine any_a (i := 2) rfl rfl (m_loadPt (lq rfl) G43 rfl rfl) ?_ ?_
    ·
     refine any_n [3] (by kernel_rfl) rfl ?_
     refine any_b (i := 3) rfl rfl (g_call [(3000, 2514), (3105, 3014)] (colltable_table_with_g ht16) (lq rfl) (by decide) ⟨rfl, rfl, trivial⟩ rfl rfl ⟨rfl, rfl, trivial⟩ rfl rfl rfl (fun _ => rfl) rfl) ?_ ?_
     ·
      refine any_n [4] (by kernel_rfl) rfl ?_
      refine any_a (i := 4) rfl rfl (a_assign_ptr (lq rfl) rfl) ?_ ?_
      ·
       exact any_end rfl (out_mk (weak_cov ⟨rfl, rfl, rfl, trivial⟩ ⟨rfl, rfl, trivial⟩))
      ·
       exact any_nil
     ·
      exact any_nil
    ·
     exact any_nil
   refine any_a (i := 2) rfl rfl (m_loadPt (lq rfl) G43 rfl rfl) ?_ ?_
   ·
    refine any_n [1] (by kernel_rfl) rfl ?_
    refine any_b (i := 1) rfl rfl (g_call [(13, 2514), (11, 3014)] (colltable_made_g ht14) (lq rfl) (by decide) ⟨rfl, trivial⟩ rfl rfl trivial rfl rfl rfl (fun _ => rfl) rfl) ?_ ?_
    ·
     refine any_n [3] (by kernel_rfl) rfl ?_
     refine any_b (i := 3) rfl rfl (g_call [(3000, 2514), (3105, 3014)] (colltable_table_with_g ht16) (lq rfl) (by decide) ⟨rfl, rfl, trivial⟩ rfl rfl ⟨rfl, rfl, trivial⟩ rfl rfl rfl (fun _ => rfl) rfl) ?_ ?_
     ·
      refine any_n [4] (by kernel_rfl) rfl ?_
      refine any_a (i := 4) rfl rfl (a_assign_ptr (lq rfl) rfl) ?_ ?_
      ·
       exact any_end rfl (out_mk (weak_cov ⟨rfl, rfl, rfl, trivial⟩ ⟨rfl, rfl, trivial⟩))
      ·
       exact any_nil
     ·
      exact any_nil
    ·
     exact any_nil
   exact any_nil
  refine any_a (i := 2) rfl rfl (m_loadPt (lq rfl) G43 rfl rfl) ?_ ?_
  ·
   refine any_n [0] (by kernel_rfl) rfl ?_
   refine any_a (i := 0) rfl rfl (m_loadPt (lq rfl) G25 rfl rfl) ?_ ?_
   ·
    refine any_n [1] (by kernel_rfl) rfl ?_
    refine any_b (i := 1) rfl rfl (g_call [(13, 2514), (11, 3014)] (colltable_made_g ht14) (lq rfl) (by decide) ⟨rfl, trivial⟩ rfl rfl trivial rfl rfl rfl (fun _ => rfl) rfl) ?_ ?_
    ·
     refine any_n [3] (by kernel_rfl) rfl ?_
     refine any_b (i := 3) rfl rfl (g_call [(3000, 2514), (3105, 3014)] (colltable_table_with_g ht16) (lq rfl) (by decide) ⟨rfl, rfl, trivial⟩ rfl rfl ⟨rfl, rfl, trivial⟩ rfl rfl rfl (fun _ => rfl) rfl) ?_ ?_
     ·
      refine any_n [4] (by kernel_rfl) rfl ?_
      refine any_a (i := 4) rfl rfl (a_assign_ptr (lq rfl) rfl) ?_ ?_
      ·
       exact any_end rfl (out_mk (weak_cov ⟨rfl, rfl, rfl, trivial⟩ ⟨rfl, rfl, trivial⟩))
      ·
       exact any_nil
     ·
      exact any_nil
    ·
     exact any_nil
   ·
    exact any_nil
  exact any_nil
 refine avc_weak (weak_map_box (bid := 2514) (off := 5) rfl rfl rfl) ?_
 refine avc_weak (weak_freeze (t := 7) (lq rfl) rfl rfl rfl) ?_
 refine avc_sq2 <| avc_sq ?_
 refine sqa (a_assign_d (lq rfl) rfl) ?_
 refine sq_nil ?_
 refine avc_weak (weak_nil (t := 8) 1008 63 eElement.size (lq rfl) (lq rfl) rfl rfl) ?_
 refine avc_sq2 <| avc_sq2 <| avc_sq ?_
 refine sqa (m_loadPt (lq rfl) G43 rfl rfl) ?_
 refine sqa (a_move_d (lq rfl) rfl) ?_
 obtain ⟨t19, ht19, h'⟩ := bE h; clear h
 refine sq_b rfl (g_call [(2531, 2519)] (decompose_Text_g ht19) (lq rfl) (by decide) ⟨rfl, rfl, rfl, trivial⟩ rfl rfl trivial rfl rfl rfl (fun _ => rfl) rfl) ?_
 refine sqa (a_assign_row (lq rfl) rfl) ?_
 refine sq_nil ?_
 refine avc_weak (weak_row_win (id := 2519) rfl) ?_
 refine avc_block ?_
 obtain ⟨y1, hy1, h⟩ := bE h'; clear h'
 refine avc_tail (e := (.exit 0)) (S2 := ⟨[(8, .row 1008)], [(1008, .row 63 eElement.size false (eElement.all y1))]⟩) ?_ ?_
 ·
  refine avc_loopM (fun x => ⟨[(7, .d (.pt (eColltable_table.cells t16))), (8, .row 1008), (9, .row 2519)], [(1008, .row 63 eElement.size false (eElement.all x.1)), (2519, .win 3 eI.size 0 (eI.all x.2))]⟩) hy1 (weak_cov ⟨rfl, rfl, rfl, trivial⟩ ⟨rfl, rfl, trivial⟩) ?_
  rintro ⟨r1008, r2519⟩ sy1 hsy1
  replace hsy1 : colltable_Elements_L0 t16 r1008 r2519 = some sy1 := hsy1
  unfold colltable_Elements_L0 at hsy1
  refine avc_sq2 <| avc_sq2 <| avc_sq ?_
  refine sqa (a_move_row (lq rfl) rfl) ?_
  refine sqa (m_lenW (en := eI) (l := r2519) (lq rfl) S30 rfl rfl) ?_
  refine sqa (a_gtr (lq rfl) rfl rfl) ?_
  refine sq_nil ?_
  refine avc_if rfl ⟨fun c1 => ?_, fun c1 => ?_⟩
  ·
   replace hsy1 := cT c1 hsy1
   refine avc_skip <| avc_block <| avc_sq2 <| avc_sq ?_
   refine sqa (a_move_d (lq rfl) rfl) ?_
   refine sqa (a_move_row (lq rfl) rfl) ?_
   obtain ⟨t26, ht26, hsy1'⟩ := bE hsy1; clear hsy1
   refine sq_b rfl (g_call [(3001, 2519)] (colltable_table_match_g ht26) (lq rfl) (by decide) ⟨rfl, rfl, trivial⟩ rfl rfl ⟨rfl, trivial⟩ rfl rfl rfl (fun _ => rfl) rfl) ?_
   refine sqa (a_move_tupc (lq rfl) rfl) ?_
   refine sqa (a_extractC (lq rfl) rfl rfl) ?_
   refine sqa (a_extractC (lq rfl) rfl rfl) ?_
   refine sqa (a_extractC (lq rfl) rfl rfl) ?_
   refine sqa (a_assign_d (lq rfl) rfl) ?_
   refine sqa (a_assign_d (lq rfl) rfl) ?_
   refine sqa (a_assign_d (lq rfl) rfl) ?_
   refine sq_nil <| avc_sq2 <| avc_sq ?_
   refine sqa (a_move_row (lq rfl) rfl) ?_
   refine sqa (a_move_d (lq rfl) rfl) ?_
   obtain ⟨r1008_2, hr1008_2, hsy1⟩ := bE hsy1'; clear hsy1'
   refine sq_b rfl (m_append (en := eElement) (l := r1008) (m := t26.2.1) (lq rfl) S31 rfl rfl rfl hr1008_2 (by decide) (by decide) rfl rfl) ?_
   refine sqa (a_assign_row (lq rfl) rfl) ?_
   refine sq_nil <| avc_sq ?_
   refine sqa (a_move_row (lq rfl) rfl) ?_
   refine sqa (a_move_d (lq rfl) rfl) ?_
   obtain ⟨r2519_3, hr2519_3, hsy1'⟩ := bE hsy1; clear hsy1
   refine sq_b rfl (m_shrink (en := eI) (l := t26.2.2.2) (lq rfl) S30 rfl rfl rfl hr2519_3 (Nat.le_refl _) rfl) ?_
   refine sqa (a_assign_row (lq rfl) rfl) ?_
   refine sq_nil ?_
   cases hsy1'
   exact weak_cov ⟨rfl, rfl, rfl, trivial⟩ ⟨rfl, rfl, trivial⟩
  ·
   replace hsy1 := cF c1 hsy1
   refine avc_exit ?_
   cases hsy1
   intro q; cases q
   exact out_mk (weak_cov ⟨rfl, trivial⟩ ⟨rfl, trivial⟩)
 ·
  refine avc_sq2 <| avc_sq ?_
  refine sqa (a_move_row (lq rfl) rfl) ?_
  refine sqa (a_assign_row (lq rfl) rfl) ?_
  refine sq_nil ?_
  cases h
  refine avc_ret ?_
  exact ret_1 rfl
end Go.Proofs.YtgeaoceiacdadaaDoor.Walk


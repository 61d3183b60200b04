/- Each function of the program answers as its plain counterpart does, where that answers. Conditions: none. -/
import Derived.Test.YtgeaoceiacdadaaDoorMir
import Derived.Test.YtgeaoceiacdadaaDoorProg
import Derived.Test.YtgeaoceiacdadaaDoorWk2
set_option linter.unusedSimpArgs false
set_option linter.unusedVariables false
set_option linter.unnecessarySimpa false
namespace Go.Proofs.YtgeaoceiacdadaaDoor.Walk
open Go.AV Go.M Go.RowKit Go.Proofs
set_option maxRecDepth 40000 in
theorem law43_ColltableWalks_c  {a0 : Unicodetextlaw43_Case}  {r : Bool} (h : law43_ColltableWalks a0 = some r) : Contract Tryd.prog 6 [(eUnicodetextlaw43_Case.dv a0)] [(db r)] := by
 refine contract_of Tryd.func6 (by kernel_rfl) rfl (lq rfl) (lq rfl) fun w0 I0 hI0 hG0 => ?_
 unfold law43_ColltableWalks at h
 refine avc_sq2 <| avc_sq ?_
 refine sqa (m_box (size := 9) (lq rfl) rfl rfl) ?_
 refine sqa (a_assign_d (lq rfl) rfl) ?_
 refine sq_nil <| avc_sq2 <| avc_sq2 <| avc_sq ?_
 refine sqa (m_loadPt (lq rfl) G45 rfl rfl) ?_
 obtain ⟨t12, ht12, h'⟩ := bE h; clear h
 refine sqa (a_call (lq rfl) rfl (law43_few_c ht12)) ?_
 refine sqa (a_not (lq rfl) rfl) ?_
 refine sq_nil ?_
 refine avc_if rfl ⟨fun c1 => ?_, fun c1 => ?_⟩
 ·
  replace h' := cT c1 h'
  refine avc_sq2 <| avc_sq ?_
  obtain ⟨t14, ht14, h⟩ := bE h'; clear h'
  refine sqa (a_call (lq rfl) rfl (law43_alive_c ht14)) ?_
  refine sqa (a_assign_d (lq rfl) rfl) ?_
  refine sq_nil ?_
  cases h
  refine avc_ret ?_
  exact ret_1 rfl
 ·
  replace h' := cF c1 h'
  refine avc_skip <| avc_sq2 <| avc_sq ?_
  refine sqa (m_fieldPt (lq rfl) L45_0 rfl) ?_
  refine sqa (a_load_ipA (lq rfl) G43 rfl rfl rfl) ?_
  refine sqa (m_fieldPt (lq rfl) L45_2 rfl) ?_
  refine sqa (a_load_ip (lq rfl) O30 rfl rfl) ?_
  obtain ⟨t19, ht19, h⟩ := bE h'; clear h'
  refine sqa (a_call (lq rfl) rfl (decompose_Text_c ht19)) ?_
  refine sqa (a_assign_d (lq rfl) rfl) ?_
  refine sq_nil <| avc_sq2 <| avc_sq ?_
  refine sqa (a_assign_d (lq rfl) rfl) ?_
  refine sq_nil ?_
  refine avc_weak (weak_nil (t := 4) 1004 63 eElement.size (lq rfl) (lq rfl) rfl rfl) ?_
  refine avc_sq2 <| avc_block ?_
  obtain ⟨y1, hy1, h'⟩ := bE h; clear h
  refine avc_tail2 y1 (.exit 0) (fun y1 => ⟨[(1, .d (.pt (eUnicodetextlaw43_Case.cells a0))), (4, .row 1004)], [(1004, .row 63 eElement.size false (eElement.all y1))]⟩) .ret (fun y1 => ⟨[(2, .d (db y1))], []⟩) ?_ ?_ ?_
  ·
   refine avc_loopM (fun x => ⟨[(1, .d (.pt (eUnicodetextlaw43_Case.cells a0))), (3, .d (dsl eI x.1)), (4, .row 1004)], [(1004, .row 63 eElement.size false (eElement.all x.2))]⟩) hy1 (weak_cov ⟨rfl, rfl, rfl, trivial⟩ ⟨rfl, trivial⟩) ?_
   rintro ⟨v3, r1004⟩ sy1 hsy1
   replace hsy1 : law43_ColltableWalks_L0 a0 v3 r1004 = some sy1 := hsy1
   unfold law43_ColltableWalks_L0 at hsy1
   refine avc_sq2 <| avc_sq2 <| avc_sq ?_
   refine sqa (a_move_d (lq rfl) rfl) ?_
   refine sqa (m_len (en := eI) (l := v3) (lq rfl) S30 rfl) ?_
   refine sqa (a_gtr (lq rfl) rfl rfl) ?_
   refine sq_nil ?_
   refine avc_if rfl ⟨fun c2 => ?_, fun c2 => ?_⟩
   ·
    replace hsy1 := cT c2 hsy1
    refine avc_skip <| avc_block <| avc_sq2 <| avc_sq ?_
    refine sqa (m_fieldPt (lq rfl) L45_0 rfl) ?_
    refine sqa (a_load_ipA (lq rfl) G43 rfl rfl rfl) ?_
    refine sqa (m_fieldPt (lq rfl) L45_1 rfl) ?_
    refine sqa (a_load_ipA (lq rfl) G25 rfl rfl rfl) ?_
    refine sqa (a_move_d (lq rfl) rfl) ?_
    obtain ⟨t29, ht29, hsy1'⟩ := bE hsy1; clear hsy1
    refine sqa (a_call (lq rfl) rfl (colltable_Step_c ht29)) ?_
    refine sqa (a_move_tup (lq rfl) rfl) ?_
    refine sqa (a_extract (lq rfl) rfl rfl) ?_
    refine sqa (a_extract (lq rfl) rfl rfl) ?_
    refine sqa (a_extract (lq rfl) rfl rfl) ?_
    refine sqa (a_assign_d (lq rfl) rfl) ?_
    refine sqa (a_assign_d (lq rfl) rfl) ?_
    refine sqa (a_assign_d (lq rfl) rfl) ?_
    refine sq_nil <| avc_sq2 <| avc_sq2 <| avc_sq ?_
    refine sqa (a_move_d (lq rfl) rfl) ?_
    refine sqa (a_lss (lq rfl) rfl rfl) ?_
    obtain ⟨b35, hb35, hsy1⟩ := bE hsy1'; clear hsy1'
    refine sqa ((a_move_d (lq rfl) rfl).bool (Option.some.inj hb35)) ?_
    refine sq_g (x := .d (dsl eI t29.2.1)) rfl rfl rfl (lq rfl) (lq rfl) rfl (fun hb => by obtain rfl := gF hb; exact a_move_d (lq rfl) rfl) ?_
    refine sq_g (x := .d (di (t29.2.1.length : Int))) rfl rfl rfl (lq rfl) (lq rfl) rfl (fun hb => by obtain rfl := gF hb; exact m_len (en := eI) (l := t29.2.1) (lq rfl) S30 rfl) ?_
    refine sq_g (x := .d (dsl eI v3)) rfl rfl rfl (lq rfl) (lq rfl) rfl (fun hb => by obtain rfl := gF hb; exact a_move_d (lq rfl) rfl) ?_
    refine sq_g (x := .d (di (v3.length : Int))) rfl rfl rfl (lq rfl) (lq rfl) rfl (fun hb => by obtain rfl := gF hb; exact m_len (en := eI) (l := v3) (lq rfl) S30 rfl) ?_
    refine sq_g (x := .d (di t29.1)) rfl rfl rfl (lq rfl) (lq rfl) rfl (fun hb => by obtain rfl := gF hb; exact a_move_d (lq rfl) rfl) ?_
    refine sq_g (x := .d (di (wi ((v3.length : Int) - t29.1)))) rfl rfl rfl (lq rfl) (lq rfl) rfl (fun hb => by obtain rfl := gF hb; exact m_sub (lq rfl) rfl rfl) ?_
    refine sq_g (x := .d (db (!decide ((t29.2.1.length : Int) = (wi ((v3.length : Int) - t29.1)))))) rfl rfl rfl (lq rfl) (lq rfl) rfl (fun hb => by obtain rfl := gF hb; exact a_neq (lq rfl) rfl rfl) ?_
    refine sqa (a_pick_or (lq rfl) rfl rfl) ?_
    refine sq_nil ?_
    refine avc_if rfl ⟨fun c3 => ?_, fun c3 => ?_⟩
    ·
     replace hsy1 := cT c3 hsy1
     refine avc_sq2 <| avc_sq ?_
     refine sqa (a_assign_d (lq rfl) rfl) ?_
     refine sq_nil ?_
     refine avc_ret ?_
     cases hsy1
     intro q; cases q
     exact ⟨rfl, weak_cov ⟨rfl, trivial⟩ trivial⟩
    ·
     replace hsy1 := cF c3 hsy1
     refine avc_skip <| avc_sq2 <| avc_sq ?_
     refine sqa (a_move_row (lq rfl) rfl) ?_
     refine sqa (a_move_d (lq rfl) rfl) ?_
     obtain ⟨r1004_2, hr1004_2, hsy1'⟩ := bE hsy1; clear hsy1
     refine sq_b rfl (m_append (en := eElement) (l := r1004) (m := t29.2.2) (lq rfl) S31 rfl rfl rfl hr1004_2 (by decide) (by decide) rfl rfl) ?_
     refine sqa (a_assign_row (lq rfl) rfl) ?_
     refine sq_nil <| avc_sq ?_
     refine sqa (a_move_d (lq rfl) rfl) ?_
     refine sqa (a_assign_d (lq rfl) rfl) ?_
     refine sq_nil ?_
     cases hsy1'
     exact weak_cov ⟨rfl, rfl, rfl, trivial⟩ ⟨rfl, trivial⟩
   ·
    replace hsy1 := cF c2 hsy1
    refine avc_exit ?_
    cases hsy1
    intro q; cases q
    exact ⟨rfl, weak_cov ⟨rfl, rfl, trivial⟩ ⟨rfl, trivial⟩⟩
  ·
   rintro y1 rfl
   replace h' := eL h'
   refine avc_sq2 <| avc_sq ?_
   refine sqa (m_fieldPt (lq rfl) L45_0 rfl) ?_
   refine sqa (a_load_ipA (lq rfl) G43 rfl rfl rfl) ?_
   refine sqa (m_fieldPt (lq rfl) L45_1 rfl) ?_
   refine sqa (a_load_ipA (lq rfl) G25 rfl rfl rfl) ?_
   obtain ⟨t53, ht53, h⟩ := bE h'; clear h'
   refine sqa (a_call (lq rfl) rfl (con_nil (colltable_Step_c ht53) (nlE (nlE (nlN nl0))))) ?_
   refine sqa (a_move_tup (lq rfl) rfl) ?_
   refine sqa (a_extract (lq rfl) rfl rfl) ?_
   refine sqa (a_extract (lq rfl) rfl rfl) ?_
   refine sqa (a_extract (lq rfl) rfl rfl) ?_
   refine sqa (a_assign_d (lq rfl) rfl) ?_
   refine sqa (a_assign_d (lq rfl) rfl) ?_
   refine sqa (a_assign_d (lq rfl) rfl) ?_
   refine sq_nil <| avc_sq2 ?_
   refine avc_weak (weak_row_d (t := 4) (lq rfl) rfl rfl) ?_
   refine avc_sq ?_
   refine sqa (a_move_d (lq rfl) rfl) ?_
   refine sqa (a_eql (lq rfl) rfl rfl) ?_
   obtain ⟨b59, hb59, h'⟩ := bE h; clear h
   refine sqa ((a_move_d (lq rfl) rfl).bool (Option.some.inj hb59)) ?_
   refine sq_g (x := .d (dsl eI t53.2.1)) rfl rfl rfl (lq rfl) (lq rfl) rfl (fun hb => by obtain rfl : b59 = true := hb; exact a_move_d (lq rfl) rfl) ?_
   refine sq_g (x := .d (di (t53.2.1.length : Int))) rfl rfl rfl (lq rfl) (lq rfl) rfl (fun hb => by obtain rfl : b59 = true := hb; exact m_len (en := eI) (l := t53.2.1) (lq rfl) S30 rfl) ?_
   refine sq_g (x := .d (db (decide ((t53.2.1.length : Int) = 0)))) rfl rfl rfl (lq rfl) (lq rfl) rfl (fun hb => by obtain rfl : b59 = true := hb; exact a_eql (lq rfl) rfl rfl) ?_
   refine sqa (a_pick_and (lq rfl) rfl rfl) ?_
   obtain ⟨b64, hb64, h⟩ := bE h'; clear h'
   refine sqa ((a_move_d (lq rfl) rfl).bool (Option.some.inj hb64)) ?_
   refine sq_g (x := .d (dsl eElement t53.2.2)) rfl rfl rfl (lq rfl) (lq rfl) rfl (fun hb => by obtain rfl : b64 = true := hb; exact a_move_d (lq rfl) rfl) ?_
   refine sq_g (x := .d (di (t53.2.2.length : Int))) rfl rfl rfl (lq rfl) (lq rfl) rfl (fun hb => by obtain rfl : b64 = true := hb; exact m_len (en := eElement) (l := t53.2.2) (lq rfl) S31 rfl) ?_
   refine sq_g (x := .d (db (decide ((t53.2.2.length : Int) = 0)))) rfl rfl rfl (lq rfl) (lq rfl) rfl (fun hb => by obtain rfl : b64 = true := hb; exact a_eql (lq rfl) rfl rfl) ?_
   refine sqa (a_pick_and (lq rfl) rfl rfl) ?_
   obtain ⟨b69, hb69, h'⟩ := bE h; clear h
   refine sqa ((a_move_d (lq rfl) rfl).bool (Option.some.inj hb69)) ?_
   refine sq_g (x := .ip (eUnicodetextlaw43_Case.cells a0) (0 + 0)) rfl rfl rfl (lq rfl) (lq rfl) rfl (fun hb => by obtain rfl : b69 = true := hb; exact m_fieldPt (lq rfl) L45_0 rfl) ?_
   refine sq_g (x := .d (eNorm.dv a0.N)) rfl rfl rfl (lq rfl) (lq rfl) rfl (fun hb => by obtain rfl : b69 = true := hb; exact a_load_ipA (lq rfl) G43 rfl rfl rfl) ?_
   refine sq_g (x := .ip (eUnicodetextlaw43_Case.cells a0) (0 + 3)) rfl rfl rfl (lq rfl) (lq rfl) rfl (fun hb => by obtain rfl : b69 = true := hb; exact m_fieldPt (lq rfl) L45_1 rfl) ?_
   refine sq_g (x := .d (eCollation.dv a0.C)) rfl rfl rfl (lq rfl) (lq rfl) rfl (fun hb => by obtain rfl : b69 = true := hb; exact a_load_ipA (lq rfl) G25 rfl rfl rfl) ?_
   refine sq_g (x := .ip (eUnicodetextlaw43_Case.cells a0) (0 + 8)) rfl rfl rfl (lq rfl) (lq rfl) rfl (fun hb => by obtain rfl : b69 = true := hb; exact m_fieldPt (lq rfl) L45_2 rfl) ?_
   refine sq_g (x := .d (dsl eI a0.Text)) rfl rfl rfl (lq rfl) (lq rfl) rfl (fun hb => by obtain rfl : b69 = true := hb; exact a_load_ip (lq rfl) O30 rfl rfl) ?_
   obtain ⟨t76, ht76, h⟩ := bE h'; clear h'
   refine sq_g (x := .d (dsl eElement t76)) rfl rfl rfl (lq rfl) (lq rfl) rfl (fun hb => by obtain rfl : b69 = true := hb; exact a_call (lq rfl) rfl (colltable_Elements_c ht76)) ?_
   refine sq_g (x := .d (dsl eElement y1)) rfl rfl rfl (lq rfl) (lq rfl) rfl (fun hb => by obtain rfl : b69 = true := hb; exact a_move_d (lq rfl) rfl) ?_
   obtain ⟨t78, ht78, h'⟩ := bE h; clear h
   refine sq_g (x := .d (db t78)) rfl rfl rfl (lq rfl) (lq rfl) rfl (fun hb => by obtain rfl : b69 = true := hb; exact a_call (lq rfl) rfl (ref43_Same_c ht78)) ?_
   refine sqa (a_pick_and (lq rfl) rfl rfl) ?_
   obtain ⟨b80, hb80, h⟩ := bE h'; clear h'
   refine sqa ((a_move_d (lq rfl) rfl).bool (Option.some.inj hb80)) ?_
   obtain ⟨t81, ht81, h'⟩ := bE h; clear h
   refine sq_g (x := .d (db t81)) rfl rfl rfl (lq rfl) (lq rfl) rfl (fun hb => by obtain rfl : b80 = true := hb; exact a_call (lq rfl) rfl (law43_alive_c ht81)) ?_
   refine sqa (a_pick_and (lq rfl) rfl rfl) ?_
   refine sqa (a_assign_d (lq rfl) rfl) ?_
   refine sq_nil ?_
   cases h'
   refine avc_ret ?_
   exact ret_1 rfl
  ·
   rintro y1 rfl
   replace h' := eR h'
   cases h'
   exact ret_1 rfl
end Go.Proofs.YtgeaoceiacdadaaDoor.Walk


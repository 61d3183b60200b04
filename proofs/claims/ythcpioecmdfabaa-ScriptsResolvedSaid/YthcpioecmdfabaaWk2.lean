/- Each function of the program answers as its plain counterpart does, where that answers. Conditions: none. -/
import Derived.Test.YthcpioecmdfabaaMir
import Derived.Test.YthcpioecmdfabaaSortB
import Derived.Test.YthcpioecmdfabaaShelf
import Derived.Shelf.Sort.Plain
import Derived.Shelf.Slices.In.SortNone
import Derived.Test.YthcpioecmdfabaaProg
import Derived.Test.YthcpioecmdfabaaWk1
set_option linter.unusedSimpArgs false
set_option linter.unusedVariables false
set_option linter.unnecessarySimpa false
namespace Go.Proofs.Ythcpioecmdfabaa.Walk
open Go.AV Go.M Go.RowKit Go.Proofs
theorem ref10_Valid_c  {a0 : Property}  {r : Bool} (h : ref10_Valid a0 = some r) : Contract Try.prog 48 [(eProperty.dv a0)] [(db r)] := by
  refine contract_of Try.func48 (by kernel_rfl) rfl (lq rfl) (lq rfl) fun w0 I0 => ?_
  unfold ref10_Valid at h
  refine avc_sq2 ?_
  refine avc_sq ?_
  refine sqa (m_box (size := 2) (lq rfl) rfl rfl) ?_
  refine sqa (a_assign_d (lq rfl) rfl) ?_
  refine sq_nil ?_
  refine avc_sq2 ?_
  refine avc_sq2 ?_
  refine avc_sq ?_
  refine sqa (m_fieldPt (lq rfl) L25_0 rfl) ?_
  refine sqa (a_load_ip (lq rfl) O22 rfl rfl) ?_
  obtain ⟨t7, ht7, h'⟩ := bE h; clear h
  refine sqa (a_call (lq rfl) rfl (ref10_names_c ht7)) ?_
  refine sqa (a_not (lq rfl) rfl) ?_
  refine sq_nil ?_
  refine avc_if rfl ⟨fun c1 => ?_, fun c1 => ?_⟩
  · replace h' := cT c1 h'
    refine avc_sq2 ?_
    refine avc_sq ?_
    refine sqa (a_assign_d (lq rfl) rfl) ?_
    refine sq_nil ?_
    cases h'
    refine avc_ret ?_
    exact ret_1 rfl
  · replace h' := cF c1 h'
    refine avc_skip ?_
    refine avc_sq2 ?_
    refine avc_sq2 ?_
    refine avc_sq ?_
    refine sqa (a_assign_d (lq rfl) rfl) ?_
    refine sq_nil ?_
    refine avc_block ?_
    obtain ⟨y1, hy1, h⟩ := bE h'; clear h'
    rcases y1 with y1 | y1
    ·
      replace h := eL h
      refine avc_tail (e := .exit 0) (S2 := ⟨[], []⟩) ?_ ?_
      ·
        refine avc_loopM (fun x => ⟨[(1, .d (.pt (eProperty.cells a0))), (3, .d (di x))], []⟩) hy1 (weak_cov ⟨rfl, rfl, trivial⟩ trivial) ?_
        rintro v3 sy1 hsy1
        replace hsy1 : ref10_Valid_L0 a0 v3 = some sy1 := hsy1
        unfold ref10_Valid_L0 at hsy1
        refine avc_sq2 ?_
        refine avc_sq2 ?_
        refine avc_sq ?_
        refine sqa (a_move_d (lq rfl) rfl) ?_
        refine sqa (m_fieldPt (lq rfl) L25_1 rfl) ?_
        refine sqa (a_load_ip (lq rfl) O23 rfl rfl) ?_
        refine sqa (m_len (en := eSpan) (l := a0.Spans) (lq rfl) S23 rfl) ?_
        refine sqa (a_lss (lq rfl) rfl rfl) ?_
        refine sq_nil ?_
        refine avc_if rfl ⟨fun c2 => ?_, fun c2 => ?_⟩
        · replace hsy1 := cT c2 hsy1
          refine avc_skip ?_
          refine avc_sq2 ?_
          refine avc_block ?_
          refine avc_sq2 ?_
          refine avc_sq ?_
          refine sqa (m_fieldPt (lq rfl) L25_1 rfl) ?_
          refine sqa (a_load_ip (lq rfl) O23 rfl rfl) ?_
          refine sqa (a_move_d (lq rfl) rfl) ?_
          obtain ⟨t19, ht19, hsy1'⟩ := bE hsy1; clear hsy1
          refine sqa (m_index (en := eSpan) (lq rfl) S23 rfl rfl ht19) ?_
          refine sqa (m_loadEA (en := eSpan) (l := a0.Spans) (i := v3) (v := t19) (off := 0) (lq rfl) G45 rfl ht19 rfl rfl (by decide)) ?_
          refine sq_b rfl (step_alloc (zs := [(.int IntKind.i64 (0)), (.int IntKind.i64 (0)), (.int IntKind.i64 (0))]) (lq rfl) (by kernel_rfl) rfl rfl) ?_
          refine sq_b rfl (s_store_boxA G45 rfl rfl rfl rfl rfl rfl) ?_
          refine sq_nil ?_
          refine avc_weak (weak_freeze (t := 4) (lq rfl) rfl rfl rfl) ?_
          refine avc_sq2 ?_
          refine avc_sq2 ?_
          refine avc_sq ?_
          refine sqa (m_fieldPt (lq rfl) L45_0 rfl) ?_
          refine sqa (a_load_ip (lq rfl) O3 rfl rfl) ?_
          refine sqa (a_lss (lq rfl) rfl rfl) ?_
          obtain ⟨b24, hb24, hsy1⟩ := bE hsy1'; clear hsy1'
          refine sqa ((a_move_d (lq rfl) rfl).bool (Option.some.inj hb24)) ?_
          refine sq_g (x := .ip (eSpan.cells t19) (0 + 0)) rfl rfl rfl (lq rfl) (lq rfl) rfl (fun hb => by obtain rfl := gF hb; exact m_fieldPt (lq rfl) L45_0 rfl) ?_
          refine sq_g (x := .d (di t19.Lo)) rfl rfl rfl (lq rfl) (lq rfl) rfl (fun hb => by obtain rfl := gF hb; exact a_load_ip (lq rfl) O3 rfl rfl) ?_
          refine sq_g (x := .ip (eSpan.cells t19) (0 + 1)) rfl rfl rfl (lq rfl) (lq rfl) rfl (fun hb => by obtain rfl := gF hb; exact m_fieldPt (lq rfl) L45_1 rfl) ?_
          refine sq_g (x := .d (di t19.Hi)) rfl rfl rfl (lq rfl) (lq rfl) rfl (fun hb => by obtain rfl := gF hb; exact a_load_ip (lq rfl) O3 rfl rfl) ?_
          refine sq_g (x := .d (db (decide (t19.Hi < t19.Lo)))) rfl rfl rfl (lq rfl) (lq rfl) rfl (fun hb => by obtain rfl := gF hb; exact a_gtr (lq rfl) rfl rfl) ?_
          refine sqa (a_pick_or (lq rfl) rfl rfl) ?_
          obtain ⟨b31, hb31, hsy1'⟩ := bE hsy1; clear hsy1
          refine sqa ((a_move_d (lq rfl) rfl).bool (Option.some.inj hb31)) ?_
          refine sq_g (x := .ip (eSpan.cells t19) (0 + 1)) rfl rfl rfl (lq rfl) (lq rfl) rfl (fun hb => by obtain rfl := gF hb; exact m_fieldPt (lq rfl) L45_1 rfl) ?_
          refine sq_g (x := .d (di t19.Hi)) rfl rfl rfl (lq rfl) (lq rfl) rfl (fun hb => by obtain rfl := gF hb; exact a_load_ip (lq rfl) O3 rfl rfl) ?_
          refine sq_g (x := .d (db (decide (1114111 < t19.Hi)))) rfl rfl rfl (lq rfl) (lq rfl) rfl (fun hb => by obtain rfl := gF hb; exact a_gtr (lq rfl) rfl rfl) ?_
          refine sqa (a_pick_or (lq rfl) rfl rfl) ?_
          obtain ⟨b36, hb36, hsy1⟩ := bE hsy1'; clear hsy1'
          refine sqa ((a_move_d (lq rfl) rfl).bool (Option.some.inj hb36)) ?_
          refine sq_g (x := .ip (eSpan.cells t19) (0 + 2)) rfl rfl rfl (lq rfl) (lq rfl) rfl (fun hb => by obtain rfl := gF hb; exact m_fieldPt (lq rfl) L45_2 rfl) ?_
          refine sq_g (x := .d (di t19.Value)) rfl rfl rfl (lq rfl) (lq rfl) rfl (fun hb => by obtain rfl := gF hb; exact a_load_ip (lq rfl) O3 rfl rfl) ?_
          refine sq_g (x := .d (db (decide (t19.Value < 1)))) rfl rfl rfl (lq rfl) (lq rfl) rfl (fun hb => by obtain rfl := gF hb; exact a_lss (lq rfl) rfl rfl) ?_
          refine sqa (a_pick_or (lq rfl) rfl rfl) ?_
          obtain ⟨b41, hb41, hsy1'⟩ := bE hsy1; clear hsy1
          refine sqa ((a_move_d (lq rfl) rfl).bool (Option.some.inj hb41)) ?_
          refine sq_g (x := .ip (eSpan.cells t19) (0 + 2)) rfl rfl rfl (lq rfl) (lq rfl) rfl (fun hb => by obtain rfl := gF hb; exact m_fieldPt (lq rfl) L45_2 rfl) ?_
          refine sq_g (x := .d (di t19.Value)) rfl rfl rfl (lq rfl) (lq rfl) rfl (fun hb => by obtain rfl := gF hb; exact a_load_ip (lq rfl) O3 rfl rfl) ?_
          refine sq_g (x := .ip (eProperty.cells a0) (0 + 0)) rfl rfl rfl (lq rfl) (lq rfl) rfl (fun hb => by obtain rfl := gF hb; exact m_fieldPt (lq rfl) L25_0 rfl) ?_
          refine sq_g (x := .d (dsl eS a0.Names)) rfl rfl rfl (lq rfl) (lq rfl) rfl (fun hb => by obtain rfl := gF hb; exact a_load_ip (lq rfl) O22 rfl rfl) ?_
          refine sq_g (x := .d (di (a0.Names.length : Int))) rfl rfl rfl (lq rfl) (lq rfl) rfl (fun hb => by obtain rfl := gF hb; exact m_len (en := eS) (l := a0.Names) (lq rfl) S22 rfl) ?_
          refine sq_g (x := .d (db (decide ((a0.Names.length : Int) ≤ t19.Value)))) rfl rfl rfl (lq rfl) (lq rfl) rfl (fun hb => by obtain rfl := gF hb; exact a_geq (lq rfl) rfl rfl) ?_
          refine sqa (a_pick_or (lq rfl) rfl rfl) ?_
          refine sq_nil ?_
          refine avc_if rfl ⟨fun c3 => ?_, fun c3 => ?_⟩
          · replace hsy1' := cT c3 hsy1'
            refine avc_sq2 ?_
            refine avc_sq ?_
            refine sqa (a_assign_d (lq rfl) rfl) ?_
            refine sq_nil ?_
            refine avc_ret ?_
            cases hsy1'
            intro q; cases q
          · replace hsy1' := cF c3 hsy1'
            refine avc_skip ?_
            refine avc_sq2 ?_
            refine avc_drawA MX rfl ?_
            refine daa (a_move_d (lq rfl) rfl) ?_
            refine daa (a_gtr (lq rfl) rfl rfl) ?_
            obtain ⟨b51, hb51, hsy1⟩ := bE hsy1'; clear hsy1'
            refine daa ((a_move_d (lq rfl) rfl).bool (Option.some.inj hb51)) ?_
            refine da_g (x := .ip (eSpan.cells t19) (0 + 0)) rfl rfl rfl (lq rfl) (lq rfl) rfl (fun hb => by obtain rfl : b51 = true := hb; exact m_fieldPt (lq rfl) L45_0 rfl) ?_
            refine da_g (x := .d (di t19.Lo)) rfl rfl rfl (lq rfl) (lq rfl) rfl (fun hb => by obtain rfl : b51 = true := hb; exact a_load_ip (lq rfl) O3 rfl rfl) ?_
            refine da_g (x := .ip (eProperty.cells a0) (0 + 1)) rfl rfl rfl (lq rfl) (lq rfl) rfl (fun hb => by obtain rfl : b51 = true := hb; exact m_fieldPt (lq rfl) L25_1 rfl) ?_
            refine da_g (x := .d (dsl eSpan a0.Spans)) rfl rfl rfl (lq rfl) (lq rfl) rfl (fun hb => by obtain rfl : b51 = true := hb; exact a_load_ip (lq rfl) O23 rfl rfl) ?_
            refine da_g (x := .d (di v3)) rfl rfl rfl (lq rfl) (lq rfl) rfl (fun hb => by obtain rfl : b51 = true := hb; exact a_move_d (lq rfl) rfl) ?_
            refine da_g (x := .d (di (wi (v3 - 1)))) rfl rfl rfl (lq rfl) (lq rfl) rfl (fun hb => by obtain rfl : b51 = true := hb; exact m_sub (lq rfl) rfl rfl) ?_
            obtain ⟨t58, ht58, hsy1'⟩ := bE hsy1; clear hsy1
            refine da_g (x := .ip (eSpan.all a0.Spans) ((wi (v3 - 1)).toNat * eSpan.size)) rfl rfl rfl (lq rfl) (lq rfl) rfl (fun hb => by obtain rfl : b51 = true := hb; exact m_index (en := eSpan) (lq rfl) S23 rfl rfl ht58) ?_
            refine da_g (x := .ip (eSpan.all a0.Spans) ((wi (v3 - 1)).toNat * eSpan.size + 1)) rfl rfl rfl (lq rfl) (lq rfl) rfl (fun hb => by obtain rfl : b51 = true := hb; exact a_fieldAddr_ip (lq rfl) L45_1 rfl) ?_
            refine da_g (x := .d (di t58.Hi)) rfl rfl rfl (lq rfl) (lq rfl) rfl (fun hb => by obtain rfl : b51 = true := hb; exact m_loadE (en := eSpan) (l := a0.Spans) (i := (wi (v3 - 1))) (v := t58) (off := 1) (lq rfl) O3 rfl ht58 rfl) ?_
            refine da_g (x := .d (db (decide (t19.Lo ≤ t58.Hi)))) rfl rfl rfl (lq rfl) (lq rfl) rfl (fun hb => by obtain rfl : b51 = true := hb; exact a_leq (lq rfl) rfl rfl) ?_
            obtain ⟨b62, hb62, hsy1⟩ := bE hsy1'; clear hsy1'
            refine da_g (x := .d (db b62)) rfl rfl rfl (lq rfl) (lq rfl) rfl (fun hb => by obtain rfl : b51 = true := hb; exact (a_move_d (lq rfl) rfl).bool (Option.some.inj hb62)) ?_
            refine da_g2 (x := .ip (eSpan.cells t19) (0 + 0)) rfl rfl rfl (lq rfl) (lq rfl) rfl (fun hb => by obtain ⟨hb, hb1⟩ := and_split hb; obtain rfl : b51 = true := hb; obtain rfl := gF hb1; exact m_fieldPt (lq rfl) L45_0 rfl) ?_
            refine da_g2 (x := .d (di t19.Lo)) rfl rfl rfl (lq rfl) (lq rfl) rfl (fun hb => by obtain ⟨hb, hb1⟩ := and_split hb; obtain rfl : b51 = true := hb; obtain rfl := gF hb1; exact a_load_ip (lq rfl) O3 rfl rfl) ?_
            refine da_g2 (x := .ip (eProperty.cells a0) (0 + 1)) rfl rfl rfl (lq rfl) (lq rfl) rfl (fun hb => by obtain ⟨hb, hb1⟩ := and_split hb; obtain rfl : b51 = true := hb; obtain rfl := gF hb1; exact m_fieldPt (lq rfl) L25_1 rfl) ?_
            refine da_g2 (x := .d (dsl eSpan a0.Spans)) rfl rfl rfl (lq rfl) (lq rfl) rfl (fun hb => by obtain ⟨hb, hb1⟩ := and_split hb; obtain rfl : b51 = true := hb; obtain rfl := gF hb1; exact a_load_ip (lq rfl) O23 rfl rfl) ?_
            refine da_g2 (x := .d (di v3)) rfl rfl rfl (lq rfl) (lq rfl) rfl (fun hb => by obtain ⟨hb, hb1⟩ := and_split hb; obtain rfl : b51 = true := hb; obtain rfl := gF hb1; exact a_move_d (lq rfl) rfl) ?_
            refine da_g2 (x := .d (di (wi (v3 - 1)))) rfl rfl rfl (lq rfl) (lq rfl) rfl (fun hb => by obtain ⟨hb, hb1⟩ := and_split hb; obtain rfl : b51 = true := hb; obtain rfl := gF hb1; exact m_sub (lq rfl) rfl rfl) ?_
            obtain ⟨t69, ht69, hsy1'⟩ := bE hsy1; clear hsy1
            refine da_g2 (x := .ip (eSpan.all a0.Spans) ((wi (v3 - 1)).toNat * eSpan.size)) rfl rfl rfl (lq rfl) (lq rfl) rfl (fun hb => by obtain ⟨hb, hb1⟩ := and_split hb; obtain rfl : b51 = true := hb; obtain rfl := gF hb1; exact m_index (en := eSpan) (lq rfl) S23 rfl rfl ht69) ?_
            refine da_g2 (x := .ip (eSpan.all a0.Spans) ((wi (v3 - 1)).toNat * eSpan.size + 1)) rfl rfl rfl (lq rfl) (lq rfl) rfl (fun hb => by obtain ⟨hb, hb1⟩ := and_split hb; obtain rfl : b51 = true := hb; obtain rfl := gF hb1; exact a_fieldAddr_ip (lq rfl) L45_1 rfl) ?_
            refine da_g2 (x := .d (di t69.Hi)) rfl rfl rfl (lq rfl) (lq rfl) rfl (fun hb => by obtain ⟨hb, hb1⟩ := and_split hb; obtain rfl : b51 = true := hb; obtain rfl := gF hb1; exact m_loadE (en := eSpan) (l := a0.Spans) (i := (wi (v3 - 1))) (v := t69) (off := 1) (lq rfl) O3 rfl ht69 rfl) ?_
            refine da_g2 (x := .d (di (wi (t69.Hi + 1)))) rfl rfl rfl (lq rfl) (lq rfl) rfl (fun hb => by obtain ⟨hb, hb1⟩ := and_split hb; obtain rfl : b51 = true := hb; obtain rfl := gF hb1; exact m_add (lq rfl) rfl rfl) ?_
            refine da_g2 (x := .d (db (decide (t19.Lo = (wi (t69.Hi + 1)))))) rfl rfl rfl (lq rfl) (lq rfl) rfl (fun hb => by obtain ⟨hb, hb1⟩ := and_split hb; obtain rfl : b51 = true := hb; obtain rfl := gF hb1; exact a_eql (lq rfl) rfl rfl) ?_
            obtain ⟨b74, hb74, hsy1⟩ := bE hsy1'; clear hsy1'
            refine da_g2 (x := .d (db b74)) rfl rfl rfl (lq rfl) (lq rfl) rfl (fun hb => by obtain ⟨hb, hb1⟩ := and_split hb; obtain rfl : b51 = true := hb; obtain rfl := gF hb1; exact (a_move_d (lq rfl) rfl).bool (Option.some.inj hb74)) ?_
            refine da_g2 (x := .ip (eSpan.cells t19) (0 + 2)) rfl rfl rfl (lq rfl) (lq rfl) rfl (fun hb => by obtain ⟨hb, hb2⟩ := and_split hb; obtain ⟨hb, hb1⟩ := and_split hb; obtain rfl : b51 = true := hb; obtain rfl := gF hb1; obtain rfl : b74 = true := hb2; exact m_fieldPt (lq rfl) L45_2 rfl) ?_
            refine da_g2 (x := .d (di t19.Value)) rfl rfl rfl (lq rfl) (lq rfl) rfl (fun hb => by obtain ⟨hb, hb2⟩ := and_split hb; obtain ⟨hb, hb1⟩ := and_split hb; obtain rfl : b51 = true := hb; obtain rfl := gF hb1; obtain rfl : b74 = true := hb2; exact a_load_ip (lq rfl) O3 rfl rfl) ?_
            refine da_g2 (x := .ip (eProperty.cells a0) (0 + 1)) rfl rfl rfl (lq rfl) (lq rfl) rfl (fun hb => by obtain ⟨hb, hb2⟩ := and_split hb; obtain ⟨hb, hb1⟩ := and_split hb; obtain rfl : b51 = true := hb; obtain rfl := gF hb1; obtain rfl : b74 = true := hb2; exact m_fieldPt (lq rfl) L25_1 rfl) ?_
            refine da_g2 (x := .d (dsl eSpan a0.Spans)) rfl rfl rfl (lq rfl) (lq rfl) rfl (fun hb => by obtain ⟨hb, hb2⟩ := and_split hb; obtain ⟨hb, hb1⟩ := and_split hb; obtain rfl : b51 = true := hb; obtain rfl := gF hb1; obtain rfl : b74 = true := hb2; exact a_load_ip (lq rfl) O23 rfl rfl) ?_
            refine da_g2 (x := .d (di v3)) rfl rfl rfl (lq rfl) (lq rfl) rfl (fun hb => by obtain ⟨hb, hb2⟩ := and_split hb; obtain ⟨hb, hb1⟩ := and_split hb; obtain rfl : b51 = true := hb; obtain rfl := gF hb1; obtain rfl : b74 = true := hb2; exact a_move_d (lq rfl) rfl) ?_
            refine da_g2 (x := .d (di (wi (v3 - 1)))) rfl rfl rfl (lq rfl) (lq rfl) rfl (fun hb => by obtain ⟨hb, hb2⟩ := and_split hb; obtain ⟨hb, hb1⟩ := and_split hb; obtain rfl : b51 = true := hb; obtain rfl := gF hb1; obtain rfl : b74 = true := hb2; exact m_sub (lq rfl) rfl rfl) ?_
            obtain ⟨t81, ht81, hsy1'⟩ := bE hsy1; clear hsy1
            refine da_g2 (x := .ip (eSpan.all a0.Spans) ((wi (v3 - 1)).toNat * eSpan.size)) rfl rfl rfl (lq rfl) (lq rfl) rfl (fun hb => by obtain ⟨hb, hb2⟩ := and_split hb; obtain ⟨hb, hb1⟩ := and_split hb; obtain rfl : b51 = true := hb; obtain rfl := gF hb1; obtain rfl : b74 = true := hb2; exact m_index (en := eSpan) (lq rfl) S23 rfl rfl ht81) ?_
            refine da_g2 (x := .ip (eSpan.all a0.Spans) ((wi (v3 - 1)).toNat * eSpan.size + 2)) rfl rfl rfl (lq rfl) (lq rfl) rfl (fun hb => by obtain ⟨hb, hb2⟩ := and_split hb; obtain ⟨hb, hb1⟩ := and_split hb; obtain rfl : b51 = true := hb; obtain rfl := gF hb1; obtain rfl : b74 = true := hb2; exact a_fieldAddr_ip (lq rfl) L45_2 rfl) ?_
            refine da_g2 (x := .d (di t81.Value)) rfl rfl rfl (lq rfl) (lq rfl) rfl (fun hb => by obtain ⟨hb, hb2⟩ := and_split hb; obtain ⟨hb, hb1⟩ := and_split hb; obtain rfl : b51 = true := hb; obtain rfl := gF hb1; obtain rfl : b74 = true := hb2; exact m_loadE (en := eSpan) (l := a0.Spans) (i := (wi (v3 - 1))) (v := t81) (off := 2) (lq rfl) O3 rfl ht81 rfl) ?_
            refine da_g2 (x := .d (db (decide (t19.Value = t81.Value)))) rfl rfl rfl (lq rfl) (lq rfl) rfl (fun hb => by obtain ⟨hb, hb2⟩ := and_split hb; obtain ⟨hb, hb1⟩ := and_split hb; obtain rfl : b51 = true := hb; obtain rfl := gF hb1; obtain rfl : b74 = true := hb2; exact a_eql (lq rfl) rfl rfl) ?_
            refine da_g2 (x := .d (db (b74 && (decide (t19.Value = t81.Value))))) rfl rfl rfl (lq rfl) (lq rfl) rfl (fun hb => by obtain ⟨hb, hb1⟩ := and_split hb; obtain rfl : b51 = true := hb; obtain rfl := gF hb1; exact a_pick_and (lq rfl) rfl rfl) ?_
            refine da_g (x := .d (db (b62 || (b74 && (decide (t19.Value = t81.Value)))))) rfl rfl rfl (lq rfl) (lq rfl) rfl (fun hb => by obtain rfl : b51 = true := hb; exact a_pick_or (lq rfl) rfl rfl) ?_
            refine daa (a_pick_and (lq rfl) rfl rfl) ?_
            refine da_nil ?_
            refine avc_if rfl ⟨fun c4 => ?_, fun c4 => ?_⟩
            · replace hsy1' := cT c4 hsy1'
              refine avc_sq2 ?_
              refine avc_sq ?_
              refine sqa (a_assign_d (lq rfl) rfl) ?_
              refine sq_nil ?_
              refine avc_ret ?_
              cases hsy1'
              intro q; cases q
            · replace hsy1' := cF c4 hsy1'
              refine avc_skip ?_
              refine avc_sq ?_
              refine sqa (a_move_d (lq rfl) rfl) ?_
              refine sqa (m_add (lq rfl) rfl rfl) ?_
              refine sqa (a_assign_d (lq rfl) rfl) ?_
              refine sq_nil ?_
              cases hsy1'
              exact weak_cov ⟨rfl, rfl, trivial⟩ trivial
        · replace hsy1 := cF c2 hsy1
          refine avc_exit ?_
          cases hsy1
          intro q; cases q
          exact out_mk (weak_cov trivial trivial)
      ·
        refine avc_sq2 ?_
        refine avc_sq ?_
        refine sqa (a_assign_d (lq rfl) rfl) ?_
        refine sq_nil ?_
        cases h
        refine avc_ret ?_
        exact ret_1 rfl
    ·
      replace h := eR h
      refine avc_tail (e := .ret) (S2 := ⟨[(2, .d (db y1))], []⟩) ?_ ?_
      ·
        refine avc_loopM (fun x => ⟨[(1, .d (.pt (eProperty.cells a0))), (3, .d (di x))], []⟩) hy1 (weak_cov ⟨rfl, rfl, trivial⟩ trivial) ?_
        rintro v3 sy1 hsy1
        replace hsy1 : ref10_Valid_L0 a0 v3 = some sy1 := hsy1
        unfold ref10_Valid_L0 at hsy1
        refine avc_sq2 ?_
        refine avc_sq2 ?_
        refine avc_sq ?_
        refine sqa (a_move_d (lq rfl) rfl) ?_
        refine sqa (m_fieldPt (lq rfl) L25_1 rfl) ?_
        refine sqa (a_load_ip (lq rfl) O23 rfl rfl) ?_
        refine sqa (m_len (en := eSpan) (l := a0.Spans) (lq rfl) S23 rfl) ?_
        refine sqa (a_lss (lq rfl) rfl rfl) ?_
        refine sq_nil ?_
        refine avc_if rfl ⟨fun c2 => ?_, fun c2 => ?_⟩
        · replace hsy1 := cT c2 hsy1
          refine avc_skip ?_
          refine avc_sq2 ?_
          refine avc_block ?_
          refine avc_sq2 ?_
          refine avc_sq ?_
          refine sqa (m_fieldPt (lq rfl) L25_1 rfl) ?_
          refine sqa (a_load_ip (lq rfl) O23 rfl rfl) ?_
          refine sqa (a_move_d (lq rfl) rfl) ?_
          obtain ⟨t19, ht19, hsy1'⟩ := bE hsy1; clear hsy1
          refine sqa (m_index (en := eSpan) (lq rfl) S23 rfl rfl ht19) ?_
          refine sqa (m_loadEA (en := eSpan) (l := a0.Spans) (i := v3) (v := t19) (off := 0) (lq rfl) G45 rfl ht19 rfl rfl (by decide)) ?_
          refine sq_b rfl (step_alloc (zs := [(.int IntKind.i64 (0)), (.int IntKind.i64 (0)), (.int IntKind.i64 (0))]) (lq rfl) (by kernel_rfl) rfl rfl) ?_
          refine sq_b rfl (s_store_boxA G45 rfl rfl rfl rfl rfl rfl) ?_
          refine sq_nil ?_
          refine avc_weak (weak_freeze (t := 4) (lq rfl) rfl rfl rfl) ?_
          refine avc_sq2 ?_
          refine avc_sq2 ?_
          refine avc_sq ?_
          refine sqa (m_fieldPt (lq rfl) L45_0 rfl) ?_
          refine sqa (a_load_ip (lq rfl) O3 rfl rfl) ?_
          refine sqa (a_lss (lq rfl) rfl rfl) ?_
          obtain ⟨b24, hb24, hsy1⟩ := bE hsy1'; clear hsy1'
          refine sqa ((a_move_d (lq rfl) rfl).bool (Option.some.inj hb24)) ?_
          refine sq_g (x := .ip (eSpan.cells t19) (0 + 0)) rfl rfl rfl (lq rfl) (lq rfl) rfl (fun hb => by obtain rfl := gF hb; exact m_fieldPt (lq rfl) L45_0 rfl) ?_
          refine sq_g (x := .d (di t19.Lo)) rfl rfl rfl (lq rfl) (lq rfl) rfl (fun hb => by obtain rfl := gF hb; exact a_load_ip (lq rfl) O3 rfl rfl) ?_
          refine sq_g (x := .ip (eSpan.cells t19) (0 + 1)) rfl rfl rfl (lq rfl) (lq rfl) rfl (fun hb => by obtain rfl := gF hb; exact m_fieldPt (lq rfl) L45_1 rfl) ?_
          refine sq_g (x := .d (di t19.Hi)) rfl rfl rfl (lq rfl) (lq rfl) rfl (fun hb => by obtain rfl := gF hb; exact a_load_ip (lq rfl) O3 rfl rfl) ?_
          refine sq_g (x := .d (db (decide (t19.Hi < t19.Lo)))) rfl rfl rfl (lq rfl) (lq rfl) rfl (fun hb => by obtain rfl := gF hb; exact a_gtr (lq rfl) rfl rfl) ?_
          refine sqa (a_pick_or (lq rfl) rfl rfl) ?_
          obtain ⟨b31, hb31, hsy1'⟩ := bE hsy1; clear hsy1
          refine sqa ((a_move_d (lq rfl) rfl).bool (Option.some.inj hb31)) ?_
          refine sq_g (x := .ip (eSpan.cells t19) (0 + 1)) rfl rfl rfl (lq rfl) (lq rfl) rfl (fun hb => by obtain rfl := gF hb; exact m_fieldPt (lq rfl) L45_1 rfl) ?_
          refine sq_g (x := .d (di t19.Hi)) rfl rfl rfl (lq rfl) (lq rfl) rfl (fun hb => by obtain rfl := gF hb; exact a_load_ip (lq rfl) O3 rfl rfl) ?_
          refine sq_g (x := .d (db (decide (1114111 < t19.Hi)))) rfl rfl rfl (lq rfl) (lq rfl) rfl (fun hb => by obtain rfl := gF hb; exact a_gtr (lq rfl) rfl rfl) ?_
          refine sqa (a_pick_or (lq rfl) rfl rfl) ?_
          obtain ⟨b36, hb36, hsy1⟩ := bE hsy1'; clear hsy1'
          refine sqa ((a_move_d (lq rfl) rfl).bool (Option.some.inj hb36)) ?_
          refine sq_g (x := .ip (eSpan.cells t19) (0 + 2)) rfl rfl rfl (lq rfl) (lq rfl) rfl (fun hb => by obtain rfl := gF hb; exact m_fieldPt (lq rfl) L45_2 rfl) ?_
          refine sq_g (x := .d (di t19.Value)) rfl rfl rfl (lq rfl) (lq rfl) rfl (fun hb => by obtain rfl := gF hb; exact a_load_ip (lq rfl) O3 rfl rfl) ?_
          refine sq_g (x := .d (db (decide (t19.Value < 1)))) rfl rfl rfl (lq rfl) (lq rfl) rfl (fun hb => by obtain rfl := gF hb; exact a_lss (lq rfl) rfl rfl) ?_
          refine sqa (a_pick_or (lq rfl) rfl rfl) ?_
          obtain ⟨b41, hb41, hsy1'⟩ := bE hsy1; clear hsy1
          refine sqa ((a_move_d (lq rfl) rfl).bool (Option.some.inj hb41)) ?_
          refine sq_g (x := .ip (eSpan.cells t19) (0 + 2)) rfl rfl rfl (lq rfl) (lq rfl) rfl (fun hb => by obtain rfl := gF hb; exact m_fieldPt (lq rfl) L45_2 rfl) ?_
          refine sq_g (x := .d (di t19.Value)) rfl rfl rfl (lq rfl) (lq rfl) rfl (fun hb => by obtain rfl := gF hb; exact a_load_ip (lq rfl) O3 rfl rfl) ?_
          refine sq_g (x := .ip (eProperty.cells a0) (0 + 0)) rfl rfl rfl (lq rfl) (lq rfl) rfl (fun hb => by obtain rfl := gF hb; exact m_fieldPt (lq rfl) L25_0 rfl) ?_
          refine sq_g (x := .d (dsl eS a0.Names)) rfl rfl rfl (lq rfl) (lq rfl) rfl (fun hb => by obtain rfl := gF hb; exact a_load_ip (lq rfl) O22 rfl rfl) ?_
          refine sq_g (x := .d (di (a0.Names.length : Int))) rfl rfl rfl (lq rfl) (lq rfl) rfl (fun hb => by obtain rfl := gF hb; exact m_len (en := eS) (l := a0.Names) (lq rfl) S22 rfl) ?_
          refine sq_g (x := .d (db (decide ((a0.Names.length : Int) ≤ t19.Value)))) rfl rfl rfl (lq rfl) (lq rfl) rfl (fun hb => by obtain rfl := gF hb; exact a_geq (lq rfl) rfl rfl) ?_
          refine sqa (a_pick_or (lq rfl) rfl rfl) ?_
          refine sq_nil ?_
          refine avc_if rfl ⟨fun c3 => ?_, fun c3 => ?_⟩
          · replace hsy1' := cT c3 hsy1'
            refine avc_sq2 ?_
            refine avc_sq ?_
            refine sqa (a_assign_d (lq rfl) rfl) ?_
            refine sq_nil ?_
            refine avc_ret ?_
            cases hsy1'
            intro q; cases q
            exact out_mk (weak_cov ⟨rfl, trivial⟩ trivial)
          · replace hsy1' := cF c3 hsy1'
            refine avc_skip ?_
            refine avc_sq2 ?_
            refine avc_drawA MX rfl ?_
            refine daa (a_move_d (lq rfl) rfl) ?_
            refine daa (a_gtr (lq rfl) rfl rfl) ?_
            obtain ⟨b51, hb51, hsy1⟩ := bE hsy1'; clear hsy1'
            refine daa ((a_move_d (lq rfl) rfl).bool (Option.some.inj hb51)) ?_
            refine da_g (x := .ip (eSpan.cells t19) (0 + 0)) rfl rfl rfl (lq rfl) (lq rfl) rfl (fun hb => by obtain rfl : b51 = true := hb; exact m_fieldPt (lq rfl) L45_0 rfl) ?_
            refine da_g (x := .d (di t19.Lo)) rfl rfl rfl (lq rfl) (lq rfl) rfl (fun hb => by obtain rfl : b51 = true := hb; exact a_load_ip (lq rfl) O3 rfl rfl) ?_
            refine da_g (x := .ip (eProperty.cells a0) (0 + 1)) rfl rfl rfl (lq rfl) (lq rfl) rfl (fun hb => by obtain rfl : b51 = true := hb; exact m_fieldPt (lq rfl) L25_1 rfl) ?_
            refine da_g (x := .d (dsl eSpan a0.Spans)) rfl rfl rfl (lq rfl) (lq rfl) rfl (fun hb => by obtain rfl : b51 = true := hb; exact a_load_ip (lq rfl) O23 rfl rfl) ?_
            refine da_g (x := .d (di v3)) rfl rfl rfl (lq rfl) (lq rfl) rfl (fun hb => by obtain rfl : b51 = true := hb; exact a_move_d (lq rfl) rfl) ?_
            refine da_g (x := .d (di (wi (v3 - 1)))) rfl rfl rfl (lq rfl) (lq rfl) rfl (fun hb => by obtain rfl : b51 = true := hb; exact m_sub (lq rfl) rfl rfl) ?_
            obtain ⟨t58, ht58, hsy1'⟩ := bE hsy1; clear hsy1
            refine da_g (x := .ip (eSpan.all a0.Spans) ((wi (v3 - 1)).toNat * eSpan.size)) rfl rfl rfl (lq rfl) (lq rfl) rfl (fun hb => by obtain rfl : b51 = true := hb; exact m_index (en := eSpan) (lq rfl) S23 rfl rfl ht58) ?_
            refine da_g (x := .ip (eSpan.all a0.Spans) ((wi (v3 - 1)).toNat * eSpan.size + 1)) rfl rfl rfl (lq rfl) (lq rfl) rfl (fun hb => by obtain rfl : b51 = true := hb; exact a_fieldAddr_ip (lq rfl) L45_1 rfl) ?_
            refine da_g (x := .d (di t58.Hi)) rfl rfl rfl (lq rfl) (lq rfl) rfl (fun hb => by obtain rfl : b51 = true := hb; exact m_loadE (en := eSpan) (l := a0.Spans) (i := (wi (v3 - 1))) (v := t58) (off := 1) (lq rfl) O3 rfl ht58 rfl) ?_
            refine da_g (x := .d (db (decide (t19.Lo ≤ t58.Hi)))) rfl rfl rfl (lq rfl) (lq rfl) rfl (fun hb => by obtain rfl : b51 = true := hb; exact a_leq (lq rfl) rfl rfl) ?_
            obtain ⟨b62, hb62, hsy1⟩ := bE hsy1'; clear hsy1'
            refine da_g (x := .d (db b62)) rfl rfl rfl (lq rfl) (lq rfl) rfl (fun hb => by obtain rfl : b51 = true := hb; exact (a_move_d (lq rfl) rfl).bool (Option.some.inj hb62)) ?_
            refine da_g2 (x := .ip (eSpan.cells t19) (0 + 0)) rfl rfl rfl (lq rfl) (lq rfl) rfl (fun hb => by obtain ⟨hb, hb1⟩ := and_split hb; obtain rfl : b51 = true := hb; obtain rfl := gF hb1; exact m_fieldPt (lq rfl) L45_0 rfl) ?_
            refine da_g2 (x := .d (di t19.Lo)) rfl rfl rfl (lq rfl) (lq rfl) rfl (fun hb => by obtain ⟨hb, hb1⟩ := and_split hb; obtain rfl : b51 = true := hb; obtain rfl := gF hb1; exact a_load_ip (lq rfl) O3 rfl rfl) ?_
            refine da_g2 (x := .ip (eProperty.cells a0) (0 + 1)) rfl rfl rfl (lq rfl) (lq rfl) rfl (fun hb => by obtain ⟨hb, hb1⟩ := and_split hb; obtain rfl : b51 = true := hb; obtain rfl := gF hb1; exact m_fieldPt (lq rfl) L25_1 rfl) ?_
            refine da_g2 (x := .d (dsl eSpan a0.Spans)) rfl rfl rfl (lq rfl) (lq rfl) rfl (fun hb => by obtain ⟨hb, hb1⟩ := and_split hb; obtain rfl : b51 = true := hb; obtain rfl := gF hb1; exact a_load_ip (lq rfl) O23 rfl rfl) ?_
            refine da_g2 (x := .d (di v3)) rfl rfl rfl (lq rfl) (lq rfl) rfl (fun hb => by obtain ⟨hb, hb1⟩ := and_split hb; obtain rfl : b51 = true := hb; obtain rfl := gF hb1; exact a_move_d (lq rfl) rfl) ?_
            refine da_g2 (x := .d (di (wi (v3 - 1)))) rfl rfl rfl (lq rfl) (lq rfl) rfl (fun hb => by obtain ⟨hb, hb1⟩ := and_split hb; obtain rfl : b51 = true := hb; obtain rfl := gF hb1; exact m_sub (lq rfl) rfl rfl) ?_
            obtain ⟨t69, ht69, hsy1'⟩ := bE hsy1; clear hsy1
            refine da_g2 (x := .ip (eSpan.all a0.Spans) ((wi (v3 - 1)).toNat * eSpan.size)) rfl rfl rfl (lq rfl) (lq rfl) rfl (fun hb => by obtain ⟨hb, hb1⟩ := and_split hb; obtain rfl : b51 = true := hb; obtain rfl := gF hb1; exact m_index (en := eSpan) (lq rfl) S23 rfl rfl ht69) ?_
            refine da_g2 (x := .ip (eSpan.all a0.Spans) ((wi (v3 - 1)).toNat * eSpan.size + 1)) rfl rfl rfl (lq rfl) (lq rfl) rfl (fun hb => by obtain ⟨hb, hb1⟩ := and_split hb; obtain rfl : b51 = true := hb; obtain rfl := gF hb1; exact a_fieldAddr_ip (lq rfl) L45_1 rfl) ?_
            refine da_g2 (x := .d (di t69.Hi)) rfl rfl rfl (lq rfl) (lq rfl) rfl (fun hb => by obtain ⟨hb, hb1⟩ := and_split hb; obtain rfl : b51 = true := hb; obtain rfl := gF hb1; exact m_loadE (en := eSpan) (l := a0.Spans) (i := (wi (v3 - 1))) (v := t69) (off := 1) (lq rfl) O3 rfl ht69 rfl) ?_
            refine da_g2 (x := .d (di (wi (t69.Hi + 1)))) rfl rfl rfl (lq rfl) (lq rfl) rfl (fun hb => by obtain ⟨hb, hb1⟩ := and_split hb; obtain rfl : b51 = true := hb; obtain rfl := gF hb1; exact m_add (lq rfl) rfl rfl) ?_
            refine da_g2 (x := .d (db (decide (t19.Lo = (wi (t69.Hi + 1)))))) rfl rfl rfl (lq rfl) (lq rfl) rfl (fun hb => by obtain ⟨hb, hb1⟩ := and_split hb; obtain rfl : b51 = true := hb; obtain rfl := gF hb1; exact a_eql (lq rfl) rfl rfl) ?_
            obtain ⟨b74, hb74, hsy1⟩ := bE hsy1'; clear hsy1'
            refine da_g2 (x := .d (db b74)) rfl rfl rfl (lq rfl) (lq rfl) rfl (fun hb => by obtain ⟨hb, hb1⟩ := and_split hb; obtain rfl : b51 = true := hb; obtain rfl := gF hb1; exact (a_move_d (lq rfl) rfl).bool (Option.some.inj hb74)) ?_
            refine da_g2 (x := .ip (eSpan.cells t19) (0 + 2)) rfl rfl rfl (lq rfl) (lq rfl) rfl (fun hb => by obtain ⟨hb, hb2⟩ := and_split hb; obtain ⟨hb, hb1⟩ := and_split hb; obtain rfl : b51 = true := hb; obtain rfl := gF hb1; obtain rfl : b74 = true := hb2; exact m_fieldPt (lq rfl) L45_2 rfl) ?_
            refine da_g2 (x := .d (di t19.Value)) rfl rfl rfl (lq rfl) (lq rfl) rfl (fun hb => by obtain ⟨hb, hb2⟩ := and_split hb; obtain ⟨hb, hb1⟩ := and_split hb; obtain rfl : b51 = true := hb; obtain rfl := gF hb1; obtain rfl : b74 = true := hb2; exact a_load_ip (lq rfl) O3 rfl rfl) ?_
            refine da_g2 (x := .ip (eProperty.cells a0) (0 + 1)) rfl rfl rfl (lq rfl) (lq rfl) rfl (fun hb => by obtain ⟨hb, hb2⟩ := and_split hb; obtain ⟨hb, hb1⟩ := and_split hb; obtain rfl : b51 = true := hb; obtain rfl := gF hb1; obtain rfl : b74 = true := hb2; exact m_fieldPt (lq rfl) L25_1 rfl) ?_
            refine da_g2 (x := .d (dsl eSpan a0.Spans)) rfl rfl rfl (lq rfl) (lq rfl) rfl (fun hb => by obtain ⟨hb, hb2⟩ := and_split hb; obtain ⟨hb, hb1⟩ := and_split hb; obtain rfl : b51 = true := hb; obtain rfl := gF hb1; obtain rfl : b74 = true := hb2; exact a_load_ip (lq rfl) O23 rfl rfl) ?_
            refine da_g2 (x := .d (di v3)) rfl rfl rfl (lq rfl) (lq rfl) rfl (fun hb => by obtain ⟨hb, hb2⟩ := and_split hb; obtain ⟨hb, hb1⟩ := and_split hb; obtain rfl : b51 = true := hb; obtain rfl := gF hb1; obtain rfl : b74 = true := hb2; exact a_move_d (lq rfl) rfl) ?_
            refine da_g2 (x := .d (di (wi (v3 - 1)))) rfl rfl rfl (lq rfl) (lq rfl) rfl (fun hb => by obtain ⟨hb, hb2⟩ := and_split hb; obtain ⟨hb, hb1⟩ := and_split hb; obtain rfl : b51 = true := hb; obtain rfl := gF hb1; obtain rfl : b74 = true := hb2; exact m_sub (lq rfl) rfl rfl) ?_
            obtain ⟨t81, ht81, hsy1'⟩ := bE hsy1; clear hsy1
            refine da_g2 (x := .ip (eSpan.all a0.Spans) ((wi (v3 - 1)).toNat * eSpan.size)) rfl rfl rfl (lq rfl) (lq rfl) rfl (fun hb => by obtain ⟨hb, hb2⟩ := and_split hb; obtain ⟨hb, hb1⟩ := and_split hb; obtain rfl : b51 = true := hb; obtain rfl := gF hb1; obtain rfl : b74 = true := hb2; exact m_index (en := eSpan) (lq rfl) S23 rfl rfl ht81) ?_
            refine da_g2 (x := .ip (eSpan.all a0.Spans) ((wi (v3 - 1)).toNat * eSpan.size + 2)) rfl rfl rfl (lq rfl) (lq rfl) rfl (fun hb => by obtain ⟨hb, hb2⟩ := and_split hb; obtain ⟨hb, hb1⟩ := and_split hb; obtain rfl : b51 = true := hb; obtain rfl := gF hb1; obtain rfl : b74 = true := hb2; exact a_fieldAddr_ip (lq rfl) L45_2 rfl) ?_
            refine da_g2 (x := .d (di t81.Value)) rfl rfl rfl (lq rfl) (lq rfl) rfl (fun hb => by obtain ⟨hb, hb2⟩ := and_split hb; obtain ⟨hb, hb1⟩ := and_split hb; obtain rfl : b51 = true := hb; obtain rfl := gF hb1; obtain rfl : b74 = true := hb2; exact m_loadE (en := eSpan) (l := a0.Spans) (i := (wi (v3 - 1))) (v := t81) (off := 2) (lq rfl) O3 rfl ht81 rfl) ?_
            refine da_g2 (x := .d (db (decide (t19.Value = t81.Value)))) rfl rfl rfl (lq rfl) (lq rfl) rfl (fun hb => by obtain ⟨hb, hb2⟩ := and_split hb; obtain ⟨hb, hb1⟩ := and_split hb; obtain rfl : b51 = true := hb; obtain rfl := gF hb1; obtain rfl : b74 = true := hb2; exact a_eql (lq rfl) rfl rfl) ?_
            refine da_g2 (x := .d (db (b74 && (decide (t19.Value = t81.Value))))) rfl rfl rfl (lq rfl) (lq rfl) rfl (fun hb => by obtain ⟨hb, hb1⟩ := and_split hb; obtain rfl : b51 = true := hb; obtain rfl := gF hb1; exact a_pick_and (lq rfl) rfl rfl) ?_
            refine da_g (x := .d (db (b62 || (b74 && (decide (t19.Value = t81.Value)))))) rfl rfl rfl (lq rfl) (lq rfl) rfl (fun hb => by obtain rfl : b51 = true := hb; exact a_pick_or (lq rfl) rfl rfl) ?_
            refine daa (a_pick_and (lq rfl) rfl rfl) ?_
            refine da_nil ?_
            refine avc_if rfl ⟨fun c4 => ?_, fun c4 => ?_⟩
            · replace hsy1' := cT c4 hsy1'
              refine avc_sq2 ?_
              refine avc_sq ?_
              refine sqa (a_assign_d (lq rfl) rfl) ?_
              refine sq_nil ?_
              refine avc_ret ?_
              cases hsy1'
              intro q; cases q
              exact out_mk (weak_cov ⟨rfl, trivial⟩ trivial)
            · replace hsy1' := cF c4 hsy1'
              refine avc_skip ?_
              refine avc_sq ?_
              refine sqa (a_move_d (lq rfl) rfl) ?_
              refine sqa (m_add (lq rfl) rfl rfl) ?_
              refine sqa (a_assign_d (lq rfl) rfl) ?_
              refine sq_nil ?_
              cases hsy1'
              exact weak_cov ⟨rfl, rfl, trivial⟩ trivial
        · replace hsy1 := cF c2 hsy1
          refine avc_exit ?_
          cases hsy1
          intro q; cases q
      ·
        cases h
        exact ret_1 rfl

theorem ref10_Counted_c  {a0 : Property}  {r : Property} (h : ref10_Counted a0 = some r) : Contract Try.prog 40 [(eProperty.dv a0)] [(eProperty.dv r)] := by
  refine contract_of Try.func40 (by kernel_rfl) rfl (lq rfl) (lq rfl) fun w0 I0 => ?_
  unfold ref10_Counted at h
  refine avc_sq2 ?_
  refine avc_sq ?_
  refine sqa (m_box (size := 2) (lq rfl) rfl rfl) ?_
  refine sq_b rfl (step_alloc (zs := [(.slice none 0 0), (.slice none 0 0)]) (lq rfl) (by kernel_rfl) rfl rfl) ?_
  refine sq_nil ?_
  refine avc_sq2 ?_
  refine avc_sq2 ?_
  refine avc_sq ?_
  refine sqa (m_loadPt (lq rfl) G25 rfl rfl) ?_
  obtain ⟨t4, ht4, h'⟩ := bE h; clear h
  refine sqa (a_call (lq rfl) rfl (ref10_Valid_c ht4)) ?_
  refine sqa (a_not (lq rfl) rfl) ?_
  refine sq_nil ?_
  refine avc_if rfl ⟨fun c1 => ?_, fun c1 => ?_⟩
  · replace h' := cT c1 h'
    refine avc_sq2 ?_
    refine avc_sq ?_
    refine sqa (a_lit (lq rfl) S22 rfl rfl rfl rfl (by decide) rfl) ?_
    refine sqa ((m_build (lq rfl) B25 rfl rfl).nils (bs := eProperty.cells ({ Names := [[79, 116, 104, 101, 114]], Spans := [] } : Property)) (nlE (nlN nl0))) ?_
    refine sq_b rfl (s_store_boxA G25 rfl rfl rfl rfl rfl rfl) ?_
    refine sq_nil ?_
    cases h'
    refine avc_ret ?_
    exact ret_cellA rfl rfl G25 rfl
  · replace h' := cF c1 h'
    refine avc_skip ?_
    refine avc_sq2 ?_
    refine avc_sq ?_
    refine sqa (m_loadPt (lq rfl) G25 rfl rfl) ?_
    refine sq_b rfl (s_store_boxA G25 rfl rfl rfl rfl rfl rfl) ?_
    refine sq_nil ?_
    cases h'
    refine avc_ret ?_
    exact ret_cellA rfl rfl G25 rfl

theorem ref10_Get_c  {a0 : Property} {a1 : Int}  {r : Int} (h : ref10_Get a0 a1 = some r) : Contract Try.prog 41 [(eProperty.dv a0), (di a1)] [(di r)] := by
  refine contract_of Try.func41 (by kernel_rfl) rfl (lq rfl) (lq rfl) fun w0 I0 => ?_
  unfold ref10_Get at h
  refine avc_sq2 ?_
  refine avc_sq ?_
  refine sqa (m_box (size := 2) (lq rfl) rfl rfl) ?_
  refine sqa (a_assign_d (lq rfl) rfl) ?_
  refine sq_nil ?_
  refine avc_sq2 ?_
  refine avc_sq ?_
  refine sqa (m_loadPt (lq rfl) G25 rfl rfl) ?_
  obtain ⟨t8, ht8, h'⟩ := bE h; clear h
  refine sqa (a_call (lq rfl) rfl (ref10_Counted_c ht8)) ?_
  refine sq_b rfl (step_alloc (zs := [(.slice none 0 0), (.slice none 0 0)]) (lq rfl) (by kernel_rfl) rfl rfl) ?_
  refine sq_b rfl (s_store_boxA G25 rfl rfl rfl rfl rfl rfl) ?_
  refine sq_nil ?_
  refine avc_weak (weak_freeze (t := 5) (lq rfl) rfl rfl rfl) ?_
  refine avc_sq2 ?_
  refine avc_sq2 ?_
  refine avc_sq ?_
  refine sqa (a_assign_d (lq rfl) rfl) ?_
  refine sq_nil ?_
  refine avc_block ?_
  obtain ⟨y1, hy1, h⟩ := bE h'; clear h'
  rcases y1 with y1 | y1
  ·
    replace h := eL h
    refine avc_tail (e := .exit 0) (S2 := ⟨[], []⟩) ?_ ?_
    ·
      refine avc_loopM (fun x => ⟨[(1, .d (di a1)), (5, .d (.pt (eProperty.cells t8))), (6, .d (di x))], []⟩) hy1 (weak_cov ⟨rfl, rfl, rfl, trivial⟩ trivial) ?_
      rintro v6 sy1 hsy1
      replace hsy1 : ref10_Get_L0 t8 a1 v6 = some sy1 := hsy1
      unfold ref10_Get_L0 at hsy1
      refine avc_sq2 ?_
      refine avc_sq2 ?_
      refine avc_sq ?_
      refine sqa (a_move_d (lq rfl) rfl) ?_
      refine sqa (m_fieldPt (lq rfl) L25_1 rfl) ?_
      refine sqa (a_load_ip (lq rfl) O23 rfl rfl) ?_
      refine sqa (m_len (en := eSpan) (l := t8.Spans) (lq rfl) S23 rfl) ?_
      refine sqa (a_lss (lq rfl) rfl rfl) ?_
      refine sq_nil ?_
      refine avc_if rfl ⟨fun c1 => ?_, fun c1 => ?_⟩
      · replace hsy1 := cT c1 hsy1
        refine avc_skip ?_
        refine avc_sq2 ?_
        refine avc_block ?_
        refine avc_sq2 ?_
        refine avc_sq ?_
        refine sqa (a_move_d (lq rfl) rfl) ?_
        refine sqa (m_fieldPt (lq rfl) L25_1 rfl) ?_
        refine sqa (a_load_ip (lq rfl) O23 rfl rfl) ?_
        refine sqa (a_move_d (lq rfl) rfl) ?_
        obtain ⟨t20, ht20, hsy1'⟩ := bE hsy1; clear hsy1
        refine sqa (m_index (en := eSpan) (lq rfl) S23 rfl rfl ht20) ?_
        refine sqa (a_fieldAddr_ip (lq rfl) L45_0 rfl) ?_
        refine sqa (m_loadE (en := eSpan) (l := t8.Spans) (i := v6) (v := t20) (off := 0) (lq rfl) O3 rfl ht20 rfl) ?_
        refine sqa (a_geq (lq rfl) rfl rfl) ?_
        obtain ⟨b24, hb24, hsy1⟩ := bE hsy1'; clear hsy1'
        refine sqa ((a_move_d (lq rfl) rfl).bool (Option.some.inj hb24)) ?_
        refine sq_g (x := .d (di a1)) rfl rfl rfl (lq rfl) (lq rfl) rfl (fun hb => by obtain rfl : b24 = true := hb; exact a_move_d (lq rfl) rfl) ?_
        refine sq_g (x := .ip (eProperty.cells t8) (0 + 1)) rfl rfl rfl (lq rfl) (lq rfl) rfl (fun hb => by obtain rfl : b24 = true := hb; exact m_fieldPt (lq rfl) L25_1 rfl) ?_
        refine sq_g (x := .d (dsl eSpan t8.Spans)) rfl rfl rfl (lq rfl) (lq rfl) rfl (fun hb => by obtain rfl : b24 = true := hb; exact a_load_ip (lq rfl) O23 rfl rfl) ?_
        refine sq_g (x := .d (di v6)) rfl rfl rfl (lq rfl) (lq rfl) rfl (fun hb => by obtain rfl : b24 = true := hb; exact a_move_d (lq rfl) rfl) ?_
        obtain ⟨t29, ht29, hsy1'⟩ := bE hsy1; clear hsy1
        refine sq_g (x := .ip (eSpan.all t8.Spans) (v6.toNat * eSpan.size)) rfl rfl rfl (lq rfl) (lq rfl) rfl (fun hb => by obtain rfl : b24 = true := hb; exact m_index (en := eSpan) (lq rfl) S23 rfl rfl ht29) ?_
        refine sq_g (x := .ip (eSpan.all t8.Spans) (v6.toNat * eSpan.size + 1)) rfl rfl rfl (lq rfl) (lq rfl) rfl (fun hb => by obtain rfl : b24 = true := hb; exact a_fieldAddr_ip (lq rfl) L45_1 rfl) ?_
        refine sq_g (x := .d (di t29.Hi)) rfl rfl rfl (lq rfl) (lq rfl) rfl (fun hb => by obtain rfl : b24 = true := hb; exact m_loadE (en := eSpan) (l := t8.Spans) (i := v6) (v := t29) (off := 1) (lq rfl) O3 rfl ht29 rfl) ?_
        refine sq_g (x := .d (db (decide (a1 ≤ t29.Hi)))) rfl rfl rfl (lq rfl) (lq rfl) rfl (fun hb => by obtain rfl : b24 = true := hb; exact a_leq (lq rfl) rfl rfl) ?_
        refine sqa (a_pick_and (lq rfl) rfl rfl) ?_
        refine sq_nil ?_
        refine avc_if rfl ⟨fun c2 => ?_, fun c2 => ?_⟩
        · replace hsy1' := cT c2 hsy1'
          refine avc_sq2 ?_
          refine avc_sq ?_
          refine sqa (m_fieldPt (lq rfl) L25_1 rfl) ?_
          refine sqa (a_load_ip (lq rfl) O23 rfl rfl) ?_
          refine sqa (a_move_d (lq rfl) rfl) ?_
          obtain ⟨t37, ht37, hsy1⟩ := bE hsy1'; clear hsy1'
          refine sqa (m_index (en := eSpan) (lq rfl) S23 rfl rfl ht37) ?_
          refine sqa (a_fieldAddr_ip (lq rfl) L45_2 rfl) ?_
          refine sqa (m_loadE (en := eSpan) (l := t8.Spans) (i := v6) (v := t37) (off := 2) (lq rfl) O3 rfl ht37 rfl) ?_
          refine sqa (a_assign_d (lq rfl) rfl) ?_
          refine sq_nil ?_
          refine avc_ret ?_
          cases hsy1
          intro q; cases q
        · replace hsy1' := cF c2 hsy1'
          refine avc_skip ?_
          refine avc_sq ?_
          refine sqa (a_move_d (lq rfl) rfl) ?_
          refine sqa (m_add (lq rfl) rfl rfl) ?_
          refine sqa (a_assign_d (lq rfl) rfl) ?_
          refine sq_nil ?_
          cases hsy1'
          exact weak_cov ⟨rfl, rfl, rfl, trivial⟩ trivial
      · replace hsy1 := cF c1 hsy1
        refine avc_exit ?_
        cases hsy1
        intro q; cases q
        exact out_mk (weak_cov trivial trivial)
    ·
      refine avc_sq2 ?_
      refine avc_sq ?_
      refine sqa (a_assign_d (lq rfl) rfl) ?_
      refine sq_nil ?_
      cases h
      refine avc_ret ?_
      exact ret_1 rfl
  ·
    replace h := eR h
    refine avc_tail (e := .ret) (S2 := ⟨[(4, .d (di y1))], []⟩) ?_ ?_
    ·
      refine avc_loopM (fun x => ⟨[(1, .d (di a1)), (5, .d (.pt (eProperty.cells t8))), (6, .d (di x))], []⟩) hy1 (weak_cov ⟨rfl, rfl, rfl, trivial⟩ trivial) ?_
      rintro v6 sy1 hsy1
      replace hsy1 : ref10_Get_L0 t8 a1 v6 = some sy1 := hsy1
      unfold ref10_Get_L0 at hsy1
      refine avc_sq2 ?_
      refine avc_sq2 ?_
      refine avc_sq ?_
      refine sqa (a_move_d (lq rfl) rfl) ?_
      refine sqa (m_fieldPt (lq rfl) L25_1 rfl) ?_
      refine sqa (a_load_ip (lq rfl) O23 rfl rfl) ?_
      refine sqa (m_len (en := eSpan) (l := t8.Spans) (lq rfl) S23 rfl) ?_
      refine sqa (a_lss (lq rfl) rfl rfl) ?_
      refine sq_nil ?_
      refine avc_if rfl ⟨fun c1 => ?_, fun c1 => ?_⟩
      · replace hsy1 := cT c1 hsy1
        refine avc_skip ?_
        refine avc_sq2 ?_
        refine avc_block ?_
        refine avc_sq2 ?_
        refine avc_sq ?_
        refine sqa (a_move_d (lq rfl) rfl) ?_
        refine sqa (m_fieldPt (lq rfl) L25_1 rfl) ?_
        refine sqa (a_load_ip (lq rfl) O23 rfl rfl) ?_
        refine sqa (a_move_d (lq rfl) rfl) ?_
        obtain ⟨t20, ht20, hsy1'⟩ := bE hsy1; clear hsy1
        refine sqa (m_index (en := eSpan) (lq rfl) S23 rfl rfl ht20) ?_
        refine sqa (a_fieldAddr_ip (lq rfl) L45_0 rfl) ?_
        refine sqa (m_loadE (en := eSpan) (l := t8.Spans) (i := v6) (v := t20) (off := 0) (lq rfl) O3 rfl ht20 rfl) ?_
        refine sqa (a_geq (lq rfl) rfl rfl) ?_
        obtain ⟨b24, hb24, hsy1⟩ := bE hsy1'; clear hsy1'
        refine sqa ((a_move_d (lq rfl) rfl).bool (Option.some.inj hb24)) ?_
        refine sq_g (x := .d (di a1)) rfl rfl rfl (lq rfl) (lq rfl) rfl (fun hb => by obtain rfl : b24 = true := hb; exact a_move_d (lq rfl) rfl) ?_
        refine sq_g (x := .ip (eProperty.cells t8) (0 + 1)) rfl rfl rfl (lq rfl) (lq rfl) rfl (fun hb => by obtain rfl : b24 = true := hb; exact m_fieldPt (lq rfl) L25_1 rfl) ?_
        refine sq_g (x := .d (dsl eSpan t8.Spans)) rfl rfl rfl (lq rfl) (lq rfl) rfl (fun hb => by obtain rfl : b24 = true := hb; exact a_load_ip (lq rfl) O23 rfl rfl) ?_
        refine sq_g (x := .d (di v6)) rfl rfl rfl (lq rfl) (lq rfl) rfl (fun hb => by obtain rfl : b24 = true := hb; exact a_move_d (lq rfl) rfl) ?_
        obtain ⟨t29, ht29, hsy1'⟩ := bE hsy1; clear hsy1
        refine sq_g (x := .ip (eSpan.all t8.Spans) (v6.toNat * eSpan.size)) rfl rfl rfl (lq rfl) (lq rfl) rfl (fun hb => by obtain rfl : b24 = true := hb; exact m_index (en := eSpan) (lq rfl) S23 rfl rfl ht29) ?_
        refine sq_g (x := .ip (eSpan.all t8.Spans) (v6.toNat * eSpan.size + 1)) rfl rfl rfl (lq rfl) (lq rfl) rfl (fun hb => by obtain rfl : b24 = true := hb; exact a_fieldAddr_ip (lq rfl) L45_1 rfl) ?_
        refine sq_g (x := .d (di t29.Hi)) rfl rfl rfl (lq rfl) (lq rfl) rfl (fun hb => by obtain rfl : b24 = true := hb; exact m_loadE (en := eSpan) (l := t8.Spans) (i := v6) (v := t29) (off := 1) (lq rfl) O3 rfl ht29 rfl) ?_
        refine sq_g (x := .d (db (decide (a1 ≤ t29.Hi)))) rfl rfl rfl (lq rfl) (lq rfl) rfl (fun hb => by obtain rfl : b24 = true := hb; exact a_leq (lq rfl) rfl rfl) ?_
        refine sqa (a_pick_and (lq rfl) rfl rfl) ?_
        refine sq_nil ?_
        refine avc_if rfl ⟨fun c2 => ?_, fun c2 => ?_⟩
        · replace hsy1' := cT c2 hsy1'
          refine avc_sq2 ?_
          refine avc_sq ?_
          refine sqa (m_fieldPt (lq rfl) L25_1 rfl) ?_
          refine sqa (a_load_ip (lq rfl) O23 rfl rfl) ?_
          refine sqa (a_move_d (lq rfl) rfl) ?_
          obtain ⟨t37, ht37, hsy1⟩ := bE hsy1'; clear hsy1'
          refine sqa (m_index (en := eSpan) (lq rfl) S23 rfl rfl ht37) ?_
          refine sqa (a_fieldAddr_ip (lq rfl) L45_2 rfl) ?_
          refine sqa (m_loadE (en := eSpan) (l := t8.Spans) (i := v6) (v := t37) (off := 2) (lq rfl) O3 rfl ht37 rfl) ?_
          refine sqa (a_assign_d (lq rfl) rfl) ?_
          refine sq_nil ?_
          refine avc_ret ?_
          cases hsy1
          intro q; cases q
          exact out_mk (weak_cov ⟨rfl, trivial⟩ trivial)
        · replace hsy1' := cF c2 hsy1'
          refine avc_skip ?_
          refine avc_sq ?_
          refine sqa (a_move_d (lq rfl) rfl) ?_
          refine sqa (m_add (lq rfl) rfl rfl) ?_
          refine sqa (a_assign_d (lq rfl) rfl) ?_
          refine sq_nil ?_
          cases hsy1'
          exact weak_cov ⟨rfl, rfl, rfl, trivial⟩ trivial
      · replace hsy1 := cF c1 hsy1
        refine avc_exit ?_
        cases hsy1
        intro q; cases q
    ·
      cases h
      exact ret_1 rfl

theorem ref10_Name_c  {a0 : Property} {a1 : Int}  {r : Str} (h : ref10_Name a0 a1 = some r) : Contract Try.prog 23 [(eProperty.dv a0), (di a1)] [(ds r)] := by
  refine contract_of Try.func23 (by kernel_rfl) rfl (lq rfl) (lq rfl) fun w0 I0 => ?_
  unfold ref10_Name at h
  refine avc_sq2 ?_
  refine avc_sq ?_
  refine sqa (m_box (size := 2) (lq rfl) rfl rfl) ?_
  refine sqa (a_assign_d (lq rfl) rfl) ?_
  refine sq_nil ?_
  refine avc_sq2 ?_
  refine avc_drawA MX rfl ?_
  refine daa (m_loadPt (lq rfl) G25 rfl rfl) ?_
  obtain ⟨t6, ht6, h'⟩ := bE h; clear h
  refine daa (a_call (lq rfl) rfl (ref10_Counted_c ht6)) ?_
  refine daa (a_field (lq rfl) L25_0 O22 rfl rfl) ?_
  refine daa (m_loadPt (lq rfl) G25 rfl rfl) ?_
  refine daa (a_move_d (lq rfl) rfl) ?_
  obtain ⟨t10, ht10, h⟩ := bE h'; clear h'
  refine daa (a_call (lq rfl) rfl (ref10_Get_c ht10)) ?_
  obtain ⟨t11, ht11, h'⟩ := bE h; clear h
  refine daa (m_index (en := eS) (lq rfl) S22 rfl rfl ht11) ?_
  refine daa (m_loadE (en := eS) (l := t6.Names) (i := t10) (v := t11) (off := 0) (lq rfl) O9 rfl ht11 rfl) ?_
  refine daa (a_assign_d (lq rfl) rfl) ?_
  refine da_nil ?_
  cases h'
  refine avc_ret ?_
  exact ret_1 rfl

theorem ref40_Real_c  {a0 : Str}  {r : Bool} (h : ref40_Real a0 = some r) : Contract Try.prog 22 [(ds a0)] [(db r)] := by
  refine contract_of Try.func22 (by kernel_rfl) rfl (lq rfl) (lq rfl) fun w0 I0 => ?_
  unfold ref40_Real at h
  refine avc_sq2 ?_
  refine avc_sq ?_
  refine sqa (a_assign_d (lq rfl) rfl) ?_
  refine sq_nil ?_
  refine avc_sq2 ?_
  refine avc_sq ?_
  refine sqa (a_move_d (lq rfl) rfl) ?_
  refine sqa (m_sneq (a := a0) (b := [67, 111, 109, 109, 111, 110]) (lq rfl) rfl rfl) ?_
  obtain ⟨b5, hb5, h'⟩ := bE h; clear h
  refine sqa ((a_move_d (lq rfl) rfl).bool (Option.some.inj hb5)) ?_
  refine sq_g (x := .d (ds a0)) rfl rfl rfl (lq rfl) (lq rfl) rfl (fun hb => by obtain rfl : b5 = true := hb; exact a_move_d (lq rfl) rfl) ?_
  refine sq_g (x := .d (db (!(a0 == [73, 110, 104, 101, 114, 105, 116, 101, 100])))) rfl rfl rfl (lq rfl) (lq rfl) rfl (fun hb => by obtain rfl : b5 = true := hb; exact m_sneq (a := a0) (b := [73, 110, 104, 101, 114, 105, 116, 101, 100]) (lq rfl) rfl rfl) ?_
  refine sqa (a_pick_and (lq rfl) rfl rfl) ?_
  obtain ⟨b9, hb9, h⟩ := bE h'; clear h'
  refine sqa ((a_move_d (lq rfl) rfl).bool (Option.some.inj hb9)) ?_
  refine sq_g (x := .d (ds a0)) rfl rfl rfl (lq rfl) (lq rfl) rfl (fun hb => by obtain rfl : b9 = true := hb; exact a_move_d (lq rfl) rfl) ?_
  refine sq_g (x := .d (db (!(a0 == [79, 116, 104, 101, 114])))) rfl rfl rfl (lq rfl) (lq rfl) rfl (fun hb => by obtain rfl : b9 = true := hb; exact m_sneq (a := a0) (b := [79, 116, 104, 101, 114]) (lq rfl) rfl rfl) ?_
  refine sqa (a_pick_and (lq rfl) rfl rfl) ?_
  refine sqa (a_assign_d (lq rfl) rfl) ?_
  refine sq_nil ?_
  cases h
  refine avc_ret ?_
  exact ret_1 rfl

theorem ref40_Has_c  {a0 : (List Str)} {a1 : Str}  {r : Bool} (h : ref40_Has a0 a1 = some r) : Contract Try.prog 24 [(dsl eS a0), (ds a1)] [(db r)] := by
  refine contract_of Try.func24 (by kernel_rfl) rfl (lq rfl) (lq rfl) fun w0 I0 => ?_
  unfold ref40_Has at h
  refine avc_sq2 ?_
  refine avc_sq ?_
  refine sqa (a_assign_d (lq rfl) rfl) ?_
  refine sq_nil ?_
  refine avc_sq2 ?_
  refine avc_sq2 ?_
  refine avc_sq ?_
  refine sqa (a_assign_d (lq rfl) rfl) ?_
  refine sq_nil ?_
  refine avc_block ?_
  obtain ⟨y1, hy1, h'⟩ := bE h; clear h
  rcases y1 with y1 | y1
  ·
    replace h' := eL h'
    refine avc_tail (e := .exit 0) (S2 := ⟨[], []⟩) ?_ ?_
    ·
      refine avc_loopM (fun x => ⟨[(0, .d (dsl eS a0)), (1, .d (ds a1)), (5, .d (di x))], []⟩) hy1 (weak_cov ⟨rfl, rfl, rfl, trivial⟩ trivial) ?_
      rintro v5 sy1 hsy1
      replace hsy1 : ref40_Has_L0 a0 a1 v5 = some sy1 := hsy1
      unfold ref40_Has_L0 at hsy1
      refine avc_sq2 ?_
      refine avc_sq2 ?_
      refine avc_sq ?_
      refine sqa (a_move_d (lq rfl) rfl) ?_
      refine sqa (a_move_d (lq rfl) rfl) ?_
      refine sqa (m_len (en := eS) (l := a0) (lq rfl) S22 rfl) ?_
      refine sqa (a_lss (lq rfl) rfl rfl) ?_
      refine sq_nil ?_
      refine avc_if rfl ⟨fun c1 => ?_, fun c1 => ?_⟩
      · replace hsy1 := cT c1 hsy1
        refine avc_skip ?_
        refine avc_sq2 ?_
        refine avc_block ?_
        refine avc_sq2 ?_
        refine avc_sq ?_
        refine sqa (a_move_d (lq rfl) rfl) ?_
        refine sqa (a_move_d (lq rfl) rfl) ?_
        obtain ⟨t14, ht14, hsy1'⟩ := bE hsy1; clear hsy1
        refine sqa (m_index (en := eS) (lq rfl) S22 rfl rfl ht14) ?_
        refine sqa (m_loadE (en := eS) (l := a0) (i := v5) (v := t14) (off := 0) (lq rfl) O9 rfl ht14 rfl) ?_
        refine sqa (a_move_d (lq rfl) rfl) ?_
        refine sqa (m_seql (a := t14) (b := a1) (lq rfl) rfl rfl) ?_
        refine sq_nil ?_
        refine avc_if rfl ⟨fun c2 => ?_, fun c2 => ?_⟩
        · replace hsy1' := cT c2 hsy1'
          refine avc_sq2 ?_
          refine avc_sq ?_
          refine sqa (a_assign_d (lq rfl) rfl) ?_
          refine sq_nil ?_
          refine avc_ret ?_
          cases hsy1'
          intro q; cases q
        · replace hsy1' := cF c2 hsy1'
          refine avc_skip ?_
          refine avc_sq ?_
          refine sqa (a_move_d (lq rfl) rfl) ?_
          refine sqa (m_add (lq rfl) rfl rfl) ?_
          refine sqa (a_assign_d (lq rfl) rfl) ?_
          refine sq_nil ?_
          cases hsy1'
          exact weak_cov ⟨rfl, rfl, rfl, trivial⟩ trivial
      · replace hsy1 := cF c1 hsy1
        refine avc_exit ?_
        cases hsy1
        intro q; cases q
        exact out_mk (weak_cov trivial trivial)
    ·
      refine avc_sq2 ?_
      refine avc_sq ?_
      refine sqa (a_assign_d (lq rfl) rfl) ?_
      refine sq_nil ?_
      cases h'
      refine avc_ret ?_
      exact ret_1 rfl
  ·
    replace h' := eR h'
    refine avc_tail (e := .ret) (S2 := ⟨[(4, .d (db y1))], []⟩) ?_ ?_
    ·
      refine avc_loopM (fun x => ⟨[(0, .d (dsl eS a0)), (1, .d (ds a1)), (5, .d (di x))], []⟩) hy1 (weak_cov ⟨rfl, rfl, rfl, trivial⟩ trivial) ?_
      rintro v5 sy1 hsy1
      replace hsy1 : ref40_Has_L0 a0 a1 v5 = some sy1 := hsy1
      unfold ref40_Has_L0 at hsy1
      refine avc_sq2 ?_
      refine avc_sq2 ?_
      refine avc_sq ?_
      refine sqa (a_move_d (lq rfl) rfl) ?_
      refine sqa (a_move_d (lq rfl) rfl) ?_
      refine sqa (m_len (en := eS) (l := a0) (lq rfl) S22 rfl) ?_
      refine sqa (a_lss (lq rfl) rfl rfl) ?_
      refine sq_nil ?_
      refine avc_if rfl ⟨fun c1 => ?_, fun c1 => ?_⟩
      · replace hsy1 := cT c1 hsy1
        refine avc_skip ?_
        refine avc_sq2 ?_
        refine avc_block ?_
        refine avc_sq2 ?_
        refine avc_sq ?_
        refine sqa (a_move_d (lq rfl) rfl) ?_
        refine sqa (a_move_d (lq rfl) rfl) ?_
        obtain ⟨t14, ht14, hsy1'⟩ := bE hsy1; clear hsy1
        refine sqa (m_index (en := eS) (lq rfl) S22 rfl rfl ht14) ?_
        refine sqa (m_loadE (en := eS) (l := a0) (i := v5) (v := t14) (off := 0) (lq rfl) O9 rfl ht14 rfl) ?_
        refine sqa (a_move_d (lq rfl) rfl) ?_
        refine sqa (m_seql (a := t14) (b := a1) (lq rfl) rfl rfl) ?_
        refine sq_nil ?_
        refine avc_if rfl ⟨fun c2 => ?_, fun c2 => ?_⟩
        · replace hsy1' := cT c2 hsy1'
          refine avc_sq2 ?_
          refine avc_sq ?_
          refine sqa (a_assign_d (lq rfl) rfl) ?_
          refine sq_nil ?_
          refine avc_ret ?_
          cases hsy1'
          intro q; cases q
          exact out_mk (weak_cov ⟨rfl, trivial⟩ trivial)
        · replace hsy1' := cF c2 hsy1'
          refine avc_skip ?_
          refine avc_sq ?_
          refine sqa (a_move_d (lq rfl) rfl) ?_
          refine sqa (m_add (lq rfl) rfl rfl) ?_
          refine sqa (a_assign_d (lq rfl) rfl) ?_
          refine sq_nil ?_
          cases hsy1'
          exact weak_cov ⟨rfl, rfl, rfl, trivial⟩ trivial
      · replace hsy1 := cF c1 hsy1
        refine avc_exit ?_
        cases hsy1
        intro q; cases q
    ·
      cases h'
      exact ret_1 rfl

theorem ref40_with_c  {a0 : (List Str)} {a1 : Str}  {r : (List Str)} (h : ref40_with a0 a1 = some r) : Contract Try.prog 30 [(dsl eS a0), (ds a1)] [(dsl eS r)] := by
  refine contract_of Try.func30 (by kernel_rfl) rfl (lq rfl) (lq rfl) fun w0 I0 => ?_
  unfold ref40_with at h
  refine avc_sq2 ?_
  refine avc_sq ?_
  refine sqa (a_assign_d (lq rfl) rfl) ?_
  refine sq_nil ?_
  refine avc_sq2 ?_
  refine avc_sq2 ?_
  refine avc_sq ?_
  refine sqa (a_move_d (lq rfl) rfl) ?_
  refine sqa (a_move_d (lq rfl) rfl) ?_
  obtain ⟨t9, ht9, h'⟩ := bE h; clear h
  refine sqa (a_call (lq rfl) rfl (ref40_Has_c ht9)) ?_
  refine sq_nil ?_
  refine avc_if rfl ⟨fun c1 => ?_, fun c1 => ?_⟩
  · replace h' := cT c1 h'
    refine avc_sq2 ?_
    refine avc_sq ?_
    refine sqa (a_move_d (lq rfl) rfl) ?_
    refine sqa (a_assign_d (lq rfl) rfl) ?_
    refine sq_nil ?_
    cases h'
    refine avc_ret ?_
    exact ret_1 rfl
  · replace h' := cF c1 h'
    refine avc_skip ?_
    refine avc_sq2 ?_
    refine avc_sq ?_
    refine sqa (a_assign_d (lq rfl) rfl) ?_
    refine sq_nil ?_
    refine avc_sq2 ?_
    refine avc_block ?_
    obtain ⟨y1, hy1, h⟩ := bE h'; clear h'
    refine avc_tail (e := .exit 0) (S2 := ⟨[(0, .d (dsl eS a0)), (1, .d (ds a1)), (5, .d (di y1))], []⟩) ?_ ?_
    ·
      refine avc_loopM (fun x => ⟨[(0, .d (dsl eS a0)), (1, .d (ds a1)), (5, .d (di x))], []⟩) hy1 (weak_cov ⟨rfl, rfl, rfl, trivial⟩ trivial) ?_
      rintro v5 sy1 hsy1
      replace hsy1 : ref40_with_L0 a0 a1 v5 = some sy1 := hsy1
      unfold ref40_with_L0 at hsy1
      refine avc_sq2 ?_
      refine avc_sq2 ?_
      refine avc_sq ?_
      refine sqa (a_move_d (lq rfl) rfl) ?_
      refine sqa (a_move_d (lq rfl) rfl) ?_
      refine sqa (m_len (en := eS) (l := a0) (lq rfl) S22 rfl) ?_
      refine sqa (a_lss (lq rfl) rfl rfl) ?_
      obtain ⟨b15, hb15, hsy1'⟩ := bE hsy1; clear hsy1
      refine sqa ((a_move_d (lq rfl) rfl).bool (Option.some.inj hb15)) ?_
      refine sq_g (x := .d (dsl eS a0)) rfl rfl rfl (lq rfl) (lq rfl) rfl (fun hb => by obtain rfl : b15 = true := hb; exact a_move_d (lq rfl) rfl) ?_
      refine sq_g (x := .d (di v5)) rfl rfl rfl (lq rfl) (lq rfl) rfl (fun hb => by obtain rfl : b15 = true := hb; exact a_move_d (lq rfl) rfl) ?_
      obtain ⟨t18, ht18, hsy1⟩ := bE hsy1'; clear hsy1'
      refine sq_g (x := .ip (eS.all a0) (v5.toNat * eS.size)) rfl rfl rfl (lq rfl) (lq rfl) rfl (fun hb => by obtain rfl : b15 = true := hb; exact m_index (en := eS) (lq rfl) S22 rfl rfl ht18) ?_
      refine sq_g (x := .d (ds t18)) rfl rfl rfl (lq rfl) (lq rfl) rfl (fun hb => by obtain rfl : b15 = true := hb; exact m_loadE (en := eS) (l := a0) (i := v5) (v := t18) (off := 0) (lq rfl) O9 rfl ht18 rfl) ?_
      refine sq_g (x := .d (ds a1)) rfl rfl rfl (lq rfl) (lq rfl) rfl (fun hb => by obtain rfl : b15 = true := hb; exact a_move_d (lq rfl) rfl) ?_
      refine sq_g (x := .d (db (Op.bytesLess t18 a1))) rfl rfl rfl (lq rfl) (lq rfl) rfl (fun hb => by obtain rfl : b15 = true := hb; exact m_slss (a := t18) (b := a1) (lq rfl) rfl rfl) ?_
      refine sqa (a_pick_and (lq rfl) rfl rfl) ?_
      refine sq_nil ?_
      refine avc_if rfl ⟨fun c2 => ?_, fun c2 => ?_⟩
      · replace hsy1 := cT c2 hsy1
        refine avc_skip ?_
        refine avc_block ?_
        refine avc_sq ?_
        refine sqa (a_move_d (lq rfl) rfl) ?_
        refine sqa (m_add (lq rfl) rfl rfl) ?_
        refine sqa (a_assign_d (lq rfl) rfl) ?_
        refine sq_nil ?_
        cases hsy1
        exact weak_cov ⟨rfl, rfl, rfl, trivial⟩ trivial
      · replace hsy1 := cF c2 hsy1
        refine avc_exit ?_
        cases hsy1
        intro q; cases q
        exact out_mk (weak_cov ⟨rfl, rfl, rfl, trivial⟩ trivial)
    ·
      refine avc_sq2 ?_
      refine avc_sq ?_
      refine sq_b rfl (step_buildSlice (lq rfl) S22 rfl rfl rfl rfl (by decide) rfl) ?_
      refine sqa (a_move_d (lq rfl) rfl) ?_
      refine sqa (a_move_d (lq rfl) rfl) ?_
      obtain ⟨t28, ht28, h'⟩ := bE h; clear h
      refine sqa (m_sliceH (en := eS) (lq rfl) S22 rfl rfl ht28) ?_
      obtain ⟨r25_2, hr25_2, h⟩ := bE h'; clear h'
      refine sq_b rfl (m_append (en := eS) (l := []) (m := t28) (lq rfl) S22 rfl rfl rfl hr25_2 (by decide) (by decide) rfl rfl) ?_
      refine sqa (a_assign_row (lq rfl) rfl) ?_
      refine sq_nil ?_
      refine avc_sq2 ?_
      refine avc_sq ?_
      refine sqa (a_move_row (lq rfl) rfl) ?_
      refine sqa (a_move_d (lq rfl) rfl) ?_
      refine sqa (a_lit (lq rfl) S22 rfl rfl rfl rfl (by decide) rfl) ?_
      obtain ⟨r25_3, hr25_3, h'⟩ := bE h; clear h
      refine sq_b rfl (m_append (en := eS) (l := r25_2) (m := [a1]) (lq rfl) S22 rfl rfl rfl hr25_3 (by decide) (by decide) rfl rfl) ?_
      refine sqa (a_assign_row (lq rfl) rfl) ?_
      refine sq_nil ?_
      refine avc_sq2 ?_
      refine avc_sq ?_
      refine sqa (a_move_row (lq rfl) rfl) ?_
      refine sqa (a_move_d (lq rfl) rfl) ?_
      refine sqa (a_move_d (lq rfl) rfl) ?_
      obtain ⟨t37, ht37, h⟩ := bE h'; clear h'
      refine sqa (m_sliceL (en := eS) (lq rfl) S22 rfl rfl ht37) ?_
      obtain ⟨r25_4, hr25_4, h'⟩ := bE h; clear h
      refine sq_b rfl (m_append (en := eS) (l := r25_3) (m := t37) (lq rfl) S22 rfl rfl rfl hr25_4 (by decide) (by decide) rfl rfl) ?_
      refine sqa (a_assign_row (lq rfl) rfl) ?_
      refine sq_nil ?_
      cases h'
      refine avc_ret ?_
      exact ret_1 rfl

theorem ref40_Of_c  {a0 : Property} {a1 : (List Int)}  {r : (List Str)} (h : ref40_Of a0 a1 = some r) : Contract Try.prog 14 [(eProperty.dv a0), (dsl eI a1)] [(dsl eS r)] := by
  refine contract_of Try.func14 (by kernel_rfl) rfl (lq rfl) (lq rfl) fun w0 I0 => ?_
  unfold ref40_Of at h
  refine avc_sq2 ?_
  refine avc_sq ?_
  refine sqa (m_box (size := 2) (lq rfl) rfl rfl) ?_
  refine sqa (a_assign_d (lq rfl) rfl) ?_
  refine sq_nil ?_
  refine avc_sq2 ?_
  refine avc_sq ?_
  refine sqa (a_assign_d (lq rfl) rfl) ?_
  refine sq_nil ?_
  refine avc_weak (weak_nil_d (t := 5) eS.size (lq rfl) rfl) ?_
  refine avc_sq2 ?_
  refine avc_sq2 ?_
  refine avc_sq ?_
  refine sqa (a_assign_d (lq rfl) rfl) ?_
  refine sq_nil ?_
  refine avc_block ?_
  obtain ⟨y1, hy1, h'⟩ := bE h; clear h
  refine avc_tail (e := .exit 0) (S2 := ⟨[(5, .d (dsl eS y1))], []⟩) ?_ ?_
  ·
    refine avc_loopM (fun x => ⟨[(1, .d (dsl eI a1)), (2, .d (.pt (eProperty.cells a0))), (5, .d (dsl eS x.1)), (6, .d (di x.2))], []⟩) hy1 (weak_cov ⟨rfl, rfl, rfl, rfl, trivial⟩ trivial) ?_
    rintro ⟨v5, v6⟩ sy1 hsy1
    replace hsy1 : ref40_Of_L0 a1 a0 v5 v6 = some sy1 := hsy1
    unfold ref40_Of_L0 at hsy1
    refine avc_sq2 ?_
    refine avc_sq2 ?_
    refine avc_sq ?_
    refine sqa (a_move_d (lq rfl) rfl) ?_
    refine sqa (a_move_d (lq rfl) rfl) ?_
    refine sqa (m_len (en := eI) (l := a1) (lq rfl) S26 rfl) ?_
    refine sqa (a_lss (lq rfl) rfl rfl) ?_
    refine sq_nil ?_
    refine avc_if rfl ⟨fun c1 => ?_, fun c1 => ?_⟩
    · replace hsy1 := cT c1 hsy1
      refine avc_skip ?_
      refine avc_sq2 ?_
      obtain ⟨y2, hy2, hsy1'⟩ := bE hsy1; clear hsy1
      refine avc_tail (e := .normal) (S2 := ⟨[(1, .d (dsl eI a1)), (2, .d (.pt (eProperty.cells a0))), (5, .d (dsl eS y2)), (6, .d (di v6))], []⟩) ?_ ?_
      ·
        refine avc_block ?_
        refine avc_sq2 ?_
        refine avc_drawA MX rfl ?_
        refine daa (m_loadPt (lq rfl) G25 rfl rfl) ?_
        refine daa (a_move_d (lq rfl) rfl) ?_
        refine daa (a_move_d (lq rfl) rfl) ?_
        obtain ⟨t17, ht17, hy2'⟩ := bE hy2; clear hy2
        refine daa (m_index (en := eI) (lq rfl) S26 rfl rfl ht17) ?_
        refine daa (m_loadE (en := eI) (l := a1) (i := v6) (v := t17) (off := 0) (lq rfl) O3 rfl ht17 rfl) ?_
        obtain ⟨t19, ht19, hy2⟩ := bE hy2'; clear hy2'
        refine daa (a_call (lq rfl) rfl (ref10_Name_c ht19)) ?_
        refine daa (a_assign_d (lq rfl) rfl) ?_
        refine da_nil ?_
        refine avc_sq2 ?_
        refine avc_sq ?_
        refine sqa (a_move_d (lq rfl) rfl) ?_
        obtain ⟨t21, ht21, hy2'⟩ := bE hy2; clear hy2
        refine sqa (a_call (lq rfl) rfl (ref40_Real_c ht21)) ?_
        refine sq_nil ?_
        refine avc_if rfl ⟨fun c2 => ?_, fun c2 => ?_⟩
        · replace hy2' := cT c2 hy2'
          refine avc_sq ?_
          refine sqa (a_move_d (lq rfl) rfl) ?_
          refine sqa (a_move_d (lq rfl) rfl) ?_
          obtain ⟨t24, ht24, hy2⟩ := bE hy2'; clear hy2'
          refine sqa (a_call (lq rfl) rfl (ref40_with_c ht24)) ?_
          refine sqa (a_assign_d (lq rfl) rfl) ?_
          refine sq_nil ?_
          cases hy2
          exact out_mk (weak_cov ⟨rfl, rfl, rfl, rfl, trivial⟩ trivial)
        · replace hy2' := cF c2 hy2'
          refine avc_skip ?_
          cases hy2'
          exact out_mk (weak_cov ⟨rfl, rfl, rfl, rfl, trivial⟩ trivial)
      ·
        refine avc_sq ?_
        refine sqa (a_move_d (lq rfl) rfl) ?_
        refine sqa (m_add (lq rfl) rfl rfl) ?_
        refine sqa (a_assign_d (lq rfl) rfl) ?_
        refine sq_nil ?_
        cases hsy1'
        exact weak_cov ⟨rfl, rfl, rfl, rfl, trivial⟩ trivial
    · replace hsy1 := cF c1 hsy1
      refine avc_exit ?_
      cases hsy1
      intro q; cases q
      exact out_mk (weak_cov ⟨rfl, trivial⟩ trivial)
  ·
    refine avc_sq2 ?_
    refine avc_sq ?_
    refine sqa (a_move_d (lq rfl) rfl) ?_
    refine sqa (a_assign_d (lq rfl) rfl) ?_
    refine sq_nil ?_
    cases h'
    refine avc_ret ?_
    exact ret_1 rfl

theorem ref40_Mixed_c  {a0 : Property} {a1 : (List Int)}  {r : Bool} (h : ref40_Mixed a0 a1 = some r) : Contract Try.prog 16 [(eProperty.dv a0), (dsl eI a1)] [(db r)] := by
  refine contract_of Try.func16 (by kernel_rfl) rfl (lq rfl) (lq rfl) fun w0 I0 => ?_
  unfold ref40_Mixed at h
  refine avc_sq2 ?_
  refine avc_sq ?_
  refine sqa (m_box (size := 2) (lq rfl) rfl rfl) ?_
  refine sqa (a_assign_d (lq rfl) rfl) ?_
  refine sq_nil ?_
  refine avc_sq2 ?_
  refine avc_sq ?_
  refine sqa (m_loadPt (lq rfl) G25 rfl rfl) ?_
  refine sqa (a_move_d (lq rfl) rfl) ?_
  obtain ⟨t7, ht7, h'⟩ := bE h; clear h
  refine sqa (a_call (lq rfl) rfl (ref40_Of_c ht7)) ?_
  refine sqa (m_len (en := eS) (l := t7) (lq rfl) S22 rfl) ?_
  refine sqa (a_gtr (lq rfl) rfl rfl) ?_
  refine sqa (a_assign_d (lq rfl) rfl) ?_
  refine sq_nil ?_
  cases h'
  refine avc_ret ?_
  exact ret_1 rfl

theorem law40_ScriptsOf_c  {a0 : Property} {a1 : (List Int)}  {r : Bool} (h : law40_ScriptsOf a0 a1 = some r) : Contract Try.prog 3 [(eProperty.dv a0), (dsl eI a1)] [(db r)] := by
  refine contract_of Try.func3 (by kernel_rfl) rfl (lq rfl) (lq rfl) fun w0 I0 => ?_
  unfold law40_ScriptsOf at h
  refine avc_sq2 ?_
  refine avc_sq ?_
  refine sqa (m_box (size := 2) (lq rfl) rfl rfl) ?_
  refine sqa (a_assign_d (lq rfl) rfl) ?_
  refine sq_nil ?_
  refine avc_sq2 ?_
  refine avc_sq2 ?_
  refine avc_sq ?_
  refine sqa (m_loadPt (lq rfl) G25 rfl rfl) ?_
  refine sqa (a_move_d (lq rfl) rfl) ?_
  obtain ⟨t7, ht7, h'⟩ := bE h; clear h
  refine sqa (a_call (lq rfl) rfl (law40_few_c ht7)) ?_
  refine sqa (a_not (lq rfl) rfl) ?_
  refine sq_nil ?_
  refine avc_if rfl ⟨fun c1 => ?_, fun c1 => ?_⟩
  · replace h' := cT c1 h'
    refine avc_sq2 ?_
    refine avc_sq ?_
    obtain ⟨t9, ht9, h⟩ := bE h'; clear h'
    refine sqa (a_call (lq rfl) rfl (law40_alive_c ht9)) ?_
    refine sqa (a_assign_d (lq rfl) rfl) ?_
    refine sq_nil ?_
    cases h
    refine avc_ret ?_
    exact ret_1 rfl
  · replace h' := cF c1 h'
    refine avc_skip ?_
    refine avc_sq2 ?_
    refine avc_drawA MX rfl ?_
    refine daa (m_loadPt (lq rfl) G25 rfl rfl) ?_
    refine daa (a_move_d (lq rfl) rfl) ?_
    obtain ⟨t12, ht12, h⟩ := bE h'; clear h'
    refine daa (a_call (lq rfl) rfl (scripts_Of_c ht12)) ?_
    refine daa (m_loadPt (lq rfl) G25 rfl rfl) ?_
    refine daa (a_move_d (lq rfl) rfl) ?_
    obtain ⟨t15, ht15, h'⟩ := bE h; clear h
    refine daa (a_call (lq rfl) rfl (ref40_Of_c ht15)) ?_
    obtain ⟨t16, ht16, h⟩ := bE h'; clear h'
    refine daa (a_call (lq rfl) rfl (ref09_Strings_c ht16)) ?_
    obtain ⟨b17, hb17, h'⟩ := bE h; clear h
    refine daa ((a_move_d (lq rfl) rfl).bool (Option.some.inj hb17)) ?_
    refine da_g (x := .d (eProperty.dv a0)) rfl rfl rfl (lq rfl) (lq rfl) rfl (fun hb => by obtain rfl : b17 = true := hb; exact m_loadPt (lq rfl) G25 rfl rfl) ?_
    refine da_g (x := .d (dsl eI a1)) rfl rfl rfl (lq rfl) (lq rfl) rfl (fun hb => by obtain rfl : b17 = true := hb; exact a_move_d (lq rfl) rfl) ?_
    obtain ⟨t20, ht20, h⟩ := bE h'; clear h'
    refine da_g (x := .d (db t20)) rfl rfl rfl (lq rfl) (lq rfl) rfl (fun hb => by obtain rfl : b17 = true := hb; exact a_call (lq rfl) rfl (scripts_Mixed_c ht20)) ?_
    refine da_g (x := .d (eProperty.dv a0)) rfl rfl rfl (lq rfl) (lq rfl) rfl (fun hb => by obtain rfl : b17 = true := hb; exact m_loadPt (lq rfl) G25 rfl rfl) ?_
    refine da_g (x := .d (dsl eI a1)) rfl rfl rfl (lq rfl) (lq rfl) rfl (fun hb => by obtain rfl : b17 = true := hb; exact a_move_d (lq rfl) rfl) ?_
    obtain ⟨t23, ht23, h'⟩ := bE h; clear h
    refine da_g (x := .d (db t23)) rfl rfl rfl (lq rfl) (lq rfl) rfl (fun hb => by obtain rfl : b17 = true := hb; exact a_call (lq rfl) rfl (ref40_Mixed_c ht23)) ?_
    refine da_g (x := .d (db (t20 == t23))) rfl rfl rfl (lq rfl) (lq rfl) rfl (fun hb => by obtain rfl : b17 = true := hb; exact a_beql (lq rfl) Try.underlying4 rfl rfl) ?_
    refine daa (a_pick_and (lq rfl) rfl rfl) ?_
    obtain ⟨b26, hb26, h⟩ := bE h'; clear h'
    refine daa ((a_move_d (lq rfl) rfl).bool (Option.some.inj hb26)) ?_
    obtain ⟨t27, ht27, h'⟩ := bE h; clear h
    refine da_g (x := .d (db t27)) rfl rfl rfl (lq rfl) (lq rfl) rfl (fun hb => by obtain rfl : b26 = true := hb; exact a_call (lq rfl) rfl (law40_alive_c ht27)) ?_
    refine daa (a_pick_and (lq rfl) rfl rfl) ?_
    refine daa (a_assign_d (lq rfl) rfl) ?_
    refine da_nil ?_
    cases h'
    refine avc_ret ?_
    exact ret_1 rfl

theorem ref40_Script_c  {a0 : Property} {a1 : (List Int)} {a2 : Int}  {r : Str} (h : ref40_Script a0 a1 a2 = some r) : Contract Try.prog 33 [(eProperty.dv a0), (dsl eI a1), (di a2)] [(ds r)] := by
  refine contract_of Try.func33 (by kernel_rfl) rfl (lq rfl) (lq rfl) fun w0 I0 => ?_
  unfold ref40_Script at h
  refine avc_sq2 ?_
  refine avc_sq ?_
  refine sqa (m_box (size := 2) (lq rfl) rfl rfl) ?_
  refine sqa (a_assign_d (lq rfl) rfl) ?_
  refine sq_nil ?_
  refine avc_sq2 ?_
  refine avc_sq2 ?_
  refine avc_sq ?_
  refine sqa (a_move_d (lq rfl) rfl) ?_
  refine sqa (a_assign_d (lq rfl) rfl) ?_
  refine sq_nil ?_
  refine avc_block ?_
  obtain ⟨y1, hy1, h'⟩ := bE h; clear h
  rcases y1 with y1 | y1
  ·
    replace h' := eL h'
    refine avc_tail (e := .exit 0) (S2 := ⟨[(1, .d (dsl eI a1)), (2, .d (di a2)), (3, .d (.pt (eProperty.cells a0)))], []⟩) ?_ ?_
    ·
      refine avc_loopM (fun x => ⟨[(1, .d (dsl eI a1)), (2, .d (di a2)), (3, .d (.pt (eProperty.cells a0))), (7, .d (di x))], []⟩) hy1 (weak_cov ⟨rfl, rfl, rfl, rfl, trivial⟩ trivial) ?_
      rintro v7 sy1 hsy1
      replace hsy1 : ref40_Script_L0 a1 a0 v7 = some sy1 := hsy1
      unfold ref40_Script_L0 at hsy1
      refine avc_sq2 ?_
      refine avc_sq2 ?_
      refine avc_sq ?_
      refine sqa (a_move_d (lq rfl) rfl) ?_
      refine sqa (a_geq (lq rfl) rfl rfl) ?_
      refine sq_nil ?_
      refine avc_if rfl ⟨fun c1 => ?_, fun c1 => ?_⟩
      · replace hsy1 := cT c1 hsy1
        refine avc_skip ?_
        refine avc_sq2 ?_
        refine avc_block ?_
        refine avc_sq2 ?_
        refine avc_drawA MX rfl ?_
        refine daa (m_loadPt (lq rfl) G25 rfl rfl) ?_
        refine daa (a_move_d (lq rfl) rfl) ?_
        refine daa (a_move_d (lq rfl) rfl) ?_
        obtain ⟨t19, ht19, hsy1'⟩ := bE hsy1; clear hsy1
        refine daa (m_index (en := eI) (lq rfl) S26 rfl rfl ht19) ?_
        refine daa (m_loadE (en := eI) (l := a1) (i := v7) (v := t19) (off := 0) (lq rfl) O3 rfl ht19 rfl) ?_
        obtain ⟨t21, ht21, hsy1⟩ := bE hsy1'; clear hsy1'
        refine daa (a_call (lq rfl) rfl (ref10_Name_c ht21)) ?_
        refine daa (a_assign_d (lq rfl) rfl) ?_
        refine da_nil ?_
        refine avc_sq2 ?_
        refine avc_sq ?_
        refine sqa (a_move_d (lq rfl) rfl) ?_
        obtain ⟨t23, ht23, hsy1'⟩ := bE hsy1; clear hsy1
        refine sqa (a_call (lq rfl) rfl (ref40_Real_c ht23)) ?_
        refine sq_nil ?_
        refine avc_if rfl ⟨fun c2 => ?_, fun c2 => ?_⟩
        · replace hsy1' := cT c2 hsy1'
          refine avc_sq2 ?_
          refine avc_sq ?_
          refine sqa (a_move_d (lq rfl) rfl) ?_
          refine sqa (a_assign_d (lq rfl) rfl) ?_
          refine sq_nil ?_
          refine avc_ret ?_
          cases hsy1'
          intro q; cases q
        · replace hsy1' := cF c2 hsy1'
          refine avc_skip ?_
          refine avc_sq ?_
          refine sqa (a_move_d (lq rfl) rfl) ?_
          refine sqa (m_sub (lq rfl) rfl rfl) ?_
          refine sqa (a_assign_d (lq rfl) rfl) ?_
          refine sq_nil ?_
          cases hsy1'
          exact weak_cov ⟨rfl, rfl, rfl, rfl, trivial⟩ trivial
      · replace hsy1 := cF c1 hsy1
        refine avc_exit ?_
        cases hsy1
        intro q; cases q
        exact out_mk (weak_cov ⟨rfl, rfl, rfl, trivial⟩ trivial)
    ·
      refine avc_sq2 ?_
      refine avc_sq2 ?_
      refine avc_sq ?_
      refine sqa (a_move_d (lq rfl) rfl) ?_
      refine sqa (m_add (lq rfl) rfl rfl) ?_
      refine sqa (a_assign_d (lq rfl) rfl) ?_
      refine sq_nil ?_
      refine avc_block ?_
      obtain ⟨y2, hy2, h⟩ := bE h'; clear h'
      rcases y2 with y2 | y2
      ·
        replace h := eL h
        refine avc_tail (e := .exit 2) (S2 := ⟨[], []⟩) ?_ ?_
        ·
          refine avc_loopM (fun x => ⟨[(1, .d (dsl eI a1)), (3, .d (.pt (eProperty.cells a0))), (9, .d (di x))], []⟩) hy2 (weak_cov ⟨rfl, rfl, rfl, trivial⟩ trivial) ?_
          rintro v9 sy2 hsy2
          replace hsy2 : ref40_Script_L1 a1 a0 v9 = some sy2 := hsy2
          unfold ref40_Script_L1 at hsy2
          refine avc_sq2 ?_
          refine avc_sq2 ?_
          refine avc_sq ?_
          refine sqa (a_move_d (lq rfl) rfl) ?_
          refine sqa (a_move_d (lq rfl) rfl) ?_
          refine sqa (m_len (en := eI) (l := a1) (lq rfl) S26 rfl) ?_
          refine sqa (a_lss (lq rfl) rfl rfl) ?_
          refine sq_nil ?_
          refine avc_if rfl ⟨fun c3 => ?_, fun c3 => ?_⟩
          · replace hsy2 := cT c3 hsy2
            refine avc_skip ?_
            refine avc_sq2 ?_
            refine avc_block ?_
            refine avc_sq2 ?_
            refine avc_drawA MX rfl ?_
            refine daa (m_loadPt (lq rfl) G25 rfl rfl) ?_
            refine daa (a_move_d (lq rfl) rfl) ?_
            refine daa (a_move_d (lq rfl) rfl) ?_
            obtain ⟨t36, ht36, hsy2'⟩ := bE hsy2; clear hsy2
            refine daa (m_index (en := eI) (lq rfl) S26 rfl rfl ht36) ?_
            refine daa (m_loadE (en := eI) (l := a1) (i := v9) (v := t36) (off := 0) (lq rfl) O3 rfl ht36 rfl) ?_
            obtain ⟨t38, ht38, hsy2⟩ := bE hsy2'; clear hsy2'
            refine daa (a_call (lq rfl) rfl (ref10_Name_c ht38)) ?_
            refine daa (a_assign_d (lq rfl) rfl) ?_
            refine da_nil ?_
            refine avc_sq2 ?_
            refine avc_sq ?_
            refine sqa (a_move_d (lq rfl) rfl) ?_
            obtain ⟨t40, ht40, hsy2'⟩ := bE hsy2; clear hsy2
            refine sqa (a_call (lq rfl) rfl (ref40_Real_c ht40)) ?_
            refine sq_nil ?_
            refine avc_if rfl ⟨fun c4 => ?_, fun c4 => ?_⟩
            · replace hsy2' := cT c4 hsy2'
              refine avc_sq2 ?_
              refine avc_sq ?_
              refine sqa (a_move_d (lq rfl) rfl) ?_
              refine sqa (a_assign_d (lq rfl) rfl) ?_
              refine sq_nil ?_
              refine avc_ret ?_
              cases hsy2'
              intro q; cases q
            · replace hsy2' := cF c4 hsy2'
              refine avc_skip ?_
              refine avc_sq ?_
              refine sqa (a_move_d (lq rfl) rfl) ?_
              refine sqa (m_add (lq rfl) rfl rfl) ?_
              refine sqa (a_assign_d (lq rfl) rfl) ?_
              refine sq_nil ?_
              cases hsy2'
              exact weak_cov ⟨rfl, rfl, rfl, trivial⟩ trivial
          · replace hsy2 := cF c3 hsy2
            refine avc_exit ?_
            cases hsy2
            intro q; cases q
            exact out_mk (weak_cov trivial trivial)
        ·
          refine avc_sq2 ?_
          refine avc_sq ?_
          refine sqa (a_assign_d (lq rfl) rfl) ?_
          refine sq_nil ?_
          cases h
          refine avc_ret ?_
          exact ret_1 rfl
      ·
        replace h := eR h
        refine avc_tail (e := .ret) (S2 := ⟨[(6, .d (ds y2))], []⟩) ?_ ?_
        ·
          refine avc_loopM (fun x => ⟨[(1, .d (dsl eI a1)), (3, .d (.pt (eProperty.cells a0))), (9, .d (di x))], []⟩) hy2 (weak_cov ⟨rfl, rfl, rfl, trivial⟩ trivial) ?_
          rintro v9 sy2 hsy2
          replace hsy2 : ref40_Script_L1 a1 a0 v9 = some sy2 := hsy2
          unfold ref40_Script_L1 at hsy2
          refine avc_sq2 ?_
          refine avc_sq2 ?_
          refine avc_sq ?_
          refine sqa (a_move_d (lq rfl) rfl) ?_
          refine sqa (a_move_d (lq rfl) rfl) ?_
          refine sqa (m_len (en := eI) (l := a1) (lq rfl) S26 rfl) ?_
          refine sqa (a_lss (lq rfl) rfl rfl) ?_
          refine sq_nil ?_
          refine avc_if rfl ⟨fun c3 => ?_, fun c3 => ?_⟩
          · replace hsy2 := cT c3 hsy2
            refine avc_skip ?_
            refine avc_sq2 ?_
            refine avc_block ?_
            refine avc_sq2 ?_
            refine avc_drawA MX rfl ?_
            refine daa (m_loadPt (lq rfl) G25 rfl rfl) ?_
            refine daa (a_move_d (lq rfl) rfl) ?_
            refine daa (a_move_d (lq rfl) rfl) ?_
            obtain ⟨t36, ht36, hsy2'⟩ := bE hsy2; clear hsy2
            refine daa (m_index (en := eI) (lq rfl) S26 rfl rfl ht36) ?_
            refine daa (m_loadE (en := eI) (l := a1) (i := v9) (v := t36) (off := 0) (lq rfl) O3 rfl ht36 rfl) ?_
            obtain ⟨t38, ht38, hsy2⟩ := bE hsy2'; clear hsy2'
            refine daa (a_call (lq rfl) rfl (ref10_Name_c ht38)) ?_
            refine daa (a_assign_d (lq rfl) rfl) ?_
            refine da_nil ?_
            refine avc_sq2 ?_
            refine avc_sq ?_
            refine sqa (a_move_d (lq rfl) rfl) ?_
            obtain ⟨t40, ht40, hsy2'⟩ := bE hsy2; clear hsy2
            refine sqa (a_call (lq rfl) rfl (ref40_Real_c ht40)) ?_
            refine sq_nil ?_
            refine avc_if rfl ⟨fun c4 => ?_, fun c4 => ?_⟩
            · replace hsy2' := cT c4 hsy2'
              refine avc_sq2 ?_
              refine avc_sq ?_
              refine sqa (a_move_d (lq rfl) rfl) ?_
              refine sqa (a_assign_d (lq rfl) rfl) ?_
              refine sq_nil ?_
              refine avc_ret ?_
              cases hsy2'
              intro q; cases q
              exact out_mk (weak_cov ⟨rfl, trivial⟩ trivial)
            · replace hsy2' := cF c4 hsy2'
              refine avc_skip ?_
              refine avc_sq ?_
              refine sqa (a_move_d (lq rfl) rfl) ?_
              refine sqa (m_add (lq rfl) rfl rfl) ?_
              refine sqa (a_assign_d (lq rfl) rfl) ?_
              refine sq_nil ?_
              cases hsy2'
              exact weak_cov ⟨rfl, rfl, rfl, trivial⟩ trivial
          · replace hsy2 := cF c3 hsy2
            refine avc_exit ?_
            cases hsy2
            intro q; cases q
        ·
          cases h
          exact ret_1 rfl
  ·
    replace h' := eR h'
    refine avc_tail (e := .ret) (S2 := ⟨[(6, .d (ds y1))], []⟩) ?_ ?_
    ·
      refine avc_loopM (fun x => ⟨[(1, .d (dsl eI a1)), (2, .d (di a2)), (3, .d (.pt (eProperty.cells a0))), (7, .d (di x))], []⟩) hy1 (weak_cov ⟨rfl, rfl, rfl, rfl, trivial⟩ trivial) ?_
      rintro v7 sy1 hsy1
      replace hsy1 : ref40_Script_L0 a1 a0 v7 = some sy1 := hsy1
      unfold ref40_Script_L0 at hsy1
      refine avc_sq2 ?_
      refine avc_sq2 ?_
      refine avc_sq ?_
      refine sqa (a_move_d (lq rfl) rfl) ?_
      refine sqa (a_geq (lq rfl) rfl rfl) ?_
      refine sq_nil ?_
      refine avc_if rfl ⟨fun c1 => ?_, fun c1 => ?_⟩
      · replace hsy1 := cT c1 hsy1
        refine avc_skip ?_
        refine avc_sq2 ?_
        refine avc_block ?_
        refine avc_sq2 ?_
        refine avc_drawA MX rfl ?_
        refine daa (m_loadPt (lq rfl) G25 rfl rfl) ?_
        refine daa (a_move_d (lq rfl) rfl) ?_
        refine daa (a_move_d (lq rfl) rfl) ?_
        obtain ⟨t19, ht19, hsy1'⟩ := bE hsy1; clear hsy1
        refine daa (m_index (en := eI) (lq rfl) S26 rfl rfl ht19) ?_
        refine daa (m_loadE (en := eI) (l := a1) (i := v7) (v := t19) (off := 0) (lq rfl) O3 rfl ht19 rfl) ?_
        obtain ⟨t21, ht21, hsy1⟩ := bE hsy1'; clear hsy1'
        refine daa (a_call (lq rfl) rfl (ref10_Name_c ht21)) ?_
        refine daa (a_assign_d (lq rfl) rfl) ?_
        refine da_nil ?_
        refine avc_sq2 ?_
        refine avc_sq ?_
        refine sqa (a_move_d (lq rfl) rfl) ?_
        obtain ⟨t23, ht23, hsy1'⟩ := bE hsy1; clear hsy1
        refine sqa (a_call (lq rfl) rfl (ref40_Real_c ht23)) ?_
        refine sq_nil ?_
        refine avc_if rfl ⟨fun c2 => ?_, fun c2 => ?_⟩
        · replace hsy1' := cT c2 hsy1'
          refine avc_sq2 ?_
          refine avc_sq ?_
          refine sqa (a_move_d (lq rfl) rfl) ?_
          refine sqa (a_assign_d (lq rfl) rfl) ?_
          refine sq_nil ?_
          refine avc_ret ?_
          cases hsy1'
          intro q; cases q
          exact out_mk (weak_cov ⟨rfl, trivial⟩ trivial)
        · replace hsy1' := cF c2 hsy1'
          refine avc_skip ?_
          refine avc_sq ?_
          refine sqa (a_move_d (lq rfl) rfl) ?_
          refine sqa (m_sub (lq rfl) rfl rfl) ?_
          refine sqa (a_assign_d (lq rfl) rfl) ?_
          refine sq_nil ?_
          cases hsy1'
          exact weak_cov ⟨rfl, rfl, rfl, rfl, trivial⟩ trivial
      · replace hsy1 := cF c1 hsy1
        refine avc_exit ?_
        cases hsy1
        intro q; cases q
    ·
      cases h'
      exact ret_1 rfl

theorem ref40_Runs_c  {a0 : Property} {a1 : (List Int)}  {r : (List Range)} (h : ref40_Runs a0 a1 = some r) : Contract Try.prog 19 [(eProperty.dv a0), (dsl eI a1)] [(dsl eRange r)] := by
  refine contract_of Try.func19 (by kernel_rfl) rfl (lq rfl) (lq rfl) fun w0 I0 => ?_
  unfold ref40_Runs at h
  refine avc_sq2 ?_
  refine avc_sq ?_
  refine sqa (m_box (size := 2) (lq rfl) rfl rfl) ?_
  refine sqa (a_assign_d (lq rfl) rfl) ?_
  refine sq_nil ?_
  refine avc_sq2 ?_
  refine avc_sq ?_
  refine sqa (a_assign_d (lq rfl) rfl) ?_
  refine sq_nil ?_
  refine avc_weak (weak_nil (t := 5) 1005 38 eRange.size (lq rfl) (lq rfl) rfl rfl) ?_
  refine avc_sq2 ?_
  refine avc_sq2 ?_
  refine avc_sq ?_
  refine sqa (a_assign_d (lq rfl) rfl) ?_
  refine sq_nil ?_
  refine avc_block ?_
  obtain ⟨y1, hy1, h'⟩ := bE h; clear h
  refine avc_tail (e := .exit 0) (S2 := ⟨[(5, .row 1005)], [(1005, .row 38 eRange.size false (eRange.all y1))]⟩) ?_ ?_
  ·
    refine avc_loopM (fun x => ⟨[(1, .d (dsl eI a1)), (2, .d (.pt (eProperty.cells a0))), (5, .row 1005), (6, .d (di x.1))], [(1005, .row 38 eRange.size false (eRange.all x.2))]⟩) hy1 (weak_cov ⟨rfl, rfl, rfl, rfl, trivial⟩ ⟨rfl, trivial⟩) ?_
    rintro ⟨v6, r1005⟩ sy1 hsy1
    replace hsy1 : ref40_Runs_L0 a1 a0 v6 r1005 = some sy1 := hsy1
    unfold ref40_Runs_L0 at hsy1
    refine avc_sq2 ?_
    refine avc_sq2 ?_
    refine avc_sq ?_
    refine sqa (a_move_d (lq rfl) rfl) ?_
    refine sqa (a_move_d (lq rfl) rfl) ?_
    refine sqa (m_len (en := eI) (l := a1) (lq rfl) S26 rfl) ?_
    refine sqa (a_lss (lq rfl) rfl rfl) ?_
    refine sq_nil ?_
    refine avc_if rfl ⟨fun c1 => ?_, fun c1 => ?_⟩
    · replace hsy1 := cT c1 hsy1
      refine avc_skip ?_
      refine avc_sq2 ?_
      obtain ⟨y2, hy2, hsy1'⟩ := bE hsy1; clear hsy1
      refine avc_tail (e := .normal) (S2 := ⟨[(1, .d (dsl eI a1)), (2, .d (.pt (eProperty.cells a0))), (5, .row 1005), (6, .d (di v6))], [(1005, .row 38 eRange.size false (eRange.all y2))]⟩) ?_ ?_
      ·
        refine avc_block ?_
        refine avc_sq2 ?_
        refine avc_drawA MX rfl ?_
        refine daa (a_move_d (lq rfl) rfl) ?_
        refine daa (a_gtr (lq rfl) rfl rfl) ?_
        obtain ⟨b15, hb15, hy2'⟩ := bE hy2; clear hy2
        refine daa ((a_move_d (lq rfl) rfl).bool (Option.some.inj hb15)) ?_
        refine da_g (x := .d (eProperty.dv a0)) rfl rfl rfl (lq rfl) (lq rfl) rfl (fun hb => by obtain rfl : b15 = true := hb; exact m_loadPt (lq rfl) G25 rfl rfl) ?_
        refine da_g (x := .d (dsl eI a1)) rfl rfl rfl (lq rfl) (lq rfl) rfl (fun hb => by obtain rfl : b15 = true := hb; exact a_move_d (lq rfl) rfl) ?_
        refine da_g (x := .d (di v6)) rfl rfl rfl (lq rfl) (lq rfl) rfl (fun hb => by obtain rfl : b15 = true := hb; exact a_move_d (lq rfl) rfl) ?_
        obtain ⟨t19, ht19, hy2⟩ := bE hy2'; clear hy2'
        refine da_g (x := .d (ds t19)) rfl rfl rfl (lq rfl) (lq rfl) rfl (fun hb => by obtain rfl : b15 = true := hb; exact a_call (lq rfl) rfl (ref40_Script_c ht19)) ?_
        refine da_g (x := .d (eProperty.dv a0)) rfl rfl rfl (lq rfl) (lq rfl) rfl (fun hb => by obtain rfl : b15 = true := hb; exact m_loadPt (lq rfl) G25 rfl rfl) ?_
        refine da_g (x := .d (dsl eI a1)) rfl rfl rfl (lq rfl) (lq rfl) rfl (fun hb => by obtain rfl : b15 = true := hb; exact a_move_d (lq rfl) rfl) ?_
        refine da_g (x := .d (di v6)) rfl rfl rfl (lq rfl) (lq rfl) rfl (fun hb => by obtain rfl : b15 = true := hb; exact a_move_d (lq rfl) rfl) ?_
        refine da_g (x := .d (di (wi (v6 - 1)))) rfl rfl rfl (lq rfl) (lq rfl) rfl (fun hb => by obtain rfl : b15 = true := hb; exact m_sub (lq rfl) rfl rfl) ?_
        obtain ⟨t24, ht24, hy2'⟩ := bE hy2; clear hy2
        refine da_g (x := .d (ds t24)) rfl rfl rfl (lq rfl) (lq rfl) rfl (fun hb => by obtain rfl : b15 = true := hb; exact a_call (lq rfl) rfl (ref40_Script_c ht24)) ?_
        refine da_g (x := .d (db (t19 == t24))) rfl rfl rfl (lq rfl) (lq rfl) rfl (fun hb => by obtain rfl : b15 = true := hb; exact m_seql (a := t19) (b := t24) (lq rfl) rfl rfl) ?_
        refine daa (a_pick_and (lq rfl) rfl rfl) ?_
        refine da_nil ?_
        refine avc_if rfl ⟨fun c2 => ?_, fun c2 => ?_⟩
        · replace hy2' := cT c2 hy2'
          refine avc_sq ?_
          refine sqa (a_move_row (lq rfl) rfl) ?_
          refine sqa (a_move_row (lq rfl) rfl) ?_
          refine sqa (m_lenR (en := eRange) (l := r1005) (lq rfl) S32 rfl rfl) ?_
          refine sqa (m_sub (lq rfl) rfl rfl) ?_
          refine sqa (a_move_d (lq rfl) rfl) ?_
          refine sqa (m_add (lq rfl) rfl rfl) ?_
          obtain ⟨t33, ht33, hy2⟩ := bE hy2'; clear hy2'
          refine sqa (m_indexR (en := eRange) (l := r1005) (lq rfl) S32 rfl rfl rfl ht33) ?_
          refine sqa (a_fieldAddr_ptr (lq rfl) L38_1 rfl) ?_
          obtain ⟨r1005_3, hr1005_3, hy2'⟩ := bE hy2; clear hy2
          refine sq_b rfl (m_store (en := eRange) (l := r1005) (i := (wi ((r1005.length : Int) - 1))) (v := t33) (off := 1) O3 rfl rfl rfl ht33 rfl (by decide) hr1005_3 rfl rfl) ?_
          refine sq_nil ?_
          cases hy2'
          exact out_mk (weak_cov ⟨rfl, rfl, rfl, rfl, trivial⟩ ⟨rfl, trivial⟩)
        · replace hy2' := cF c2 hy2'
          refine avc_sq ?_
          refine sqa (a_move_row (lq rfl) rfl) ?_
          refine sqa (a_move_d (lq rfl) rfl) ?_
          refine sqa (a_move_d (lq rfl) rfl) ?_
          refine sqa (m_add (lq rfl) rfl rfl) ?_
          refine sqa (m_build (lq rfl) B38 rfl rfl) ?_
          refine sqa (a_lit (lq rfl) S32 rfl rfl rfl rfl (by decide) rfl) ?_
          obtain ⟨r1005_4, hr1005_4, hy2⟩ := bE hy2'; clear hy2'
          refine sq_b rfl (m_append (en := eRange) (l := r1005) (m := [({ Lo := v6, Hi := wi (v6 + 1) } : Range)]) (lq rfl) S32 rfl rfl rfl hr1005_4 (by decide) (by decide) rfl rfl) ?_
          refine sqa (a_assign_row (lq rfl) rfl) ?_
          refine sq_nil ?_
          cases hy2
          exact out_mk (weak_cov ⟨rfl, rfl, rfl, rfl, trivial⟩ ⟨rfl, trivial⟩)
      ·
        refine avc_sq ?_
        refine sqa (a_move_d (lq rfl) rfl) ?_
        refine sqa (m_add (lq rfl) rfl rfl) ?_
        refine sqa (a_assign_d (lq rfl) rfl) ?_
        refine sq_nil ?_
        cases hsy1'
        exact weak_cov ⟨rfl, rfl, rfl, rfl, trivial⟩ ⟨rfl, trivial⟩
    · replace hsy1 := cF c1 hsy1
      refine avc_exit ?_
      cases hsy1
      intro q; cases q
      exact out_mk (weak_cov ⟨rfl, trivial⟩ ⟨rfl, trivial⟩)
  ·
    refine avc_sq2 ?_
    refine avc_sq ?_
    refine sqa (a_move_row (lq rfl) rfl) ?_
    refine sqa (a_assign_row (lq rfl) rfl) ?_
    refine sq_nil ?_
    cases h'
    refine avc_ret ?_
    exact ret_1 rfl

theorem law40_ScriptsRuns_c  {a0 : Property} {a1 : (List Int)}  {r : Bool} (h : law40_ScriptsRuns a0 a1 = some r) : Contract Try.prog 4 [(eProperty.dv a0), (dsl eI a1)] [(db r)] := by
  refine contract_of Try.func4 (by kernel_rfl) rfl (lq rfl) (lq rfl) fun w0 I0 => ?_
  unfold law40_ScriptsRuns at h
  refine avc_sq2 ?_
  refine avc_sq ?_
  refine sqa (m_box (size := 2) (lq rfl) rfl rfl) ?_
  refine sqa (a_assign_d (lq rfl) rfl) ?_
  refine sq_nil ?_
  refine avc_sq2 ?_
  refine avc_drawA MX rfl ?_
  refine daa (m_loadPt (lq rfl) G25 rfl rfl) ?_
  refine daa (a_move_d (lq rfl) rfl) ?_
  obtain ⟨t7, ht7, h'⟩ := bE h; clear h
  refine daa (a_call (lq rfl) rfl (law40_few_c ht7)) ?_
  refine daa (a_not (lq rfl) rfl) ?_
  obtain ⟨b9, hb9, h⟩ := bE h'; clear h'
  refine daa ((a_move_d (lq rfl) rfl).bool (Option.some.inj hb9)) ?_
  refine da_g (x := .d (eProperty.dv a0)) rfl rfl rfl (lq rfl) (lq rfl) rfl (fun hb => by obtain rfl := gF hb; exact m_loadPt (lq rfl) G25 rfl rfl) ?_
  refine da_g (x := .d (dsl eI a1)) rfl rfl rfl (lq rfl) (lq rfl) rfl (fun hb => by obtain rfl := gF hb; exact a_move_d (lq rfl) rfl) ?_
  obtain ⟨t12, ht12, h'⟩ := bE h; clear h
  refine da_g (x := .d (dsl eRange t12)) rfl rfl rfl (lq rfl) (lq rfl) rfl (fun hb => by obtain rfl := gF hb; exact a_call (lq rfl) rfl (scripts_Runs_c ht12)) ?_
  refine da_g (x := .d (eProperty.dv a0)) rfl rfl rfl (lq rfl) (lq rfl) rfl (fun hb => by obtain rfl := gF hb; exact m_loadPt (lq rfl) G25 rfl rfl) ?_
  refine da_g (x := .d (dsl eI a1)) rfl rfl rfl (lq rfl) (lq rfl) rfl (fun hb => by obtain rfl := gF hb; exact a_move_d (lq rfl) rfl) ?_
  obtain ⟨t15, ht15, h⟩ := bE h'; clear h'
  refine da_g (x := .d (dsl eRange t15)) rfl rfl rfl (lq rfl) (lq rfl) rfl (fun hb => by obtain rfl := gF hb; exact a_call (lq rfl) rfl (ref40_Runs_c ht15)) ?_
  obtain ⟨t16, ht16, h'⟩ := bE h; clear h
  refine da_g (x := .d (db t16)) rfl rfl rfl (lq rfl) (lq rfl) rfl (fun hb => by obtain rfl := gF hb; exact a_call (lq rfl) rfl (ref30_SameRanges_c ht16)) ?_
  refine daa (a_pick_or (lq rfl) rfl rfl) ?_
  obtain ⟨b18, hb18, h⟩ := bE h'; clear h'
  refine daa ((a_move_d (lq rfl) rfl).bool (Option.some.inj hb18)) ?_
  obtain ⟨t19, ht19, h'⟩ := bE h; clear h
  refine da_g (x := .d (db t19)) rfl rfl rfl (lq rfl) (lq rfl) rfl (fun hb => by obtain rfl : b18 = true := hb; exact a_call (lq rfl) rfl (law40_alive_c ht19)) ?_
  refine daa (a_pick_and (lq rfl) rfl rfl) ?_
  refine daa (a_assign_d (lq rfl) rfl) ?_
  refine da_nil ?_
  cases h'
  refine avc_ret ?_
  exact ret_1 rfl

theorem ref01_Valid_c  {a0 : Int}  {r : Bool} (h : ref01_Valid a0 = some r) : Contract Try.prog 39 [(di a0)] [(db r)] := by
  refine contract_of Try.func39 (by kernel_rfl) rfl (lq rfl) (lq rfl) fun w0 I0 => ?_
  unfold ref01_Valid at h
  refine avc_sq2 ?_
  refine avc_sq ?_
  refine sqa (a_assign_d (lq rfl) rfl) ?_
  refine sq_nil ?_
  refine avc_sq2 ?_
  refine avc_sq ?_
  refine sqa (a_move_d (lq rfl) rfl) ?_
  refine sqa (a_geq (lq rfl) rfl rfl) ?_
  obtain ⟨b5, hb5, h'⟩ := bE h; clear h
  refine sqa ((a_move_d (lq rfl) rfl).bool (Option.some.inj hb5)) ?_
  refine sq_g (x := .d (di a0)) rfl rfl rfl (lq rfl) (lq rfl) rfl (fun hb => by obtain rfl : b5 = true := hb; exact a_move_d (lq rfl) rfl) ?_
  refine sq_g (x := .d (db (decide (a0 ≤ 1114111)))) rfl rfl rfl (lq rfl) (lq rfl) rfl (fun hb => by obtain rfl : b5 = true := hb; exact a_leq (lq rfl) rfl rfl) ?_
  refine sqa (a_pick_and (lq rfl) rfl rfl) ?_
  refine sqa (a_assign_d (lq rfl) rfl) ?_
  refine sq_nil ?_
  cases h'
  refine avc_ret ?_
  exact ret_1 rfl

theorem ref40_Inside_c  {a0 : (List Str)} {a1 : (List Str)}  {r : Bool} (h : ref40_Inside a0 a1 = some r) : Contract Try.prog 25 [(dsl eS a0), (dsl eS a1)] [(db r)] := by
  refine contract_of Try.func25 (by kernel_rfl) rfl (lq rfl) (lq rfl) fun w0 I0 => ?_
  unfold ref40_Inside at h
  refine avc_sq2 ?_
  refine avc_sq ?_
  refine sqa (a_assign_d (lq rfl) rfl) ?_
  refine sq_nil ?_
  refine avc_sq2 ?_
  refine avc_sq2 ?_
  refine avc_sq ?_
  refine sqa (a_assign_d (lq rfl) rfl) ?_
  refine sq_nil ?_
  refine avc_block ?_
  obtain ⟨y1, hy1, h'⟩ := bE h; clear h
  rcases y1 with y1 | y1
  ·
    replace h' := eL h'
    refine avc_tail (e := .exit 0) (S2 := ⟨[], []⟩) ?_ ?_
    ·
      refine avc_loopM (fun x => ⟨[(0, .d (dsl eS a0)), (1, .d (dsl eS a1)), (5, .d (di x))], []⟩) hy1 (weak_cov ⟨rfl, rfl, rfl, trivial⟩ trivial) ?_
      rintro v5 sy1 hsy1
      replace hsy1 : ref40_Inside_L0 a0 a1 v5 = some sy1 := hsy1
      unfold ref40_Inside_L0 at hsy1
      refine avc_sq2 ?_
      refine avc_sq2 ?_
      refine avc_sq ?_
      refine sqa (a_move_d (lq rfl) rfl) ?_
      refine sqa (a_move_d (lq rfl) rfl) ?_
      refine sqa (m_len (en := eS) (l := a0) (lq rfl) S22 rfl) ?_
      refine sqa (a_lss (lq rfl) rfl rfl) ?_
      refine sq_nil ?_
      refine avc_if rfl ⟨fun c1 => ?_, fun c1 => ?_⟩
      · replace hsy1 := cT c1 hsy1
        refine avc_skip ?_
        refine avc_sq2 ?_
        refine avc_block ?_
        refine avc_sq2 ?_
        refine avc_sq ?_
        refine sqa (a_move_d (lq rfl) rfl) ?_
        refine sqa (a_move_d (lq rfl) rfl) ?_
        refine sqa (a_move_d (lq rfl) rfl) ?_
        obtain ⟨t15, ht15, hsy1'⟩ := bE hsy1; clear hsy1
        refine sqa (m_index (en := eS) (lq rfl) S22 rfl rfl ht15) ?_
        refine sqa (m_loadE (en := eS) (l := a0) (i := v5) (v := t15) (off := 0) (lq rfl) O9 rfl ht15 rfl) ?_
        obtain ⟨t17, ht17, hsy1⟩ := bE hsy1'; clear hsy1'
        refine sqa (a_call (lq rfl) rfl (ref40_Has_c ht17)) ?_
        refine sqa (a_not (lq rfl) rfl) ?_
        refine sq_nil ?_
        refine avc_if rfl ⟨fun c2 => ?_, fun c2 => ?_⟩
        · replace hsy1 := cT c2 hsy1
          refine avc_sq2 ?_
          refine avc_sq ?_
          refine sqa (a_assign_d (lq rfl) rfl) ?_
          refine sq_nil ?_
          refine avc_ret ?_
          cases hsy1
          intro q; cases q
        · replace hsy1 := cF c2 hsy1
          refine avc_skip ?_
          refine avc_sq ?_
          refine sqa (a_move_d (lq rfl) rfl) ?_
          refine sqa (m_add (lq rfl) rfl rfl) ?_
          refine sqa (a_assign_d (lq rfl) rfl) ?_
          refine sq_nil ?_
          cases hsy1
          exact weak_cov ⟨rfl, rfl, rfl, trivial⟩ trivial
      · replace hsy1 := cF c1 hsy1
        refine avc_exit ?_
        cases hsy1
        intro q; cases q
        exact out_mk (weak_cov trivial trivial)
    ·
      refine avc_sq2 ?_
      refine avc_sq ?_
      refine sqa (a_assign_d (lq rfl) rfl) ?_
      refine sq_nil ?_
      cases h'
      refine avc_ret ?_
      exact ret_1 rfl
  ·
    replace h' := eR h'
    refine avc_tail (e := .ret) (S2 := ⟨[(4, .d (db y1))], []⟩) ?_ ?_
    ·
      refine avc_loopM (fun x => ⟨[(0, .d (dsl eS a0)), (1, .d (dsl eS a1)), (5, .d (di x))], []⟩) hy1 (weak_cov ⟨rfl, rfl, rfl, trivial⟩ trivial) ?_
      rintro v5 sy1 hsy1
      replace hsy1 : ref40_Inside_L0 a0 a1 v5 = some sy1 := hsy1
      unfold ref40_Inside_L0 at hsy1
      refine avc_sq2 ?_
      refine avc_sq2 ?_
      refine avc_sq ?_
      refine sqa (a_move_d (lq rfl) rfl) ?_
      refine sqa (a_move_d (lq rfl) rfl) ?_
      refine sqa (m_len (en := eS) (l := a0) (lq rfl) S22 rfl) ?_
      refine sqa (a_lss (lq rfl) rfl rfl) ?_
      refine sq_nil ?_
      refine avc_if rfl ⟨fun c1 => ?_, fun c1 => ?_⟩
      · replace hsy1 := cT c1 hsy1
        refine avc_skip ?_
        refine avc_sq2 ?_
        refine avc_block ?_
        refine avc_sq2 ?_
        refine avc_sq ?_
        refine sqa (a_move_d (lq rfl) rfl) ?_
        refine sqa (a_move_d (lq rfl) rfl) ?_
        refine sqa (a_move_d (lq rfl) rfl) ?_
        obtain ⟨t15, ht15, hsy1'⟩ := bE hsy1; clear hsy1
        refine sqa (m_index (en := eS) (lq rfl) S22 rfl rfl ht15) ?_
        refine sqa (m_loadE (en := eS) (l := a0) (i := v5) (v := t15) (off := 0) (lq rfl) O9 rfl ht15 rfl) ?_
        obtain ⟨t17, ht17, hsy1⟩ := bE hsy1'; clear hsy1'
        refine sqa (a_call (lq rfl) rfl (ref40_Has_c ht17)) ?_
        refine sqa (a_not (lq rfl) rfl) ?_
        refine sq_nil ?_
        refine avc_if rfl ⟨fun c2 => ?_, fun c2 => ?_⟩
        · replace hsy1 := cT c2 hsy1
          refine avc_sq2 ?_
          refine avc_sq ?_
          refine sqa (a_assign_d (lq rfl) rfl) ?_
          refine sq_nil ?_
          refine avc_ret ?_
          cases hsy1
          intro q; cases q
          exact out_mk (weak_cov ⟨rfl, trivial⟩ trivial)
        · replace hsy1 := cF c2 hsy1
          refine avc_skip ?_
          refine avc_sq ?_
          refine sqa (a_move_d (lq rfl) rfl) ?_
          refine sqa (m_add (lq rfl) rfl rfl) ?_
          refine sqa (a_assign_d (lq rfl) rfl) ?_
          refine sq_nil ?_
          cases hsy1
          exact weak_cov ⟨rfl, rfl, rfl, trivial⟩ trivial
      · replace hsy1 := cF c1 hsy1
        refine avc_exit ?_
        cases hsy1
        intro q; cases q
    ·
      cases h'
      exact ret_1 rfl

theorem ref40_Level_c  {a0 : Property} {a1 : (List (List Str))} {a2 : (List Int)}  {r : Int} (h : ref40_Level a0 a1 a2 = some r) : Contract Try.prog 21 [(eProperty.dv a0), (dsl (eL eS) a1), (dsl eI a2)] [(di r)] := by
  refine contract_of Try.func21 (by kernel_rfl) rfl (lq rfl) (lq rfl) fun w0 I0 => ?_
  unfold ref40_Level at h
  refine avc_sq2 ?_
  refine avc_sq ?_
  refine sqa (m_box (size := 2) (lq rfl) rfl rfl) ?_
  refine sqa (a_assign_d (lq rfl) rfl) ?_
  refine sq_nil ?_
  refine avc_sq2 ?_
  refine avc_sq ?_
  refine sqa (a_assign_d (lq rfl) rfl) ?_
  refine sq_nil ?_
  refine avc_sq2 ?_
  refine avc_sq2 ?_
  refine avc_sq ?_
  refine sqa (a_assign_d (lq rfl) rfl) ?_
  refine sq_nil ?_
  refine avc_block ?_
  obtain ⟨y1, hy1, h'⟩ := bE h; clear h
  refine avc_tail (e := .exit 0) (S2 := ⟨[(1, .d (dsl (eL eS) a1)), (2, .d (dsl eI a2)), (3, .d (.pt (eProperty.cells a0))), (7, .d (db y1))], []⟩) ?_ ?_
  ·
    refine avc_loopM (fun x => ⟨[(1, .d (dsl (eL eS) a1)), (2, .d (dsl eI a2)), (3, .d (.pt (eProperty.cells a0))), (7, .d (db x.1)), (8, .d (di x.2))], []⟩) hy1 (weak_cov ⟨rfl, rfl, rfl, rfl, rfl, trivial⟩ trivial) ?_
    rintro ⟨v7, v8⟩ sy1 hsy1
    replace hsy1 : ref40_Level_L0 a2 v7 v8 = some sy1 := hsy1
    unfold ref40_Level_L0 at hsy1
    refine avc_sq2 ?_
    refine avc_sq2 ?_
    refine avc_sq ?_
    refine sqa (a_move_d (lq rfl) rfl) ?_
    refine sqa (a_move_d (lq rfl) rfl) ?_
    refine sqa (m_len (en := eI) (l := a2) (lq rfl) S26 rfl) ?_
    refine sqa (a_lss (lq rfl) rfl rfl) ?_
    refine sq_nil ?_
    refine avc_if rfl ⟨fun c1 => ?_, fun c1 => ?_⟩
    · replace hsy1 := cT c1 hsy1
      refine avc_skip ?_
      refine avc_sq2 ?_
      refine avc_block ?_
      refine avc_sq ?_
      refine sqa (a_move_d (lq rfl) rfl) ?_
      obtain ⟨b18, hb18, hsy1'⟩ := bE hsy1; clear hsy1
      refine sqa ((a_move_d (lq rfl) rfl).bool (Option.some.inj hb18)) ?_
      refine sq_g (x := .d (dsl eI a2)) rfl rfl rfl (lq rfl) (lq rfl) rfl (fun hb => by obtain rfl : b18 = true := hb; exact a_move_d (lq rfl) rfl) ?_
      refine sq_g (x := .d (di v8)) rfl rfl rfl (lq rfl) (lq rfl) rfl (fun hb => by obtain rfl : b18 = true := hb; exact a_move_d (lq rfl) rfl) ?_
      obtain ⟨t21, ht21, hsy1⟩ := bE hsy1'; clear hsy1'
      refine sq_g (x := .ip (eI.all a2) (v8.toNat * eI.size)) rfl rfl rfl (lq rfl) (lq rfl) rfl (fun hb => by obtain rfl : b18 = true := hb; exact m_index (en := eI) (lq rfl) S26 rfl rfl ht21) ?_
      refine sq_g (x := .d (di t21)) rfl rfl rfl (lq rfl) (lq rfl) rfl (fun hb => by obtain rfl : b18 = true := hb; exact m_loadE (en := eI) (l := a2) (i := v8) (v := t21) (off := 0) (lq rfl) O3 rfl ht21 rfl) ?_
      obtain ⟨t23, ht23, hsy1'⟩ := bE hsy1; clear hsy1
      refine sq_g (x := .d (db t23)) rfl rfl rfl (lq rfl) (lq rfl) rfl (fun hb => by obtain rfl : b18 = true := hb; exact a_call (lq rfl) rfl (ref01_Valid_c ht23)) ?_
      refine sqa (a_pick_and (lq rfl) rfl rfl) ?_
      obtain ⟨b25, hb25, hsy1⟩ := bE hsy1'; clear hsy1'
      refine sqa ((a_move_d (lq rfl) rfl).bool (Option.some.inj hb25)) ?_
      refine sq_g (x := .d (dsl eI a2)) rfl rfl rfl (lq rfl) (lq rfl) rfl (fun hb => by obtain rfl : b25 = true := hb; exact a_move_d (lq rfl) rfl) ?_
      refine sq_g (x := .d (di v8)) rfl rfl rfl (lq rfl) (lq rfl) rfl (fun hb => by obtain rfl : b25 = true := hb; exact a_move_d (lq rfl) rfl) ?_
      obtain ⟨t28, ht28, hsy1'⟩ := bE hsy1; clear hsy1
      refine sq_g (x := .ip (eI.all a2) (v8.toNat * eI.size)) rfl rfl rfl (lq rfl) (lq rfl) rfl (fun hb => by obtain rfl : b25 = true := hb; exact m_index (en := eI) (lq rfl) S26 rfl rfl ht28) ?_
      refine sq_g (x := .d (di t28)) rfl rfl rfl (lq rfl) (lq rfl) rfl (fun hb => by obtain rfl : b25 = true := hb; exact m_loadE (en := eI) (l := a2) (i := v8) (v := t28) (off := 0) (lq rfl) O3 rfl ht28 rfl) ?_
      refine sq_g (x := .d (db (decide (t28 < 128)))) rfl rfl rfl (lq rfl) (lq rfl) rfl (fun hb => by obtain rfl : b25 = true := hb; exact a_lss (lq rfl) rfl rfl) ?_
      refine sqa (a_pick_and (lq rfl) rfl rfl) ?_
      refine sqa (a_assign_d (lq rfl) rfl) ?_
      refine sq_nil ?_
      refine avc_sq ?_
      refine sqa (a_move_d (lq rfl) rfl) ?_
      refine sqa (m_add (lq rfl) rfl rfl) ?_
      refine sqa (a_assign_d (lq rfl) rfl) ?_
      refine sq_nil ?_
      cases hsy1'
      exact weak_cov ⟨rfl, rfl, rfl, rfl, rfl, trivial⟩ trivial
    · replace hsy1 := cF c1 hsy1
      refine avc_exit ?_
      cases hsy1
      intro q; cases q
      exact out_mk (weak_cov ⟨rfl, rfl, rfl, rfl, trivial⟩ trivial)
  ·
    refine avc_sq2 ?_
    refine avc_sq2 ?_
    refine avc_sq ?_
    refine sqa (a_move_d (lq rfl) rfl) ?_
    refine sq_nil ?_
    refine avc_if rfl ⟨fun c2 => ?_, fun c2 => ?_⟩
    · replace h' := cT c2 h'
      refine avc_sq2 ?_
      refine avc_sq ?_
      refine sqa (a_assign_d (lq rfl) rfl) ?_
      refine sq_nil ?_
      cases h'
      refine avc_ret ?_
      exact ret_1 rfl
    · replace h' := cF c2 h'
      refine avc_skip ?_
      refine avc_sq2 ?_
      refine avc_sq ?_
      refine sqa (m_loadPt (lq rfl) G25 rfl rfl) ?_
      refine sqa (a_move_d (lq rfl) rfl) ?_
      obtain ⟨t35, ht35, h⟩ := bE h'; clear h'
      refine sqa (a_call (lq rfl) rfl (ref40_Of_c ht35)) ?_
      refine sqa (a_assign_d (lq rfl) rfl) ?_
      refine sq_nil ?_
      refine avc_sq2 ?_
      refine avc_sq2 ?_
      refine avc_sq ?_
      refine sqa (a_move_d (lq rfl) rfl) ?_
      refine sqa (m_len (en := eS) (l := t35) (lq rfl) S22 rfl) ?_
      refine sqa (a_lss (lq rfl) rfl rfl) ?_
      refine sq_nil ?_
      refine avc_if rfl ⟨fun c3 => ?_, fun c3 => ?_⟩
      · replace h := cT c3 h
        refine avc_sq2 ?_
        refine avc_sq ?_
        refine sqa (a_assign_d (lq rfl) rfl) ?_
        refine sq_nil ?_
        cases h
        refine avc_ret ?_
        exact ret_1 rfl
      · replace h := cF c3 h
        refine avc_skip ?_
        refine avc_sq2 ?_
        refine avc_sq2 ?_
        refine avc_sq ?_
        refine sqa (a_assign_d (lq rfl) rfl) ?_
        refine sq_nil ?_
        refine avc_block ?_
        obtain ⟨y2, hy2, h'⟩ := bE h; clear h
        rcases y2 with y2 | y2
        ·
          replace h' := eL h'
          refine avc_tail (e := .exit 2) (S2 := ⟨[], []⟩) ?_ ?_
          ·
            refine avc_loopM (fun x => ⟨[(1, .d (dsl (eL eS) a1)), (9, .d (dsl eS t35)), (10, .d (di x))], []⟩) hy2 (weak_cov ⟨rfl, rfl, rfl, trivial⟩ trivial) ?_
            rintro v10 sy2 hsy2
            replace hsy2 : ref40_Level_L1 a1 t35 v10 = some sy2 := hsy2
            unfold ref40_Level_L1 at hsy2
            refine avc_sq2 ?_
            refine avc_sq2 ?_
            refine avc_sq ?_
            refine sqa (a_move_d (lq rfl) rfl) ?_
            refine sqa (a_move_d (lq rfl) rfl) ?_
            refine sqa (m_len (en := (eL eS)) (l := a1) (lq rfl) S34 rfl) ?_
            refine sqa (a_lss (lq rfl) rfl rfl) ?_
            refine sq_nil ?_
            refine avc_if rfl ⟨fun c4 => ?_, fun c4 => ?_⟩
            · replace hsy2 := cT c4 hsy2
              refine avc_skip ?_
              refine avc_sq2 ?_
              refine avc_block ?_
              refine avc_sq2 ?_
              refine avc_sq ?_
              refine sqa (a_move_d (lq rfl) rfl) ?_
              refine sqa (a_move_d (lq rfl) rfl) ?_
              refine sqa (a_move_d (lq rfl) rfl) ?_
              obtain ⟨t48, ht48, hsy2'⟩ := bE hsy2; clear hsy2
              refine sqa (m_index (en := (eL eS)) (lq rfl) S34 rfl rfl ht48) ?_
              refine sqa (m_loadE (en := (eL eS)) (l := a1) (i := v10) (v := t48) (off := 0) (lq rfl) O22 rfl ht48 rfl) ?_
              obtain ⟨t50, ht50, hsy2⟩ := bE hsy2'; clear hsy2'
              refine sqa (a_call (lq rfl) rfl (ref40_Inside_c ht50)) ?_
              refine sq_nil ?_
              refine avc_if rfl ⟨fun c5 => ?_, fun c5 => ?_⟩
              · replace hsy2 := cT c5 hsy2
                refine avc_sq2 ?_
                refine avc_sq ?_
                refine sqa (a_assign_d (lq rfl) rfl) ?_
                refine sq_nil ?_
                refine avc_ret ?_
                cases hsy2
                intro q; cases q
              · replace hsy2 := cF c5 hsy2
                refine avc_skip ?_
                refine avc_sq ?_
                refine sqa (a_move_d (lq rfl) rfl) ?_
                refine sqa (m_add (lq rfl) rfl rfl) ?_
                refine sqa (a_assign_d (lq rfl) rfl) ?_
                refine sq_nil ?_
                cases hsy2
                exact weak_cov ⟨rfl, rfl, rfl, trivial⟩ trivial
            · replace hsy2 := cF c4 hsy2
              refine avc_exit ?_
              cases hsy2
              intro q; cases q
              exact out_mk (weak_cov trivial trivial)
          ·
            refine avc_sq2 ?_
            refine avc_sq ?_
            refine sqa (a_assign_d (lq rfl) rfl) ?_
            refine sq_nil ?_
            cases h'
            refine avc_ret ?_
            exact ret_1 rfl
        ·
          replace h' := eR h'
          refine avc_tail (e := .ret) (S2 := ⟨[(6, .d (di y2))], []⟩) ?_ ?_
          ·
            refine avc_loopM (fun x => ⟨[(1, .d (dsl (eL eS) a1)), (9, .d (dsl eS t35)), (10, .d (di x))], []⟩) hy2 (weak_cov ⟨rfl, rfl, rfl, trivial⟩ trivial) ?_
            rintro v10 sy2 hsy2
            replace hsy2 : ref40_Level_L1 a1 t35 v10 = some sy2 := hsy2
            unfold ref40_Level_L1 at hsy2
            refine avc_sq2 ?_
            refine avc_sq2 ?_
            refine avc_sq ?_
            refine sqa (a_move_d (lq rfl) rfl) ?_
            refine sqa (a_move_d (lq rfl) rfl) ?_
            refine sqa (m_len (en := (eL eS)) (l := a1) (lq rfl) S34 rfl) ?_
            refine sqa (a_lss (lq rfl) rfl rfl) ?_
            refine sq_nil ?_
            refine avc_if rfl ⟨fun c4 => ?_, fun c4 => ?_⟩
            · replace hsy2 := cT c4 hsy2
              refine avc_skip ?_
              refine avc_sq2 ?_
              refine avc_block ?_
              refine avc_sq2 ?_
              refine avc_sq ?_
              refine sqa (a_move_d (lq rfl) rfl) ?_
              refine sqa (a_move_d (lq rfl) rfl) ?_
              refine sqa (a_move_d (lq rfl) rfl) ?_
              obtain ⟨t48, ht48, hsy2'⟩ := bE hsy2; clear hsy2
              refine sqa (m_index (en := (eL eS)) (lq rfl) S34 rfl rfl ht48) ?_
              refine sqa (m_loadE (en := (eL eS)) (l := a1) (i := v10) (v := t48) (off := 0) (lq rfl) O22 rfl ht48 rfl) ?_
              obtain ⟨t50, ht50, hsy2⟩ := bE hsy2'; clear hsy2'
              refine sqa (a_call (lq rfl) rfl (ref40_Inside_c ht50)) ?_
              refine sq_nil ?_
              refine avc_if rfl ⟨fun c5 => ?_, fun c5 => ?_⟩
              · replace hsy2 := cT c5 hsy2
                refine avc_sq2 ?_
                refine avc_sq ?_
                refine sqa (a_assign_d (lq rfl) rfl) ?_
                refine sq_nil ?_
                refine avc_ret ?_
                cases hsy2
                intro q; cases q
                exact out_mk (weak_cov ⟨rfl, trivial⟩ trivial)
              · replace hsy2 := cF c5 hsy2
                refine avc_skip ?_
                refine avc_sq ?_
                refine sqa (a_move_d (lq rfl) rfl) ?_
                refine sqa (m_add (lq rfl) rfl rfl) ?_
                refine sqa (a_assign_d (lq rfl) rfl) ?_
                refine sq_nil ?_
                cases hsy2
                exact weak_cov ⟨rfl, rfl, rfl, trivial⟩ trivial
            · replace hsy2 := cF c4 hsy2
              refine avc_exit ?_
              cases hsy2
              intro q; cases q
          ·
            cases h'
            exact ret_1 rfl

theorem law40_ScriptsLevels_c  {a0 : Property} {a1 : (List (List Str))} {a2 : (List Int)}  {r : Bool} (h : law40_ScriptsLevels a0 a1 a2 = some r) : Contract Try.prog 5 [(eProperty.dv a0), (dsl (eL eS) a1), (dsl eI a2)] [(db r)] := by
  refine contract_of Try.func5 (by kernel_rfl) rfl (lq rfl) (lq rfl) fun w0 I0 => ?_
  unfold law40_ScriptsLevels at h
  refine avc_sq2 ?_
  refine avc_sq ?_
  refine sqa (m_box (size := 2) (lq rfl) rfl rfl) ?_
  refine sqa (a_assign_d (lq rfl) rfl) ?_
  refine sq_nil ?_
  refine avc_sq2 ?_
  refine avc_sq2 ?_
  refine avc_sq ?_
  refine sqa (m_loadPt (lq rfl) G25 rfl rfl) ?_
  refine sqa (a_move_d (lq rfl) rfl) ?_
  obtain ⟨t10, ht10, h'⟩ := bE h; clear h
  refine sqa (a_call (lq rfl) rfl (law40_few_c ht10)) ?_
  refine sqa (a_not (lq rfl) rfl) ?_
  obtain ⟨b12, hb12, h⟩ := bE h'; clear h'
  refine sqa ((a_move_d (lq rfl) rfl).bool (Option.some.inj hb12)) ?_
  refine sq_g (x := .d (dsl (eL eS) a1)) rfl rfl rfl (lq rfl) (lq rfl) rfl (fun hb => by obtain rfl := gF hb; exact a_move_d (lq rfl) rfl) ?_
  refine sq_g (x := .d (di (a1.length : Int))) rfl rfl rfl (lq rfl) (lq rfl) rfl (fun hb => by obtain rfl := gF hb; exact m_len (en := (eL eS)) (l := a1) (lq rfl) S34 rfl) ?_
  refine sq_g (x := .d (db (decide (10 < (a1.length : Int))))) rfl rfl rfl (lq rfl) (lq rfl) rfl (fun hb => by obtain rfl := gF hb; exact a_gtr (lq rfl) rfl rfl) ?_
  refine sqa (a_pick_or (lq rfl) rfl rfl) ?_
  refine sq_nil ?_
  refine avc_if rfl ⟨fun c1 => ?_, fun c1 => ?_⟩
  · replace h := cT c1 h
    refine avc_sq2 ?_
    refine avc_sq ?_
    obtain ⟨t17, ht17, h'⟩ := bE h; clear h
    refine sqa (a_call (lq rfl) rfl (law40_alive_c ht17)) ?_
    refine sqa (a_assign_d (lq rfl) rfl) ?_
    refine sq_nil ?_
    cases h'
    refine avc_ret ?_
    exact ret_1 rfl
  · replace h := cF c1 h
    refine avc_skip ?_
    refine avc_sq2 ?_
    refine avc_sq2 ?_
    refine avc_sq ?_
    refine sqa (a_assign_d (lq rfl) rfl) ?_
    refine sq_nil ?_
    refine avc_block ?_
    obtain ⟨y1, hy1, h'⟩ := bE h; clear h
    rcases y1 with y1 | y1
    ·
      replace h' := eL h'
      refine avc_tail (e := .exit 0) (S2 := ⟨[(1, .d (dsl (eL eS) a1)), (2, .d (dsl eI a2)), (3, .d (.pt (eProperty.cells a0)))], []⟩) ?_ ?_
      ·
        refine avc_loopM (fun x => ⟨[(1, .d (dsl (eL eS) a1)), (2, .d (dsl eI a2)), (3, .d (.pt (eProperty.cells a0))), (7, .d (di x))], []⟩) hy1 (weak_cov ⟨rfl, rfl, rfl, rfl, trivial⟩ trivial) ?_
        rintro v7 sy1 hsy1
        replace hsy1 : law40_ScriptsLevels_L0 a1 v7 = some sy1 := hsy1
        unfold law40_ScriptsLevels_L0 at hsy1
        refine avc_sq2 ?_
        refine avc_sq2 ?_
        refine avc_sq ?_
        refine sqa (a_move_d (lq rfl) rfl) ?_
        refine sqa (a_move_d (lq rfl) rfl) ?_
        refine sqa (m_len (en := (eL eS)) (l := a1) (lq rfl) S34 rfl) ?_
        refine sqa (a_lss (lq rfl) rfl rfl) ?_
        refine sq_nil ?_
        refine avc_if rfl ⟨fun c2 => ?_, fun c2 => ?_⟩
        · replace hsy1 := cT c2 hsy1
          refine avc_skip ?_
          refine avc_sq2 ?_
          refine avc_block ?_
          refine avc_sq2 ?_
          refine avc_sq ?_
          refine sqa (a_move_d (lq rfl) rfl) ?_
          refine sqa (a_move_d (lq rfl) rfl) ?_
          obtain ⟨t26, ht26, hsy1'⟩ := bE hsy1; clear hsy1
          refine sqa (m_index (en := (eL eS)) (lq rfl) S34 rfl rfl ht26) ?_
          refine sqa (m_loadE (en := (eL eS)) (l := a1) (i := v7) (v := t26) (off := 0) (lq rfl) O22 rfl ht26 rfl) ?_
          refine sqa (m_len (en := eS) (l := t26) (lq rfl) S22 rfl) ?_
          refine sqa (a_gtr (lq rfl) rfl rfl) ?_
          refine sq_nil ?_
          refine avc_if rfl ⟨fun c3 => ?_, fun c3 => ?_⟩
          · replace hsy1' := cT c3 hsy1'
            refine avc_sq2 ?_
            refine avc_sq ?_
            obtain ⟨t30, ht30, hsy1⟩ := bE hsy1'; clear hsy1'
            refine sqa (a_call (lq rfl) rfl (law40_alive_c ht30)) ?_
            refine sqa (a_assign_d (lq rfl) rfl) ?_
            refine sq_nil ?_
            refine avc_ret ?_
            cases hsy1
            intro q; cases q
          · replace hsy1' := cF c3 hsy1'
            refine avc_skip ?_
            refine avc_sq ?_
            refine sqa (a_move_d (lq rfl) rfl) ?_
            refine sqa (m_add (lq rfl) rfl rfl) ?_
            refine sqa (a_assign_d (lq rfl) rfl) ?_
            refine sq_nil ?_
            cases hsy1'
            exact weak_cov ⟨rfl, rfl, rfl, rfl, trivial⟩ trivial
        · replace hsy1 := cF c2 hsy1
          refine avc_exit ?_
          cases hsy1
          intro q; cases q
          exact out_mk (weak_cov ⟨rfl, rfl, rfl, trivial⟩ trivial)
      ·
        refine avc_sq2 ?_
        refine avc_drawA MX rfl ?_
        refine daa (m_loadPt (lq rfl) G25 rfl rfl) ?_
        refine daa (a_move_d (lq rfl) rfl) ?_
        refine daa (a_move_d (lq rfl) rfl) ?_
        obtain ⟨t34, ht34, h⟩ := bE h'; clear h'
        refine daa (a_call (lq rfl) rfl (scripts_Level_c ht34)) ?_
        refine daa (m_loadPt (lq rfl) G25 rfl rfl) ?_
        refine daa (a_move_d (lq rfl) rfl) ?_
        refine daa (a_move_d (lq rfl) rfl) ?_
        obtain ⟨t38, ht38, h'⟩ := bE h; clear h
        refine daa (a_call (lq rfl) rfl (ref40_Level_c ht38)) ?_
        refine daa (a_eql (lq rfl) rfl rfl) ?_
        obtain ⟨b40, hb40, h⟩ := bE h'; clear h'
        refine daa ((a_move_d (lq rfl) rfl).bool (Option.some.inj hb40)) ?_
        obtain ⟨t41, ht41, h'⟩ := bE h; clear h
        refine da_g (x := .d (db t41)) rfl rfl rfl (lq rfl) (lq rfl) rfl (fun hb => by obtain rfl : b40 = true := hb; exact a_call (lq rfl) rfl (law40_alive_c ht41)) ?_
        refine daa (a_pick_and (lq rfl) rfl rfl) ?_
        refine daa (a_assign_d (lq rfl) rfl) ?_
        refine da_nil ?_
        cases h'
        refine avc_ret ?_
        exact ret_1 rfl
    ·
      replace h' := eR h'
      refine avc_tail (e := .ret) (S2 := ⟨[(6, .d (db y1))], []⟩) ?_ ?_
      ·
        refine avc_loopM (fun x => ⟨[(1, .d (dsl (eL eS) a1)), (2, .d (dsl eI a2)), (3, .d (.pt (eProperty.cells a0))), (7, .d (di x))], []⟩) hy1 (weak_cov ⟨rfl, rfl, rfl, rfl, trivial⟩ trivial) ?_
        rintro v7 sy1 hsy1
        replace hsy1 : law40_ScriptsLevels_L0 a1 v7 = some sy1 := hsy1
        unfold law40_ScriptsLevels_L0 at hsy1
        refine avc_sq2 ?_
        refine avc_sq2 ?_
        refine avc_sq ?_
        refine sqa (a_move_d (lq rfl) rfl) ?_
        refine sqa (a_move_d (lq rfl) rfl) ?_
        refine sqa (m_len (en := (eL eS)) (l := a1) (lq rfl) S34 rfl) ?_
        refine sqa (a_lss (lq rfl) rfl rfl) ?_
        refine sq_nil ?_
        refine avc_if rfl ⟨fun c2 => ?_, fun c2 => ?_⟩
        · replace hsy1 := cT c2 hsy1
          refine avc_skip ?_
          refine avc_sq2 ?_
          refine avc_block ?_
          refine avc_sq2 ?_
          refine avc_sq ?_
          refine sqa (a_move_d (lq rfl) rfl) ?_
          refine sqa (a_move_d (lq rfl) rfl) ?_
          obtain ⟨t26, ht26, hsy1'⟩ := bE hsy1; clear hsy1
          refine sqa (m_index (en := (eL eS)) (lq rfl) S34 rfl rfl ht26) ?_
          refine sqa (m_loadE (en := (eL eS)) (l := a1) (i := v7) (v := t26) (off := 0) (lq rfl) O22 rfl ht26 rfl) ?_
          refine sqa (m_len (en := eS) (l := t26) (lq rfl) S22 rfl) ?_
          refine sqa (a_gtr (lq rfl) rfl rfl) ?_
          refine sq_nil ?_
          refine avc_if rfl ⟨fun c3 => ?_, fun c3 => ?_⟩
          · replace hsy1' := cT c3 hsy1'
            refine avc_sq2 ?_
            refine avc_sq ?_
            obtain ⟨t30, ht30, hsy1⟩ := bE hsy1'; clear hsy1'
            refine sqa (a_call (lq rfl) rfl (law40_alive_c ht30)) ?_
            refine sqa (a_assign_d (lq rfl) rfl) ?_
            refine sq_nil ?_
            refine avc_ret ?_
            cases hsy1
            intro q; cases q
            exact out_mk (weak_cov ⟨rfl, trivial⟩ trivial)
          · replace hsy1' := cF c3 hsy1'
            refine avc_skip ?_
            refine avc_sq ?_
            refine sqa (a_move_d (lq rfl) rfl) ?_
            refine sqa (m_add (lq rfl) rfl rfl) ?_
            refine sqa (a_assign_d (lq rfl) rfl) ?_
            refine sq_nil ?_
            cases hsy1'
            exact weak_cov ⟨rfl, rfl, rfl, rfl, trivial⟩ trivial
        · replace hsy1 := cF c2 hsy1
          refine avc_exit ?_
          cases hsy1
          intro q; cases q
      ·
        cases h'
        exact ret_1 rfl

theorem law40_ScriptsCover_c  {a0 : Property} {a1 : (List Int)}  {r : Bool} (h : law40_ScriptsCover a0 a1 = some r) : Contract Try.prog 6 [(eProperty.dv a0), (dsl eI a1)] [(db r)] := by
  refine contract_of Try.func6 (by kernel_rfl) rfl (lq rfl) (lq rfl) fun w0 I0 => ?_
  unfold law40_ScriptsCover at h
  refine avc_sq2 ?_
  refine avc_sq ?_
  refine sqa (m_box (size := 2) (lq rfl) rfl rfl) ?_
  refine sqa (a_assign_d (lq rfl) rfl) ?_
  refine sq_nil ?_
  refine avc_sq2 ?_
  refine avc_sq2 ?_
  refine avc_sq ?_
  refine sqa (m_loadPt (lq rfl) G25 rfl rfl) ?_
  refine sqa (a_move_d (lq rfl) rfl) ?_
  obtain ⟨t12, ht12, h'⟩ := bE h; clear h
  refine sqa (a_call (lq rfl) rfl (law40_few_c ht12)) ?_
  refine sqa (a_not (lq rfl) rfl) ?_
  refine sq_nil ?_
  refine avc_if rfl ⟨fun c1 => ?_, fun c1 => ?_⟩
  · replace h' := cT c1 h'
    refine avc_sq2 ?_
    refine avc_sq ?_
    obtain ⟨t14, ht14, h⟩ := bE h'; clear h'
    refine sqa (a_call (lq rfl) rfl (law40_alive_c ht14)) ?_
    refine sqa (a_assign_d (lq rfl) rfl) ?_
    refine sq_nil ?_
    cases h
    refine avc_ret ?_
    exact ret_1 rfl
  · replace h' := cF c1 h'
    refine avc_skip ?_
    refine avc_sq2 ?_
    refine avc_sq ?_
    refine sqa (m_loadPt (lq rfl) G25 rfl rfl) ?_
    refine sqa (a_move_d (lq rfl) rfl) ?_
    obtain ⟨t17, ht17, h⟩ := bE h'; clear h'
    refine sqa (a_call (lq rfl) rfl (scripts_Runs_c ht17)) ?_
    refine sqa (a_assign_d (lq rfl) rfl) ?_
    refine sq_nil ?_
    refine avc_sq2 ?_
    refine avc_sq ?_
    refine sqa (a_assign_d (lq rfl) rfl) ?_
    refine sq_nil ?_
    refine avc_sq2 ?_
    refine avc_sq ?_
    refine sqa (a_assign_d (lq rfl) rfl) ?_
    refine sq_nil ?_
    refine avc_sq2 ?_
    refine avc_sq2 ?_
    refine avc_sq ?_
    refine sqa (a_assign_d (lq rfl) rfl) ?_
    refine sq_nil ?_
    refine avc_block ?_
    obtain ⟨y1, hy1, h'⟩ := bE h; clear h
    rcases y1 with y1 | y1
    ·
      replace h' := eL h'
      refine avc_tail (e := .exit 0) (S2 := ⟨[(1, .d (dsl eI a1)), (6, .d (di y1))], []⟩) ?_ ?_
      ·
        refine avc_loopM (fun x => ⟨[(1, .d (dsl eI a1)), (2, .d (.pt (eProperty.cells a0))), (5, .d (dsl eRange t17)), (6, .d (di x.1)), (7, .d (ds x.2.1)), (8, .d (di x.2.2))], []⟩) hy1 (weak_cov ⟨rfl, rfl, rfl, rfl, rfl, rfl, trivial⟩ trivial) ?_
        rintro ⟨v6, v7, v8⟩ sy1 hsy1
        replace hsy1 : law40_ScriptsCover_L0 t17 a1 a0 v6 v7 v8 = some sy1 := hsy1
        unfold law40_ScriptsCover_L0 at hsy1
        refine avc_sq2 ?_
        refine avc_sq2 ?_
        refine avc_sq ?_
        refine sqa (a_move_d (lq rfl) rfl) ?_
        refine sqa (a_move_d (lq rfl) rfl) ?_
        refine sqa (m_len (en := eRange) (l := t17) (lq rfl) S32 rfl) ?_
        refine sqa (a_lss (lq rfl) rfl rfl) ?_
        refine sq_nil ?_
        refine avc_if rfl ⟨fun c2 => ?_, fun c2 => ?_⟩
        · replace hsy1 := cT c2 hsy1
          refine avc_skip ?_
          refine avc_sq2 ?_
          refine avc_block ?_
          refine avc_sq2 ?_
          refine avc_sq2 ?_
          refine avc_sq ?_
          refine sqa (a_move_d (lq rfl) rfl) ?_
          refine sqa (a_move_d (lq rfl) rfl) ?_
          obtain ⟨t26, ht26, hsy1'⟩ := bE hsy1; clear hsy1
          refine sqa (m_index (en := eRange) (lq rfl) S32 rfl rfl ht26) ?_
          refine sqa (a_fieldAddr_ip (lq rfl) L38_0 rfl) ?_
          refine sqa (m_loadE (en := eRange) (l := t17) (i := v8) (v := t26) (off := 0) (lq rfl) O3 rfl ht26 rfl) ?_
          refine sqa (a_move_d (lq rfl) rfl) ?_
          refine sqa (a_neq (lq rfl) rfl rfl) ?_
          obtain ⟨b31, hb31, hsy1⟩ := bE hsy1'; clear hsy1'
          refine sqa ((a_move_d (lq rfl) rfl).bool (Option.some.inj hb31)) ?_
          refine sq_g (x := .d (dsl eRange t17)) rfl rfl rfl (lq rfl) (lq rfl) rfl (fun hb => by obtain rfl := gF hb; exact a_move_d (lq rfl) rfl) ?_
          refine sq_g (x := .d (di v8)) rfl rfl rfl (lq rfl) (lq rfl) rfl (fun hb => by obtain rfl := gF hb; exact a_move_d (lq rfl) rfl) ?_
          obtain ⟨t34, ht34, hsy1'⟩ := bE hsy1; clear hsy1
          refine sq_g (x := .ip (eRange.all t17) (v8.toNat * eRange.size)) rfl rfl rfl (lq rfl) (lq rfl) rfl (fun hb => by obtain rfl := gF hb; exact m_index (en := eRange) (lq rfl) S32 rfl rfl ht34) ?_
          refine sq_g (x := .ip (eRange.all t17) (v8.toNat * eRange.size + 1)) rfl rfl rfl (lq rfl) (lq rfl) rfl (fun hb => by obtain rfl := gF hb; exact a_fieldAddr_ip (lq rfl) L38_1 rfl) ?_
          refine sq_g (x := .d (di t34.Hi)) rfl rfl rfl (lq rfl) (lq rfl) rfl (fun hb => by obtain rfl := gF hb; exact m_loadE (en := eRange) (l := t17) (i := v8) (v := t34) (off := 1) (lq rfl) O3 rfl ht34 rfl) ?_
          refine sq_g (x := .d (di v6)) rfl rfl rfl (lq rfl) (lq rfl) rfl (fun hb => by obtain rfl := gF hb; exact a_move_d (lq rfl) rfl) ?_
          refine sq_g (x := .d (db (decide (t34.Hi ≤ v6)))) rfl rfl rfl (lq rfl) (lq rfl) rfl (fun hb => by obtain rfl := gF hb; exact a_leq (lq rfl) rfl rfl) ?_
          refine sqa (a_pick_or (lq rfl) rfl rfl) ?_
          obtain ⟨b40, hb40, hsy1⟩ := bE hsy1'; clear hsy1'
          refine sqa ((a_move_d (lq rfl) rfl).bool (Option.some.inj hb40)) ?_
          refine sq_g (x := .d (dsl eRange t17)) rfl rfl rfl (lq rfl) (lq rfl) rfl (fun hb => by obtain rfl := gF hb; exact a_move_d (lq rfl) rfl) ?_
          refine sq_g (x := .d (di v8)) rfl rfl rfl (lq rfl) (lq rfl) rfl (fun hb => by obtain rfl := gF hb; exact a_move_d (lq rfl) rfl) ?_
          obtain ⟨t43, ht43, hsy1'⟩ := bE hsy1; clear hsy1
          refine sq_g (x := .ip (eRange.all t17) (v8.toNat * eRange.size)) rfl rfl rfl (lq rfl) (lq rfl) rfl (fun hb => by obtain rfl := gF hb; exact m_index (en := eRange) (lq rfl) S32 rfl rfl ht43) ?_
          refine sq_g (x := .ip (eRange.all t17) (v8.toNat * eRange.size + 1)) rfl rfl rfl (lq rfl) (lq rfl) rfl (fun hb => by obtain rfl := gF hb; exact a_fieldAddr_ip (lq rfl) L38_1 rfl) ?_
          refine sq_g (x := .d (di t43.Hi)) rfl rfl rfl (lq rfl) (lq rfl) rfl (fun hb => by obtain rfl := gF hb; exact m_loadE (en := eRange) (l := t17) (i := v8) (v := t43) (off := 1) (lq rfl) O3 rfl ht43 rfl) ?_
          refine sq_g (x := .d (dsl eI a1)) rfl rfl rfl (lq rfl) (lq rfl) rfl (fun hb => by obtain rfl := gF hb; exact a_move_d (lq rfl) rfl) ?_
          refine sq_g (x := .d (di (a1.length : Int))) rfl rfl rfl (lq rfl) (lq rfl) rfl (fun hb => by obtain rfl := gF hb; exact m_len (en := eI) (l := a1) (lq rfl) S26 rfl) ?_
          refine sq_g (x := .d (db (decide ((a1.length : Int) < t43.Hi)))) rfl rfl rfl (lq rfl) (lq rfl) rfl (fun hb => by obtain rfl := gF hb; exact a_gtr (lq rfl) rfl rfl) ?_
          refine sqa (a_pick_or (lq rfl) rfl rfl) ?_
          refine sq_nil ?_
          refine avc_if rfl ⟨fun c3 => ?_, fun c3 => ?_⟩
          · replace hsy1' := cT c3 hsy1'
            refine avc_sq2 ?_
            refine avc_sq ?_
            refine sqa (a_assign_d (lq rfl) rfl) ?_
            refine sq_nil ?_
            refine avc_ret ?_
            cases hsy1'
            intro q; cases q
          · replace hsy1' := cF c3 hsy1'
            refine avc_skip ?_
            refine avc_sq2 ?_
            refine avc_drawA MX rfl ?_
            refine daa (m_loadPt (lq rfl) G25 rfl rfl) ?_
            refine daa (a_move_d (lq rfl) rfl) ?_
            refine daa (a_move_d (lq rfl) rfl) ?_
            refine daa (a_move_d (lq rfl) rfl) ?_
            refine daa (a_move_d (lq rfl) rfl) ?_
            obtain ⟨t55, ht55, hsy1⟩ := bE hsy1'; clear hsy1'
            refine daa (m_index (en := eRange) (lq rfl) S32 rfl rfl ht55) ?_
            refine daa (a_fieldAddr_ip (lq rfl) L38_1 rfl) ?_
            refine daa (m_loadE (en := eRange) (l := t17) (i := v8) (v := t55) (off := 1) (lq rfl) O3 rfl ht55 rfl) ?_
            obtain ⟨t58, ht58, hsy1'⟩ := bE hsy1; clear hsy1
            refine daa (m_slice (en := eI) (lq rfl) S26 rfl rfl rfl ht58) ?_
            obtain ⟨t59, ht59, hsy1⟩ := bE hsy1'; clear hsy1'
            refine daa (a_call (lq rfl) rfl (scripts_Of_c ht59)) ?_
            refine daa (a_assign_d (lq rfl) rfl) ?_
            refine da_nil ?_
            refine avc_sq2 ?_
            refine avc_sq ?_
            refine sqa (a_move_d (lq rfl) rfl) ?_
            refine sqa (a_move_d (lq rfl) rfl) ?_
            obtain ⟨t62, ht62, hsy1'⟩ := bE hsy1; clear hsy1
            refine sqa (m_index (en := eRange) (lq rfl) S32 rfl rfl ht62) ?_
            refine sqa (a_fieldAddr_ip (lq rfl) L38_1 rfl) ?_
            refine sqa (m_loadE (en := eRange) (l := t17) (i := v8) (v := t62) (off := 1) (lq rfl) O3 rfl ht62 rfl) ?_
            refine sqa (a_assign_d (lq rfl) rfl) ?_
            refine sq_nil ?_
            refine avc_sq2 ?_
            refine avc_sq2 ?_
            refine avc_sq ?_
            refine sqa (a_move_d (lq rfl) rfl) ?_
            refine sqa (m_len (en := eS) (l := t59) (lq rfl) S22 rfl) ?_
            refine sqa (a_eql (lq rfl) rfl rfl) ?_
            refine sq_nil ?_
            refine avc_if rfl ⟨fun c4 => ?_, fun c4 => ?_⟩
            · replace hsy1' := cT c4 hsy1'
              refine avc_sq2 ?_
              refine avc_sq ?_
              refine sqa (a_move_d (lq rfl) rfl) ?_
              refine sqa (m_len (en := eRange) (l := t17) (lq rfl) S32 rfl) ?_
              refine sqa (a_eql (lq rfl) rfl rfl) ?_
              obtain ⟨b71, hb71, hsy1⟩ := bE hsy1'; clear hsy1'
              refine sqa ((a_move_d (lq rfl) rfl).bool (Option.some.inj hb71)) ?_
              refine sq_g (x := .d (di t62.Hi)) rfl rfl rfl (lq rfl) (lq rfl) rfl (fun hb => by obtain rfl : b71 = true := hb; exact a_move_d (lq rfl) rfl) ?_
              refine sq_g (x := .d (dsl eI a1)) rfl rfl rfl (lq rfl) (lq rfl) rfl (fun hb => by obtain rfl : b71 = true := hb; exact a_move_d (lq rfl) rfl) ?_
              refine sq_g (x := .d (di (a1.length : Int))) rfl rfl rfl (lq rfl) (lq rfl) rfl (fun hb => by obtain rfl : b71 = true := hb; exact m_len (en := eI) (l := a1) (lq rfl) S26 rfl) ?_
              refine sq_g (x := .d (db (decide (t62.Hi = (a1.length : Int))))) rfl rfl rfl (lq rfl) (lq rfl) rfl (fun hb => by obtain rfl : b71 = true := hb; exact a_eql (lq rfl) rfl rfl) ?_
              refine sqa (a_pick_and (lq rfl) rfl rfl) ?_
              obtain ⟨b77, hb77, hsy1'⟩ := bE hsy1; clear hsy1
              refine sqa ((a_move_d (lq rfl) rfl).bool (Option.some.inj hb77)) ?_
              obtain ⟨t78, ht78, hsy1⟩ := bE hsy1'; clear hsy1'
              refine sq_g (x := .d (db t78)) rfl rfl rfl (lq rfl) (lq rfl) rfl (fun hb => by obtain rfl : b77 = true := hb; exact a_call (lq rfl) rfl (law40_alive_c ht78)) ?_
              refine sqa (a_pick_and (lq rfl) rfl rfl) ?_
              refine sqa (a_assign_d (lq rfl) rfl) ?_
              refine sq_nil ?_
              refine avc_ret ?_
              cases hsy1
              intro q; cases q
            · replace hsy1' := cF c4 hsy1'
              refine avc_skip ?_
              refine avc_sq2 ?_
              refine avc_sq2 ?_
              refine avc_sq ?_
              refine sqa (a_move_d (lq rfl) rfl) ?_
              refine sqa (m_len (en := eS) (l := t59) (lq rfl) S22 rfl) ?_
              refine sqa (a_neq (lq rfl) rfl rfl) ?_
              obtain ⟨b83, hb83, hsy1⟩ := bE hsy1'; clear hsy1'
              refine sqa ((a_move_d (lq rfl) rfl).bool (Option.some.inj hb83)) ?_
              refine sq_g (x := .d (dsl eS t59)) rfl rfl rfl (lq rfl) (lq rfl) rfl (fun hb => by obtain rfl := gF hb; exact a_move_d (lq rfl) rfl) ?_
              obtain ⟨t85, ht85, hsy1'⟩ := bE hsy1; clear hsy1
              refine sq_g (x := .ip (eS.all t59) ((0 : Int).toNat * eS.size)) rfl rfl rfl (lq rfl) (lq rfl) rfl (fun hb => by obtain rfl := gF hb; exact m_index (en := eS) (lq rfl) S22 rfl rfl ht85) ?_
              refine sq_g (x := .d (ds t85)) rfl rfl rfl (lq rfl) (lq rfl) rfl (fun hb => by obtain rfl := gF hb; exact m_loadE (en := eS) (l := t59) (i := (0 : Int)) (v := t85) (off := 0) (lq rfl) O9 rfl ht85 rfl) ?_
              refine sq_g (x := .d (ds v7)) rfl rfl rfl (lq rfl) (lq rfl) rfl (fun hb => by obtain rfl := gF hb; exact a_move_d (lq rfl) rfl) ?_
              refine sq_g (x := .d (db (t85 == v7))) rfl rfl rfl (lq rfl) (lq rfl) rfl (fun hb => by obtain rfl := gF hb; exact m_seql (a := t85) (b := v7) (lq rfl) rfl rfl) ?_
              refine sqa (a_pick_or (lq rfl) rfl rfl) ?_
              refine sq_nil ?_
              refine avc_if rfl ⟨fun c5 => ?_, fun c5 => ?_⟩
              · replace hsy1' := cT c5 hsy1'
                refine avc_sq2 ?_
                refine avc_sq ?_
                refine sqa (a_assign_d (lq rfl) rfl) ?_
                refine sq_nil ?_
                refine avc_ret ?_
                cases hsy1'
                intro q; cases q
              · replace hsy1' := cF c5 hsy1'
                refine avc_skip ?_
                refine avc_sq ?_
                refine sqa (a_move_d (lq rfl) rfl) ?_
                obtain ⟨t91, ht91, hsy1⟩ := bE hsy1'; clear hsy1'
                refine sqa (m_index (en := eS) (lq rfl) S22 rfl rfl ht91) ?_
                refine sqa (m_loadE (en := eS) (l := t59) (i := (0 : Int)) (v := t91) (off := 0) (lq rfl) O9 rfl ht91 rfl) ?_
                refine sqa (a_assign_d (lq rfl) rfl) ?_
                refine sq_nil ?_
                refine avc_sq ?_
                refine sqa (a_move_d (lq rfl) rfl) ?_
                refine sqa (m_add (lq rfl) rfl rfl) ?_
                refine sqa (a_assign_d (lq rfl) rfl) ?_
                refine sq_nil ?_
                cases hsy1
                exact weak_cov ⟨rfl, rfl, rfl, rfl, rfl, rfl, trivial⟩ trivial
        · replace hsy1 := cF c2 hsy1
          refine avc_exit ?_
          cases hsy1
          intro q; cases q
          exact out_mk (weak_cov ⟨rfl, rfl, trivial⟩ trivial)
      ·
        refine avc_sq2 ?_
        refine avc_sq ?_
        refine sqa (a_move_d (lq rfl) rfl) ?_
        refine sqa (a_move_d (lq rfl) rfl) ?_
        refine sqa (m_len (en := eI) (l := a1) (lq rfl) S26 rfl) ?_
        refine sqa (a_eql (lq rfl) rfl rfl) ?_
        obtain ⟨b97, hb97, h⟩ := bE h'; clear h'
        refine sqa ((a_move_d (lq rfl) rfl).bool (Option.some.inj hb97)) ?_
        obtain ⟨t98, ht98, h'⟩ := bE h; clear h
        refine sq_g (x := .d (db t98)) rfl rfl rfl (lq rfl) (lq rfl) rfl (fun hb => by obtain rfl : b97 = true := hb; exact a_call (lq rfl) rfl (law40_alive_c ht98)) ?_
        refine sqa (a_pick_and (lq rfl) rfl rfl) ?_
        refine sqa (a_assign_d (lq rfl) rfl) ?_
        refine sq_nil ?_
        cases h'
        refine avc_ret ?_
        exact ret_1 rfl
    ·
      replace h' := eR h'
      refine avc_tail (e := .ret) (S2 := ⟨[(4, .d (db y1))], []⟩) ?_ ?_
      ·
        refine avc_loopM (fun x => ⟨[(1, .d (dsl eI a1)), (2, .d (.pt (eProperty.cells a0))), (5, .d (dsl eRange t17)), (6, .d (di x.1)), (7, .d (ds x.2.1)), (8, .d (di x.2.2))], []⟩) hy1 (weak_cov ⟨rfl, rfl, rfl, rfl, rfl, rfl, trivial⟩ trivial) ?_
        rintro ⟨v6, v7, v8⟩ sy1 hsy1
        replace hsy1 : law40_ScriptsCover_L0 t17 a1 a0 v6 v7 v8 = some sy1 := hsy1
        unfold law40_ScriptsCover_L0 at hsy1
        refine avc_sq2 ?_
        refine avc_sq2 ?_
        refine avc_sq ?_
        refine sqa (a_move_d (lq rfl) rfl) ?_
        refine sqa (a_move_d (lq rfl) rfl) ?_
        refine sqa (m_len (en := eRange) (l := t17) (lq rfl) S32 rfl) ?_
        refine sqa (a_lss (lq rfl) rfl rfl) ?_
        refine sq_nil ?_
        refine avc_if rfl ⟨fun c2 => ?_, fun c2 => ?_⟩
        · replace hsy1 := cT c2 hsy1
          refine avc_skip ?_
          refine avc_sq2 ?_
          refine avc_block ?_
          refine avc_sq2 ?_
          refine avc_sq2 ?_
          refine avc_sq ?_
          refine sqa (a_move_d (lq rfl) rfl) ?_
          refine sqa (a_move_d (lq rfl) rfl) ?_
          obtain ⟨t26, ht26, hsy1'⟩ := bE hsy1; clear hsy1
          refine sqa (m_index (en := eRange) (lq rfl) S32 rfl rfl ht26) ?_
          refine sqa (a_fieldAddr_ip (lq rfl) L38_0 rfl) ?_
          refine sqa (m_loadE (en := eRange) (l := t17) (i := v8) (v := t26) (off := 0) (lq rfl) O3 rfl ht26 rfl) ?_
          refine sqa (a_move_d (lq rfl) rfl) ?_
          refine sqa (a_neq (lq rfl) rfl rfl) ?_
          obtain ⟨b31, hb31, hsy1⟩ := bE hsy1'; clear hsy1'
          refine sqa ((a_move_d (lq rfl) rfl).bool (Option.some.inj hb31)) ?_
          refine sq_g (x := .d (dsl eRange t17)) rfl rfl rfl (lq rfl) (lq rfl) rfl (fun hb => by obtain rfl := gF hb; exact a_move_d (lq rfl) rfl) ?_
          refine sq_g (x := .d (di v8)) rfl rfl rfl (lq rfl) (lq rfl) rfl (fun hb => by obtain rfl := gF hb; exact a_move_d (lq rfl) rfl) ?_
          obtain ⟨t34, ht34, hsy1'⟩ := bE hsy1; clear hsy1
          refine sq_g (x := .ip (eRange.all t17) (v8.toNat * eRange.size)) rfl rfl rfl (lq rfl) (lq rfl) rfl (fun hb => by obtain rfl := gF hb; exact m_index (en := eRange) (lq rfl) S32 rfl rfl ht34) ?_
          refine sq_g (x := .ip (eRange.all t17) (v8.toNat * eRange.size + 1)) rfl rfl rfl (lq rfl) (lq rfl) rfl (fun hb => by obtain rfl := gF hb; exact a_fieldAddr_ip (lq rfl) L38_1 rfl) ?_
          refine sq_g (x := .d (di t34.Hi)) rfl rfl rfl (lq rfl) (lq rfl) rfl (fun hb => by obtain rfl := gF hb; exact m_loadE (en := eRange) (l := t17) (i := v8) (v := t34) (off := 1) (lq rfl) O3 rfl ht34 rfl) ?_
          refine sq_g (x := .d (di v6)) rfl rfl rfl (lq rfl) (lq rfl) rfl (fun hb => by obtain rfl := gF hb; exact a_move_d (lq rfl) rfl) ?_
          refine sq_g (x := .d (db (decide (t34.Hi ≤ v6)))) rfl rfl rfl (lq rfl) (lq rfl) rfl (fun hb => by obtain rfl := gF hb; exact a_leq (lq rfl) rfl rfl) ?_
          refine sqa (a_pick_or (lq rfl) rfl rfl) ?_
          obtain ⟨b40, hb40, hsy1⟩ := bE hsy1'; clear hsy1'
          refine sqa ((a_move_d (lq rfl) rfl).bool (Option.some.inj hb40)) ?_
          refine sq_g (x := .d (dsl eRange t17)) rfl rfl rfl (lq rfl) (lq rfl) rfl (fun hb => by obtain rfl := gF hb; exact a_move_d (lq rfl) rfl) ?_
          refine sq_g (x := .d (di v8)) rfl rfl rfl (lq rfl) (lq rfl) rfl (fun hb => by obtain rfl := gF hb; exact a_move_d (lq rfl) rfl) ?_
          obtain ⟨t43, ht43, hsy1'⟩ := bE hsy1; clear hsy1
          refine sq_g (x := .ip (eRange.all t17) (v8.toNat * eRange.size)) rfl rfl rfl (lq rfl) (lq rfl) rfl (fun hb => by obtain rfl := gF hb; exact m_index (en := eRange) (lq rfl) S32 rfl rfl ht43) ?_
          refine sq_g (x := .ip (eRange.all t17) (v8.toNat * eRange.size + 1)) rfl rfl rfl (lq rfl) (lq rfl) rfl (fun hb => by obtain rfl := gF hb; exact a_fieldAddr_ip (lq rfl) L38_1 rfl) ?_
          refine sq_g (x := .d (di t43.Hi)) rfl rfl rfl (lq rfl) (lq rfl) rfl (fun hb => by obtain rfl := gF hb; exact m_loadE (en := eRange) (l := t17) (i := v8) (v := t43) (off := 1) (lq rfl) O3 rfl ht43 rfl) ?_
          refine sq_g (x := .d (dsl eI a1)) rfl rfl rfl (lq rfl) (lq rfl) rfl (fun hb => by obtain rfl := gF hb; exact a_move_d (lq rfl) rfl) ?_
          refine sq_g (x := .d (di (a1.length : Int))) rfl rfl rfl (lq rfl) (lq rfl) rfl (fun hb => by obtain rfl := gF hb; exact m_len (en := eI) (l := a1) (lq rfl) S26 rfl) ?_
          refine sq_g (x := .d (db (decide ((a1.length : Int) < t43.Hi)))) rfl rfl rfl (lq rfl) (lq rfl) rfl (fun hb => by obtain rfl := gF hb; exact a_gtr (lq rfl) rfl rfl) ?_
          refine sqa (a_pick_or (lq rfl) rfl rfl) ?_
          refine sq_nil ?_
          refine avc_if rfl ⟨fun c3 => ?_, fun c3 => ?_⟩
          · replace hsy1' := cT c3 hsy1'
            refine avc_sq2 ?_
            refine avc_sq ?_
            refine sqa (a_assign_d (lq rfl) rfl) ?_
            refine sq_nil ?_
            refine avc_ret ?_
            cases hsy1'
            intro q; cases q
            exact out_mk (weak_cov ⟨rfl, trivial⟩ trivial)
          · replace hsy1' := cF c3 hsy1'
            refine avc_skip ?_
            refine avc_sq2 ?_
            refine avc_drawA MX rfl ?_
            refine daa (m_loadPt (lq rfl) G25 rfl rfl) ?_
            refine daa (a_move_d (lq rfl) rfl) ?_
            refine daa (a_move_d (lq rfl) rfl) ?_
            refine daa (a_move_d (lq rfl) rfl) ?_
            refine daa (a_move_d (lq rfl) rfl) ?_
            obtain ⟨t55, ht55, hsy1⟩ := bE hsy1'; clear hsy1'
            refine daa (m_index (en := eRange) (lq rfl) S32 rfl rfl ht55) ?_
            refine daa (a_fieldAddr_ip (lq rfl) L38_1 rfl) ?_
            refine daa (m_loadE (en := eRange) (l := t17) (i := v8) (v := t55) (off := 1) (lq rfl) O3 rfl ht55 rfl) ?_
            obtain ⟨t58, ht58, hsy1'⟩ := bE hsy1; clear hsy1
            refine daa (m_slice (en := eI) (lq rfl) S26 rfl rfl rfl ht58) ?_
            obtain ⟨t59, ht59, hsy1⟩ := bE hsy1'; clear hsy1'
            refine daa (a_call (lq rfl) rfl (scripts_Of_c ht59)) ?_
            refine daa (a_assign_d (lq rfl) rfl) ?_
            refine da_nil ?_
            refine avc_sq2 ?_
            refine avc_sq ?_
            refine sqa (a_move_d (lq rfl) rfl) ?_
            refine sqa (a_move_d (lq rfl) rfl) ?_
            obtain ⟨t62, ht62, hsy1'⟩ := bE hsy1; clear hsy1
            refine sqa (m_index (en := eRange) (lq rfl) S32 rfl rfl ht62) ?_
            refine sqa (a_fieldAddr_ip (lq rfl) L38_1 rfl) ?_
            refine sqa (m_loadE (en := eRange) (l := t17) (i := v8) (v := t62) (off := 1) (lq rfl) O3 rfl ht62 rfl) ?_
            refine sqa (a_assign_d (lq rfl) rfl) ?_
            refine sq_nil ?_
            refine avc_sq2 ?_
            refine avc_sq2 ?_
            refine avc_sq ?_
            refine sqa (a_move_d (lq rfl) rfl) ?_
            refine sqa (m_len (en := eS) (l := t59) (lq rfl) S22 rfl) ?_
            refine sqa (a_eql (lq rfl) rfl rfl) ?_
            refine sq_nil ?_
            refine avc_if rfl ⟨fun c4 => ?_, fun c4 => ?_⟩
            · replace hsy1' := cT c4 hsy1'
              refine avc_sq2 ?_
              refine avc_sq ?_
              refine sqa (a_move_d (lq rfl) rfl) ?_
              refine sqa (m_len (en := eRange) (l := t17) (lq rfl) S32 rfl) ?_
              refine sqa (a_eql (lq rfl) rfl rfl) ?_
              obtain ⟨b71, hb71, hsy1⟩ := bE hsy1'; clear hsy1'
              refine sqa ((a_move_d (lq rfl) rfl).bool (Option.some.inj hb71)) ?_
              refine sq_g (x := .d (di t62.Hi)) rfl rfl rfl (lq rfl) (lq rfl) rfl (fun hb => by obtain rfl : b71 = true := hb; exact a_move_d (lq rfl) rfl) ?_
              refine sq_g (x := .d (dsl eI a1)) rfl rfl rfl (lq rfl) (lq rfl) rfl (fun hb => by obtain rfl : b71 = true := hb; exact a_move_d (lq rfl) rfl) ?_
              refine sq_g (x := .d (di (a1.length : Int))) rfl rfl rfl (lq rfl) (lq rfl) rfl (fun hb => by obtain rfl : b71 = true := hb; exact m_len (en := eI) (l := a1) (lq rfl) S26 rfl) ?_
              refine sq_g (x := .d (db (decide (t62.Hi = (a1.length : Int))))) rfl rfl rfl (lq rfl) (lq rfl) rfl (fun hb => by obtain rfl : b71 = true := hb; exact a_eql (lq rfl) rfl rfl) ?_
              refine sqa (a_pick_and (lq rfl) rfl rfl) ?_
              obtain ⟨b77, hb77, hsy1'⟩ := bE hsy1; clear hsy1
              refine sqa ((a_move_d (lq rfl) rfl).bool (Option.some.inj hb77)) ?_
              obtain ⟨t78, ht78, hsy1⟩ := bE hsy1'; clear hsy1'
              refine sq_g (x := .d (db t78)) rfl rfl rfl (lq rfl) (lq rfl) rfl (fun hb => by obtain rfl : b77 = true := hb; exact a_call (lq rfl) rfl (law40_alive_c ht78)) ?_
              refine sqa (a_pick_and (lq rfl) rfl rfl) ?_
              refine sqa (a_assign_d (lq rfl) rfl) ?_
              refine sq_nil ?_
              refine avc_ret ?_
              cases hsy1
              intro q; cases q
              exact out_mk (weak_cov ⟨rfl, trivial⟩ trivial)
            · replace hsy1' := cF c4 hsy1'
              refine avc_skip ?_
              refine avc_sq2 ?_
              refine avc_sq2 ?_
              refine avc_sq ?_
              refine sqa (a_move_d (lq rfl) rfl) ?_
              refine sqa (m_len (en := eS) (l := t59) (lq rfl) S22 rfl) ?_
              refine sqa (a_neq (lq rfl) rfl rfl) ?_
              obtain ⟨b83, hb83, hsy1⟩ := bE hsy1'; clear hsy1'
              refine sqa ((a_move_d (lq rfl) rfl).bool (Option.some.inj hb83)) ?_
              refine sq_g (x := .d (dsl eS t59)) rfl rfl rfl (lq rfl) (lq rfl) rfl (fun hb => by obtain rfl := gF hb; exact a_move_d (lq rfl) rfl) ?_
              obtain ⟨t85, ht85, hsy1'⟩ := bE hsy1; clear hsy1
              refine sq_g (x := .ip (eS.all t59) ((0 : Int).toNat * eS.size)) rfl rfl rfl (lq rfl) (lq rfl) rfl (fun hb => by obtain rfl := gF hb; exact m_index (en := eS) (lq rfl) S22 rfl rfl ht85) ?_
              refine sq_g (x := .d (ds t85)) rfl rfl rfl (lq rfl) (lq rfl) rfl (fun hb => by obtain rfl := gF hb; exact m_loadE (en := eS) (l := t59) (i := (0 : Int)) (v := t85) (off := 0) (lq rfl) O9 rfl ht85 rfl) ?_
              refine sq_g (x := .d (ds v7)) rfl rfl rfl (lq rfl) (lq rfl) rfl (fun hb => by obtain rfl := gF hb; exact a_move_d (lq rfl) rfl) ?_
              refine sq_g (x := .d (db (t85 == v7))) rfl rfl rfl (lq rfl) (lq rfl) rfl (fun hb => by obtain rfl := gF hb; exact m_seql (a := t85) (b := v7) (lq rfl) rfl rfl) ?_
              refine sqa (a_pick_or (lq rfl) rfl rfl) ?_
              refine sq_nil ?_
              refine avc_if rfl ⟨fun c5 => ?_, fun c5 => ?_⟩
              · replace hsy1' := cT c5 hsy1'
                refine avc_sq2 ?_
                refine avc_sq ?_
                refine sqa (a_assign_d (lq rfl) rfl) ?_
                refine sq_nil ?_
                refine avc_ret ?_
                cases hsy1'
                intro q; cases q
                exact out_mk (weak_cov ⟨rfl, trivial⟩ trivial)
              · replace hsy1' := cF c5 hsy1'
                refine avc_skip ?_
                refine avc_sq ?_
                refine sqa (a_move_d (lq rfl) rfl) ?_
                obtain ⟨t91, ht91, hsy1⟩ := bE hsy1'; clear hsy1'
                refine sqa (m_index (en := eS) (lq rfl) S22 rfl rfl ht91) ?_
                refine sqa (m_loadE (en := eS) (l := t59) (i := (0 : Int)) (v := t91) (off := 0) (lq rfl) O9 rfl ht91 rfl) ?_
                refine sqa (a_assign_d (lq rfl) rfl) ?_
                refine sq_nil ?_
                refine avc_sq ?_
                refine sqa (a_move_d (lq rfl) rfl) ?_
                refine sqa (m_add (lq rfl) rfl rfl) ?_
                refine sqa (a_assign_d (lq rfl) rfl) ?_
                refine sq_nil ?_
                cases hsy1
                exact weak_cov ⟨rfl, rfl, rfl, rfl, rfl, rfl, trivial⟩ trivial
        · replace hsy1 := cF c2 hsy1
          refine avc_exit ?_
          cases hsy1
          intro q; cases q
      ·
        cases h'
        exact ret_1 rfl

theorem law40_ScriptsIgnores_c  {a0 : Property} {a1 : (List Int)} {a2 : Int}  {r : Bool} (h : law40_ScriptsIgnores a0 a1 a2 = some r) : Contract Try.prog 7 [(eProperty.dv a0), (dsl eI a1), (di a2)] [(db r)] := by
  refine contract_of Try.func7 (by kernel_rfl) rfl (lq rfl) (lq rfl) fun w0 I0 => ?_
  unfold law40_ScriptsIgnores at h
  refine avc_sq2 ?_
  refine avc_sq ?_
  refine sqa (m_box (size := 2) (lq rfl) rfl rfl) ?_
  refine sqa (a_assign_d (lq rfl) rfl) ?_
  refine sq_nil ?_
  refine avc_sq2 ?_
  refine avc_sq2 ?_
  refine avc_sq ?_
  refine sqa (m_loadPt (lq rfl) G25 rfl rfl) ?_
  refine sqa (a_move_d (lq rfl) rfl) ?_
  obtain ⟨t13, ht13, h'⟩ := bE h; clear h
  refine sqa (a_call (lq rfl) rfl (law40_few_c ht13)) ?_
  refine sqa (a_not (lq rfl) rfl) ?_
  obtain ⟨b15, hb15, h⟩ := bE h'; clear h'
  refine sqa ((a_move_d (lq rfl) rfl).bool (Option.some.inj hb15)) ?_
  refine sq_g (x := .d (eProperty.dv a0)) rfl rfl rfl (lq rfl) (lq rfl) rfl (fun hb => by obtain rfl := gF hb; exact m_loadPt (lq rfl) G25 rfl rfl) ?_
  refine sq_g (x := .d (di a2)) rfl rfl rfl (lq rfl) (lq rfl) rfl (fun hb => by obtain rfl := gF hb; exact a_move_d (lq rfl) rfl) ?_
  obtain ⟨t18, ht18, h'⟩ := bE h; clear h
  refine sq_g (x := .d (ds t18)) rfl rfl rfl (lq rfl) (lq rfl) rfl (fun hb => by obtain rfl := gF hb; exact a_call (lq rfl) rfl (ref10_Name_c ht18)) ?_
  obtain ⟨t19, ht19, h⟩ := bE h'; clear h'
  refine sq_g (x := .d (db t19)) rfl rfl rfl (lq rfl) (lq rfl) rfl (fun hb => by obtain rfl := gF hb; exact a_call (lq rfl) rfl (ref40_Real_c ht19)) ?_
  refine sqa (a_pick_or (lq rfl) rfl rfl) ?_
  refine sq_nil ?_
  refine avc_if rfl ⟨fun c1 => ?_, fun c1 => ?_⟩
  · replace h := cT c1 h
    refine avc_sq2 ?_
    refine avc_sq ?_
    obtain ⟨t21, ht21, h'⟩ := bE h; clear h
    refine sqa (a_call (lq rfl) rfl (law40_alive_c ht21)) ?_
    refine sqa (a_assign_d (lq rfl) rfl) ?_
    refine sq_nil ?_
    cases h'
    refine avc_ret ?_
    exact ret_1 rfl
  · replace h := cF c1 h
    refine avc_skip ?_
    refine avc_sq2 ?_
    refine avc_sq ?_
    refine sqa (a_assign_d (lq rfl) rfl) ?_
    refine sq_nil ?_
    refine avc_weak (weak_nil (t := 7) 1007 3 eI.size (lq rfl) (lq rfl) rfl rfl) ?_
    refine avc_sq2 ?_
    refine avc_sq2 ?_
    refine avc_sq ?_
    refine sqa (a_assign_d (lq rfl) rfl) ?_
    refine sq_nil ?_
    refine avc_block ?_
    obtain ⟨y1, hy1, h'⟩ := bE h; clear h
    refine avc_tail (e := .exit 0) (S2 := ⟨[(1, .d (dsl eI a1)), (2, .d (di a2)), (3, .d (.pt (eProperty.cells a0))), (7, .row 1007)], [(1007, .row 3 eI.size false (eI.all y1))]⟩) ?_ ?_
    ·
      refine avc_loopM (fun x => ⟨[(1, .d (dsl eI a1)), (2, .d (di a2)), (3, .d (.pt (eProperty.cells a0))), (7, .row 1007), (8, .d (di x.1))], [(1007, .row 3 eI.size false (eI.all x.2))]⟩) hy1 (weak_cov ⟨rfl, rfl, rfl, rfl, rfl, trivial⟩ ⟨rfl, trivial⟩) ?_
      rintro ⟨v8, r1007⟩ sy1 hsy1
      replace hsy1 : law40_ScriptsIgnores_L0 a1 a2 v8 r1007 = some sy1 := hsy1
      unfold law40_ScriptsIgnores_L0 at hsy1
      refine avc_sq2 ?_
      refine avc_sq2 ?_
      refine avc_sq ?_
      refine sqa (a_move_d (lq rfl) rfl) ?_
      refine sqa (a_move_d (lq rfl) rfl) ?_
      refine sqa (m_len (en := eI) (l := a1) (lq rfl) S26 rfl) ?_
      refine sqa (a_lss (lq rfl) rfl rfl) ?_
      refine sq_nil ?_
      refine avc_if rfl ⟨fun c2 => ?_, fun c2 => ?_⟩
      · replace hsy1 := cT c2 hsy1
        refine avc_skip ?_
        refine avc_sq2 ?_
        refine avc_block ?_
        refine avc_sq ?_
        refine sqa (a_move_row (lq rfl) rfl) ?_
        refine sqa (a_move_d (lq rfl) rfl) ?_
        refine sqa (a_move_d (lq rfl) rfl) ?_
        refine sqa (a_move_d (lq rfl) rfl) ?_
        obtain ⟨t32, ht32, hsy1'⟩ := bE hsy1; clear hsy1
        refine sqa (m_index (en := eI) (lq rfl) S26 rfl rfl ht32) ?_
        refine sqa (m_loadE (en := eI) (l := a1) (i := v8) (v := t32) (off := 0) (lq rfl) O3 rfl ht32 rfl) ?_
        refine sqa (a_lit (lq rfl) S26 rfl rfl rfl rfl (by decide) rfl) ?_
        obtain ⟨r1007_2, hr1007_2, hsy1⟩ := bE hsy1'; clear hsy1'
        refine sq_b rfl (m_append (en := eI) (l := r1007) (m := [a2, t32]) (lq rfl) S26 rfl rfl rfl hr1007_2 (by decide) (by decide) rfl rfl) ?_
        refine sqa (a_assign_row (lq rfl) rfl) ?_
        refine sq_nil ?_
        refine avc_sq ?_
        refine sqa (a_move_d (lq rfl) rfl) ?_
        refine sqa (m_add (lq rfl) rfl rfl) ?_
        refine sqa (a_assign_d (lq rfl) rfl) ?_
        refine sq_nil ?_
        cases hsy1
        exact weak_cov ⟨rfl, rfl, rfl, rfl, rfl, trivial⟩ ⟨rfl, trivial⟩
      · replace hsy1 := cF c2 hsy1
        refine avc_exit ?_
        cases hsy1
        intro q; cases q
        exact out_mk (weak_cov ⟨rfl, rfl, rfl, rfl, trivial⟩ ⟨rfl, trivial⟩)
    ·
      refine avc_sq2 ?_
      refine avc_sq ?_
      refine sqa (a_move_row (lq rfl) rfl) ?_
      refine sqa (a_move_d (lq rfl) rfl) ?_
      refine sqa (a_lit (lq rfl) S26 rfl rfl rfl rfl (by decide) rfl) ?_
      obtain ⟨r1007_3, hr1007_3, h⟩ := bE h'; clear h'
      refine sq_b rfl (m_append (en := eI) (l := y1) (m := [a2]) (lq rfl) S26 rfl rfl rfl hr1007_3 (by decide) (by decide) rfl rfl) ?_
      refine sqa (a_assign_row (lq rfl) rfl) ?_
      refine sq_nil ?_
      refine avc_sq2 ?_
      refine avc_weak (weak_row_d (t := 7) (lq rfl) rfl rfl) ?_
      refine avc_drawA MX rfl ?_
      refine daa (m_loadPt (lq rfl) G25 rfl rfl) ?_
      refine daa (a_move_d (lq rfl) rfl) ?_
      obtain ⟨t42, ht42, h'⟩ := bE h; clear h
      refine daa (a_call (lq rfl) rfl (con_nil (scripts_Level_c ht42) (nlE (nlN (nlE nl0))))) ?_
      refine daa (m_loadPt (lq rfl) G25 rfl rfl) ?_
      refine daa (a_move_d (lq rfl) rfl) ?_
      obtain ⟨t45, ht45, h⟩ := bE h'; clear h'
      refine daa (a_call (lq rfl) rfl (con_nil (scripts_Level_c ht45) (nlE (nlN (nlE nl0))))) ?_
      refine daa (a_assign_d (lq rfl) rfl) ?_
      refine daa (a_assign_d (lq rfl) rfl) ?_
      refine da_nil ?_
      refine avc_sq2 ?_
      refine avc_drawA MX rfl ?_
      refine daa (m_loadPt (lq rfl) G25 rfl rfl) ?_
      refine daa (a_move_d (lq rfl) rfl) ?_
      obtain ⟨t48, ht48, h'⟩ := bE h; clear h
      refine daa (a_call (lq rfl) rfl (scripts_Of_c ht48)) ?_
      refine daa (m_loadPt (lq rfl) G25 rfl rfl) ?_
      refine daa (a_move_d (lq rfl) rfl) ?_
      obtain ⟨t51, ht51, h⟩ := bE h'; clear h'
      refine daa (a_call (lq rfl) rfl (scripts_Of_c ht51)) ?_
      obtain ⟨t52, ht52, h'⟩ := bE h; clear h
      refine daa (a_call (lq rfl) rfl (ref09_Strings_c ht52)) ?_
      obtain ⟨b53, hb53, h⟩ := bE h'; clear h'
      refine daa ((a_move_d (lq rfl) rfl).bool (Option.some.inj hb53)) ?_
      refine da_g (x := .d (di t42)) rfl rfl rfl (lq rfl) (lq rfl) rfl (fun hb => by obtain rfl : b53 = true := hb; exact a_move_d (lq rfl) rfl) ?_
      refine da_g (x := .d (di t45)) rfl rfl rfl (lq rfl) (lq rfl) rfl (fun hb => by obtain rfl : b53 = true := hb; exact a_move_d (lq rfl) rfl) ?_
      refine da_g (x := .d (db (decide (t42 = t45)))) rfl rfl rfl (lq rfl) (lq rfl) rfl (fun hb => by obtain rfl : b53 = true := hb; exact a_eql (lq rfl) rfl rfl) ?_
      obtain ⟨b57, hb57, h'⟩ := bE h; clear h
      refine da_g (x := .d (db b57)) rfl rfl rfl (lq rfl) (lq rfl) rfl (fun hb => by obtain rfl : b53 = true := hb; exact (a_move_d (lq rfl) rfl).bool (Option.some.inj hb57)) ?_
      refine da_g2 (x := .d (di t42)) rfl rfl rfl (lq rfl) (lq rfl) rfl (fun hb => by obtain ⟨hb, hb1⟩ := and_split hb; obtain rfl : b53 = true := hb; obtain rfl := gF hb1; exact a_move_d (lq rfl) rfl) ?_
      refine da_g2 (x := .d (db (decide (t42 = 1)))) rfl rfl rfl (lq rfl) (lq rfl) rfl (fun hb => by obtain ⟨hb, hb1⟩ := and_split hb; obtain rfl : b53 = true := hb; obtain rfl := gF hb1; exact a_eql (lq rfl) rfl rfl) ?_
      refine da_g (x := .d (db (b57 || (decide (t42 = 1))))) rfl rfl rfl (lq rfl) (lq rfl) rfl (fun hb => by obtain rfl : b53 = true := hb; exact a_pick_or (lq rfl) rfl rfl) ?_
      refine daa (a_pick_and (lq rfl) rfl rfl) ?_
      obtain ⟨b62, hb62, h⟩ := bE h'; clear h'
      refine daa ((a_move_d (lq rfl) rfl).bool (Option.some.inj hb62)) ?_
      obtain ⟨t63, ht63, h'⟩ := bE h; clear h
      refine da_g (x := .d (db t63)) rfl rfl rfl (lq rfl) (lq rfl) rfl (fun hb => by obtain rfl : b62 = true := hb; exact a_call (lq rfl) rfl (law40_alive_c ht63)) ?_
      refine daa (a_pick_and (lq rfl) rfl rfl) ?_
      refine daa (a_assign_d (lq rfl) rfl) ?_
      refine da_nil ?_
      cases h'
      refine avc_ret ?_
      exact ret_1 rfl

theorem law40_ScriptsGrow_c  {a0 : Property} {a1 : (List Int)} {a2 : (List Int)}  {r : Bool} (h : law40_ScriptsGrow a0 a1 a2 = some r) : Contract Try.prog 8 [(eProperty.dv a0), (dsl eI a1), (dsl eI a2)] [(db r)] := by
  refine contract_of Try.func8 (by kernel_rfl) rfl (lq rfl) (lq rfl) fun w0 I0 => ?_
  unfold law40_ScriptsGrow at h
  refine avc_sq2 ?_
  refine avc_sq ?_
  refine sqa (m_box (size := 2) (lq rfl) rfl rfl) ?_
  refine sqa (a_assign_d (lq rfl) rfl) ?_
  refine sq_nil ?_
  refine avc_sq2 ?_
  refine avc_sq2 ?_
  refine avc_sq ?_
  refine sqa (m_loadPt (lq rfl) G25 rfl rfl) ?_
  refine sqa (a_move_d (lq rfl) rfl) ?_
  obtain ⟨t15, ht15, h'⟩ := bE h; clear h
  refine sqa (a_call (lq rfl) rfl (law40_few_c ht15)) ?_
  refine sqa (a_not (lq rfl) rfl) ?_
  obtain ⟨b17, hb17, h⟩ := bE h'; clear h'
  refine sqa ((a_move_d (lq rfl) rfl).bool (Option.some.inj hb17)) ?_
  refine sq_g (x := .d (eProperty.dv a0)) rfl rfl rfl (lq rfl) (lq rfl) rfl (fun hb => by obtain rfl := gF hb; exact m_loadPt (lq rfl) G25 rfl rfl) ?_
  refine sq_g (x := .d (dsl eI a2)) rfl rfl rfl (lq rfl) (lq rfl) rfl (fun hb => by obtain rfl := gF hb; exact a_move_d (lq rfl) rfl) ?_
  obtain ⟨t20, ht20, h'⟩ := bE h; clear h
  refine sq_g (x := .d (db t20)) rfl rfl rfl (lq rfl) (lq rfl) rfl (fun hb => by obtain rfl := gF hb; exact a_call (lq rfl) rfl (law40_few_c ht20)) ?_
  refine sq_g (x := .d (db (!t20))) rfl rfl rfl (lq rfl) (lq rfl) rfl (fun hb => by obtain rfl := gF hb; exact a_not (lq rfl) rfl) ?_
  refine sqa (a_pick_or (lq rfl) rfl rfl) ?_
  refine sq_nil ?_
  refine avc_if rfl ⟨fun c1 => ?_, fun c1 => ?_⟩
  · replace h' := cT c1 h'
    refine avc_sq2 ?_
    refine avc_sq ?_
    obtain ⟨t23, ht23, h⟩ := bE h'; clear h'
    refine sqa (a_call (lq rfl) rfl (law40_alive_c ht23)) ?_
    refine sqa (a_assign_d (lq rfl) rfl) ?_
    refine sq_nil ?_
    cases h
    refine avc_ret ?_
    exact ret_1 rfl
  · replace h' := cF c1 h'
    refine avc_skip ?_
    refine avc_sq2 ?_
    refine avc_sq ?_
    refine sq_b rfl (step_buildSlice (lq rfl) S26 rfl rfl rfl rfl (by decide) rfl) ?_
    refine sqa (a_move_d (lq rfl) rfl) ?_
    obtain ⟨r24_1, hr24_1, h⟩ := bE h'; clear h'
    refine sq_b rfl (m_append (en := eI) (l := []) (m := a1) (lq rfl) S26 rfl rfl rfl hr24_1 (by decide) (by decide) rfl rfl) ?_
    refine sqa (a_move_d (lq rfl) rfl) ?_
    obtain ⟨r24_2, hr24_2, h'⟩ := bE h; clear h
    refine sq_b rfl (m_append (en := eI) (l := r24_1) (m := a2) (lq rfl) S26 rfl rfl rfl hr24_2 (by decide) (by decide) rfl rfl) ?_
    refine sqa (a_assign_row (lq rfl) rfl) ?_
    refine sq_nil ?_
    refine avc_sq2 ?_
    refine avc_weak (weak_row_d (t := 7) (lq rfl) rfl rfl) ?_
    refine avc_drawA MX rfl ?_
    refine daa (m_loadPt (lq rfl) G25 rfl rfl) ?_
    refine daa (a_move_d (lq rfl) rfl) ?_
    obtain ⟨t31, ht31, h⟩ := bE h'; clear h'
    refine daa (a_call (lq rfl) rfl (scripts_Of_c ht31)) ?_
    refine daa (m_loadPt (lq rfl) G25 rfl rfl) ?_
    refine daa (a_move_d (lq rfl) rfl) ?_
    obtain ⟨t34, ht34, h'⟩ := bE h; clear h
    refine daa (a_call (lq rfl) rfl (scripts_Of_c ht34)) ?_
    refine daa (m_loadPt (lq rfl) G25 rfl rfl) ?_
    refine daa (a_move_d (lq rfl) rfl) ?_
    obtain ⟨t37, ht37, h⟩ := bE h'; clear h'
    refine daa (a_call (lq rfl) rfl (scripts_Of_c ht37)) ?_
    refine daa (a_assign_d (lq rfl) rfl) ?_
    refine daa (a_assign_d (lq rfl) rfl) ?_
    refine daa (a_assign_d (lq rfl) rfl) ?_
    refine da_nil ?_
    refine avc_sq2 ?_
    refine avc_sq2 ?_
    refine avc_sq ?_
    refine sqa (a_assign_d (lq rfl) rfl) ?_
    refine sq_nil ?_
    refine avc_block ?_
    obtain ⟨y3, hy3, h'⟩ := bE h; clear h
    rcases y3 with y3 | y3
    ·
      replace h' := eL h'
      refine avc_tail (e := .exit 0) (S2 := ⟨[(1, .d (dsl eI a1)), (2, .d (dsl eI a2)), (3, .d (.pt (eProperty.cells a0))), (7, .d (dsl eI r24_2)), (8, .d (dsl eS t31)), (9, .d (dsl eS t34)), (10, .d (dsl eS t37))], []⟩) ?_ ?_
      ·
        refine avc_loopM (fun x => ⟨[(1, .d (dsl eI a1)), (2, .d (dsl eI a2)), (3, .d (.pt (eProperty.cells a0))), (7, .d (dsl eI r24_2)), (8, .d (dsl eS t31)), (9, .d (dsl eS t34)), (10, .d (dsl eS t37)), (11, .d (di x))], []⟩) hy3 (weak_cov ⟨rfl, rfl, rfl, rfl, rfl, rfl, rfl, rfl, trivial⟩ trivial) ?_
        rintro v11 sy3 hsy3
        replace hsy3 : law40_ScriptsGrow_L0 t37 t31 t34 v11 = some sy3 := hsy3
        unfold law40_ScriptsGrow_L0 at hsy3
        refine avc_sq2 ?_
        refine avc_sq2 ?_
        refine avc_sq ?_
        refine sqa (a_move_d (lq rfl) rfl) ?_
        refine sqa (a_move_d (lq rfl) rfl) ?_
        refine sqa (m_len (en := eS) (l := t37) (lq rfl) S22 rfl) ?_
        refine sqa (a_lss (lq rfl) rfl rfl) ?_
        refine sq_nil ?_
        refine avc_if rfl ⟨fun c2 => ?_, fun c2 => ?_⟩
        · replace hsy3 := cT c2 hsy3
          refine avc_skip ?_
          refine avc_sq2 ?_
          refine avc_block ?_
          refine avc_sq2 ?_
          refine avc_drawA MX rfl ?_
          refine daa (a_move_d (lq rfl) rfl) ?_
          refine daa (a_move_d (lq rfl) rfl) ?_
          refine daa (a_move_d (lq rfl) rfl) ?_
          obtain ⟨t47, ht47, hsy3'⟩ := bE hsy3; clear hsy3
          refine daa (m_index (en := eS) (lq rfl) S22 rfl rfl ht47) ?_
          refine daa (m_loadE (en := eS) (l := t37) (i := v11) (v := t47) (off := 0) (lq rfl) O9 rfl ht47 rfl) ?_
          obtain ⟨t49, ht49, hsy3⟩ := bE hsy3'; clear hsy3'
          refine daa (a_call (lq rfl) rfl (ref40_Has_c ht49)) ?_
          refine daa (a_not (lq rfl) rfl) ?_
          obtain ⟨b51, hb51, hsy3'⟩ := bE hsy3; clear hsy3
          refine daa ((a_move_d (lq rfl) rfl).bool (Option.some.inj hb51)) ?_
          refine da_g (x := .d (dsl eS t34)) rfl rfl rfl (lq rfl) (lq rfl) rfl (fun hb => by obtain rfl : b51 = true := hb; exact a_move_d (lq rfl) rfl) ?_
          refine da_g (x := .d (dsl eS t37)) rfl rfl rfl (lq rfl) (lq rfl) rfl (fun hb => by obtain rfl : b51 = true := hb; exact a_move_d (lq rfl) rfl) ?_
          refine da_g (x := .d (di v11)) rfl rfl rfl (lq rfl) (lq rfl) rfl (fun hb => by obtain rfl : b51 = true := hb; exact a_move_d (lq rfl) rfl) ?_
          obtain ⟨t55, ht55, hsy3⟩ := bE hsy3'; clear hsy3'
          refine da_g (x := .ip (eS.all t37) (v11.toNat * eS.size)) rfl rfl rfl (lq rfl) (lq rfl) rfl (fun hb => by obtain rfl : b51 = true := hb; exact m_index (en := eS) (lq rfl) S22 rfl rfl ht55) ?_
          refine da_g (x := .d (ds t55)) rfl rfl rfl (lq rfl) (lq rfl) rfl (fun hb => by obtain rfl : b51 = true := hb; exact m_loadE (en := eS) (l := t37) (i := v11) (v := t55) (off := 0) (lq rfl) O9 rfl ht55 rfl) ?_
          obtain ⟨t57, ht57, hsy3'⟩ := bE hsy3; clear hsy3
          refine da_g (x := .d (db t57)) rfl rfl rfl (lq rfl) (lq rfl) rfl (fun hb => by obtain rfl : b51 = true := hb; exact a_call (lq rfl) rfl (ref40_Has_c ht57)) ?_
          refine da_g (x := .d (db (!t57))) rfl rfl rfl (lq rfl) (lq rfl) rfl (fun hb => by obtain rfl : b51 = true := hb; exact a_not (lq rfl) rfl) ?_
          refine daa (a_pick_and (lq rfl) rfl rfl) ?_
          obtain ⟨b60, hb60, hsy3⟩ := bE hsy3'; clear hsy3'
          refine daa ((a_move_d (lq rfl) rfl).bool (Option.some.inj hb60)) ?_
          refine da_g (x := .d (di v11)) rfl rfl rfl (lq rfl) (lq rfl) rfl (fun hb => by obtain rfl := gF hb; exact a_move_d (lq rfl) rfl) ?_
          refine da_g (x := .d (db (decide (0 < v11)))) rfl rfl rfl (lq rfl) (lq rfl) rfl (fun hb => by obtain rfl := gF hb; exact a_gtr (lq rfl) rfl rfl) ?_
          obtain ⟨b63, hb63, hsy3'⟩ := bE hsy3; clear hsy3
          refine da_g (x := .d (db b63)) rfl rfl rfl (lq rfl) (lq rfl) rfl (fun hb => by obtain rfl := gF hb; exact (a_move_d (lq rfl) rfl).bool (Option.some.inj hb63)) ?_
          refine da_g2 (x := .d (dsl eS t37)) rfl rfl rfl (lq rfl) (lq rfl) rfl (fun hb => by obtain ⟨hb, hb1⟩ := and_split hb; obtain rfl := gF hb; obtain rfl : b63 = true := hb1; exact a_move_d (lq rfl) rfl) ?_
          refine da_g2 (x := .d (di v11)) rfl rfl rfl (lq rfl) (lq rfl) rfl (fun hb => by obtain ⟨hb, hb1⟩ := and_split hb; obtain rfl := gF hb; obtain rfl : b63 = true := hb1; exact a_move_d (lq rfl) rfl) ?_
          refine da_g2 (x := .d (di (wi (v11 - 1)))) rfl rfl rfl (lq rfl) (lq rfl) rfl (fun hb => by obtain ⟨hb, hb1⟩ := and_split hb; obtain rfl := gF hb; obtain rfl : b63 = true := hb1; exact m_sub (lq rfl) rfl rfl) ?_
          obtain ⟨t67, ht67, hsy3⟩ := bE hsy3'; clear hsy3'
          refine da_g2 (x := .ip (eS.all t37) ((wi (v11 - 1)).toNat * eS.size)) rfl rfl rfl (lq rfl) (lq rfl) rfl (fun hb => by obtain ⟨hb, hb1⟩ := and_split hb; obtain rfl := gF hb; obtain rfl : b63 = true := hb1; exact m_index (en := eS) (lq rfl) S22 rfl rfl ht67) ?_
          refine da_g2 (x := .d (ds t67)) rfl rfl rfl (lq rfl) (lq rfl) rfl (fun hb => by obtain ⟨hb, hb1⟩ := and_split hb; obtain rfl := gF hb; obtain rfl : b63 = true := hb1; exact m_loadE (en := eS) (l := t37) (i := (wi (v11 - 1))) (v := t67) (off := 0) (lq rfl) O9 rfl ht67 rfl) ?_
          refine da_g2 (x := .d (dsl eS t37)) rfl rfl rfl (lq rfl) (lq rfl) rfl (fun hb => by obtain ⟨hb, hb1⟩ := and_split hb; obtain rfl := gF hb; obtain rfl : b63 = true := hb1; exact a_move_d (lq rfl) rfl) ?_
          refine da_g2 (x := .d (di v11)) rfl rfl rfl (lq rfl) (lq rfl) rfl (fun hb => by obtain ⟨hb, hb1⟩ := and_split hb; obtain rfl := gF hb; obtain rfl : b63 = true := hb1; exact a_move_d (lq rfl) rfl) ?_
          obtain ⟨t71, ht71, hsy3'⟩ := bE hsy3; clear hsy3
          refine da_g2 (x := .ip (eS.all t37) (v11.toNat * eS.size)) rfl rfl rfl (lq rfl) (lq rfl) rfl (fun hb => by obtain ⟨hb, hb1⟩ := and_split hb; obtain rfl := gF hb; obtain rfl : b63 = true := hb1; exact m_index (en := eS) (lq rfl) S22 rfl rfl ht71) ?_
          refine da_g2 (x := .d (ds t71)) rfl rfl rfl (lq rfl) (lq rfl) rfl (fun hb => by obtain ⟨hb, hb1⟩ := and_split hb; obtain rfl := gF hb; obtain rfl : b63 = true := hb1; exact m_loadE (en := eS) (l := t37) (i := v11) (v := t71) (off := 0) (lq rfl) O9 rfl ht71 rfl) ?_
          refine da_g2 (x := .d (db (!Op.bytesLess t67 t71))) rfl rfl rfl (lq rfl) (lq rfl) rfl (fun hb => by obtain ⟨hb, hb1⟩ := and_split hb; obtain rfl := gF hb; obtain rfl : b63 = true := hb1; exact m_sgeq (a := t67) (b := t71) (lq rfl) rfl rfl) ?_
          refine da_g (x := .d (db (b63 && (!Op.bytesLess t67 t71)))) rfl rfl rfl (lq rfl) (lq rfl) rfl (fun hb => by obtain rfl := gF hb; exact a_pick_and (lq rfl) rfl rfl) ?_
          refine daa (a_pick_or (lq rfl) rfl rfl) ?_
          refine da_nil ?_
          refine avc_if rfl ⟨fun c3 => ?_, fun c3 => ?_⟩
          · replace hsy3' := cT c3 hsy3'
            refine avc_sq2 ?_
            refine avc_sq ?_
            refine sqa (a_assign_d (lq rfl) rfl) ?_
            refine sq_nil ?_
            refine avc_ret ?_
            cases hsy3'
            intro q; cases q
          · replace hsy3' := cF c3 hsy3'
            refine avc_skip ?_
            refine avc_sq ?_
            refine sqa (a_move_d (lq rfl) rfl) ?_
            refine sqa (m_add (lq rfl) rfl rfl) ?_
            refine sqa (a_assign_d (lq rfl) rfl) ?_
            refine sq_nil ?_
            cases hsy3'
            exact weak_cov ⟨rfl, rfl, rfl, rfl, rfl, rfl, rfl, rfl, trivial⟩ trivial
        · replace hsy3 := cF c2 hsy3
          refine avc_exit ?_
          cases hsy3
          intro q; cases q
          exact out_mk (weak_cov ⟨rfl, rfl, rfl, rfl, rfl, rfl, rfl, trivial⟩ trivial)
      ·
        refine avc_sq2 ?_
        refine avc_sq ?_
        refine sqa (m_loadPt (lq rfl) G25 rfl rfl) ?_
        refine sqa (a_move_d (lq rfl) rfl) ?_
        obtain ⟨t78, ht78, h⟩ := bE h'; clear h'
        refine sqa (a_call (lq rfl) rfl (con_nil (scripts_Level_c ht78) (nlE (nlN (nlE nl0))))) ?_
        refine sqa (a_assign_d (lq rfl) rfl) ?_
        refine sq_nil ?_
        refine avc_sq2 ?_
        refine avc_sq ?_
        refine sqa (a_move_d (lq rfl) rfl) ?_
        refine sqa (a_move_d (lq rfl) rfl) ?_
        obtain ⟨t81, ht81, h'⟩ := bE h; clear h
        refine sqa (a_call (lq rfl) rfl (ref40_Inside_c ht81)) ?_
        obtain ⟨b82, hb82, h⟩ := bE h'; clear h'
        refine sqa ((a_move_d (lq rfl) rfl).bool (Option.some.inj hb82)) ?_
        refine sq_g (x := .d (dsl eS t34)) rfl rfl rfl (lq rfl) (lq rfl) rfl (fun hb => by obtain rfl : b82 = true := hb; exact a_move_d (lq rfl) rfl) ?_
        refine sq_g (x := .d (dsl eS t37)) rfl rfl rfl (lq rfl) (lq rfl) rfl (fun hb => by obtain rfl : b82 = true := hb; exact a_move_d (lq rfl) rfl) ?_
        obtain ⟨t85, ht85, h'⟩ := bE h; clear h
        refine sq_g (x := .d (db t85)) rfl rfl rfl (lq rfl) (lq rfl) rfl (fun hb => by obtain rfl : b82 = true := hb; exact a_call (lq rfl) rfl (ref40_Inside_c ht85)) ?_
        refine sqa (a_pick_and (lq rfl) rfl rfl) ?_
        obtain ⟨b87, hb87, h⟩ := bE h'; clear h'
        refine sqa ((a_move_d (lq rfl) rfl).bool (Option.some.inj hb87)) ?_
        refine sq_g (x := .d (di t78)) rfl rfl rfl (lq rfl) (lq rfl) rfl (fun hb => by obtain rfl : b87 = true := hb; exact a_move_d (lq rfl) rfl) ?_
        refine sq_g (x := .d (eProperty.dv a0)) rfl rfl rfl (lq rfl) (lq rfl) rfl (fun hb => by obtain rfl : b87 = true := hb; exact m_loadPt (lq rfl) G25 rfl rfl) ?_
        refine sq_g (x := .d (dsl eI a1)) rfl rfl rfl (lq rfl) (lq rfl) rfl (fun hb => by obtain rfl : b87 = true := hb; exact a_move_d (lq rfl) rfl) ?_
        obtain ⟨t91, ht91, h'⟩ := bE h; clear h
        refine sq_g (x := .d (di t91)) rfl rfl rfl (lq rfl) (lq rfl) rfl (fun hb => by obtain rfl : b87 = true := hb; exact a_call (lq rfl) rfl (con_nil (scripts_Level_c ht91) (nlE (nlN (nlE nl0))))) ?_
        refine sq_g (x := .d (db (decide (t91 ≤ t78)))) rfl rfl rfl (lq rfl) (lq rfl) rfl (fun hb => by obtain rfl : b87 = true := hb; exact a_geq (lq rfl) rfl rfl) ?_
        refine sqa (a_pick_and (lq rfl) rfl rfl) ?_
        obtain ⟨b94, hb94, h⟩ := bE h'; clear h'
        refine sqa ((a_move_d (lq rfl) rfl).bool (Option.some.inj hb94)) ?_
        refine sq_g (x := .d (di t78)) rfl rfl rfl (lq rfl) (lq rfl) rfl (fun hb => by obtain rfl : b94 = true := hb; exact a_move_d (lq rfl) rfl) ?_
        refine sq_g (x := .d (eProperty.dv a0)) rfl rfl rfl (lq rfl) (lq rfl) rfl (fun hb => by obtain rfl : b94 = true := hb; exact m_loadPt (lq rfl) G25 rfl rfl) ?_
        refine sq_g (x := .d (dsl eI a2)) rfl rfl rfl (lq rfl) (lq rfl) rfl (fun hb => by obtain rfl : b94 = true := hb; exact a_move_d (lq rfl) rfl) ?_
        obtain ⟨t98, ht98, h'⟩ := bE h; clear h
        refine sq_g (x := .d (di t98)) rfl rfl rfl (lq rfl) (lq rfl) rfl (fun hb => by obtain rfl : b94 = true := hb; exact a_call (lq rfl) rfl (con_nil (scripts_Level_c ht98) (nlE (nlN (nlE nl0))))) ?_
        refine sq_g (x := .d (db (decide (t98 ≤ t78)))) rfl rfl rfl (lq rfl) (lq rfl) rfl (fun hb => by obtain rfl : b94 = true := hb; exact a_geq (lq rfl) rfl rfl) ?_
        refine sqa (a_pick_and (lq rfl) rfl rfl) ?_
        obtain ⟨b101, hb101, h⟩ := bE h'; clear h'
        refine sqa ((a_move_d (lq rfl) rfl).bool (Option.some.inj hb101)) ?_
        obtain ⟨t102, ht102, h'⟩ := bE h; clear h
        refine sq_g (x := .d (db t102)) rfl rfl rfl (lq rfl) (lq rfl) rfl (fun hb => by obtain rfl : b101 = true := hb; exact a_call (lq rfl) rfl (law40_alive_c ht102)) ?_
        refine sqa (a_pick_and (lq rfl) rfl rfl) ?_
        refine sqa (a_assign_d (lq rfl) rfl) ?_
        refine sq_nil ?_
        cases h'
        refine avc_ret ?_
        exact ret_1 rfl
    ·
      replace h' := eR h'
      refine avc_tail (e := .ret) (S2 := ⟨[(6, .d (db y3))], []⟩) ?_ ?_
      ·
        refine avc_loopM (fun x => ⟨[(1, .d (dsl eI a1)), (2, .d (dsl eI a2)), (3, .d (.pt (eProperty.cells a0))), (7, .d (dsl eI r24_2)), (8, .d (dsl eS t31)), (9, .d (dsl eS t34)), (10, .d (dsl eS t37)), (11, .d (di x))], []⟩) hy3 (weak_cov ⟨rfl, rfl, rfl, rfl, rfl, rfl, rfl, rfl, trivial⟩ trivial) ?_
        rintro v11 sy3 hsy3
        replace hsy3 : law40_ScriptsGrow_L0 t37 t31 t34 v11 = some sy3 := hsy3
        unfold law40_ScriptsGrow_L0 at hsy3
        refine avc_sq2 ?_
        refine avc_sq2 ?_
        refine avc_sq ?_
        refine sqa (a_move_d (lq rfl) rfl) ?_
        refine sqa (a_move_d (lq rfl) rfl) ?_
        refine sqa (m_len (en := eS) (l := t37) (lq rfl) S22 rfl) ?_
        refine sqa (a_lss (lq rfl) rfl rfl) ?_
        refine sq_nil ?_
        refine avc_if rfl ⟨fun c2 => ?_, fun c2 => ?_⟩
        · replace hsy3 := cT c2 hsy3
          refine avc_skip ?_
          refine avc_sq2 ?_
          refine avc_block ?_
          refine avc_sq2 ?_
          refine avc_drawA MX rfl ?_
          refine daa (a_move_d (lq rfl) rfl) ?_
          refine daa (a_move_d (lq rfl) rfl) ?_
          refine daa (a_move_d (lq rfl) rfl) ?_
          obtain ⟨t47, ht47, hsy3'⟩ := bE hsy3; clear hsy3
          refine daa (m_index (en := eS) (lq rfl) S22 rfl rfl ht47) ?_
          refine daa (m_loadE (en := eS) (l := t37) (i := v11) (v := t47) (off := 0) (lq rfl) O9 rfl ht47 rfl) ?_
          obtain ⟨t49, ht49, hsy3⟩ := bE hsy3'; clear hsy3'
          refine daa (a_call (lq rfl) rfl (ref40_Has_c ht49)) ?_
          refine daa (a_not (lq rfl) rfl) ?_
          obtain ⟨b51, hb51, hsy3'⟩ := bE hsy3; clear hsy3
          refine daa ((a_move_d (lq rfl) rfl).bool (Option.some.inj hb51)) ?_
          refine da_g (x := .d (dsl eS t34)) rfl rfl rfl (lq rfl) (lq rfl) rfl (fun hb => by obtain rfl : b51 = true := hb; exact a_move_d (lq rfl) rfl) ?_
          refine da_g (x := .d (dsl eS t37)) rfl rfl rfl (lq rfl) (lq rfl) rfl (fun hb => by obtain rfl : b51 = true := hb; exact a_move_d (lq rfl) rfl) ?_
          refine da_g (x := .d (di v11)) rfl rfl rfl (lq rfl) (lq rfl) rfl (fun hb => by obtain rfl : b51 = true := hb; exact a_move_d (lq rfl) rfl) ?_
          obtain ⟨t55, ht55, hsy3⟩ := bE hsy3'; clear hsy3'
          refine da_g (x := .ip (eS.all t37) (v11.toNat * eS.size)) rfl rfl rfl (lq rfl) (lq rfl) rfl (fun hb => by obtain rfl : b51 = true := hb; exact m_index (en := eS) (lq rfl) S22 rfl rfl ht55) ?_
          refine da_g (x := .d (ds t55)) rfl rfl rfl (lq rfl) (lq rfl) rfl (fun hb => by obtain rfl : b51 = true := hb; exact m_loadE (en := eS) (l := t37) (i := v11) (v := t55) (off := 0) (lq rfl) O9 rfl ht55 rfl) ?_
          obtain ⟨t57, ht57, hsy3'⟩ := bE hsy3; clear hsy3
          refine da_g (x := .d (db t57)) rfl rfl rfl (lq rfl) (lq rfl) rfl (fun hb => by obtain rfl : b51 = true := hb; exact a_call (lq rfl) rfl (ref40_Has_c ht57)) ?_
          refine da_g (x := .d (db (!t57))) rfl rfl rfl (lq rfl) (lq rfl) rfl (fun hb => by obtain rfl : b51 = true := hb; exact a_not (lq rfl) rfl) ?_
          refine daa (a_pick_and (lq rfl) rfl rfl) ?_
          obtain ⟨b60, hb60, hsy3⟩ := bE hsy3'; clear hsy3'
          refine daa ((a_move_d (lq rfl) rfl).bool (Option.some.inj hb60)) ?_
          refine da_g (x := .d (di v11)) rfl rfl rfl (lq rfl) (lq rfl) rfl (fun hb => by obtain rfl := gF hb; exact a_move_d (lq rfl) rfl) ?_
          refine da_g (x := .d (db (decide (0 < v11)))) rfl rfl rfl (lq rfl) (lq rfl) rfl (fun hb => by obtain rfl := gF hb; exact a_gtr (lq rfl) rfl rfl) ?_
          obtain ⟨b63, hb63, hsy3'⟩ := bE hsy3; clear hsy3
          refine da_g (x := .d (db b63)) rfl rfl rfl (lq rfl) (lq rfl) rfl (fun hb => by obtain rfl := gF hb; exact (a_move_d (lq rfl) rfl).bool (Option.some.inj hb63)) ?_
          refine da_g2 (x := .d (dsl eS t37)) rfl rfl rfl (lq rfl) (lq rfl) rfl (fun hb => by obtain ⟨hb, hb1⟩ := and_split hb; obtain rfl := gF hb; obtain rfl : b63 = true := hb1; exact a_move_d (lq rfl) rfl) ?_
          refine da_g2 (x := .d (di v11)) rfl rfl rfl (lq rfl) (lq rfl) rfl (fun hb => by obtain ⟨hb, hb1⟩ := and_split hb; obtain rfl := gF hb; obtain rfl : b63 = true := hb1; exact a_move_d (lq rfl) rfl) ?_
          refine da_g2 (x := .d (di (wi (v11 - 1)))) rfl rfl rfl (lq rfl) (lq rfl) rfl (fun hb => by obtain ⟨hb, hb1⟩ := and_split hb; obtain rfl := gF hb; obtain rfl : b63 = true := hb1; exact m_sub (lq rfl) rfl rfl) ?_
          obtain ⟨t67, ht67, hsy3⟩ := bE hsy3'; clear hsy3'
          refine da_g2 (x := .ip (eS.all t37) ((wi (v11 - 1)).toNat * eS.size)) rfl rfl rfl (lq rfl) (lq rfl) rfl (fun hb => by obtain ⟨hb, hb1⟩ := and_split hb; obtain rfl := gF hb; obtain rfl : b63 = true := hb1; exact m_index (en := eS) (lq rfl) S22 rfl rfl ht67) ?_
          refine da_g2 (x := .d (ds t67)) rfl rfl rfl (lq rfl) (lq rfl) rfl (fun hb => by obtain ⟨hb, hb1⟩ := and_split hb; obtain rfl := gF hb; obtain rfl : b63 = true := hb1; exact m_loadE (en := eS) (l := t37) (i := (wi (v11 - 1))) (v := t67) (off := 0) (lq rfl) O9 rfl ht67 rfl) ?_
          refine da_g2 (x := .d (dsl eS t37)) rfl rfl rfl (lq rfl) (lq rfl) rfl (fun hb => by obtain ⟨hb, hb1⟩ := and_split hb; obtain rfl := gF hb; obtain rfl : b63 = true := hb1; exact a_move_d (lq rfl) rfl) ?_
          refine da_g2 (x := .d (di v11)) rfl rfl rfl (lq rfl) (lq rfl) rfl (fun hb => by obtain ⟨hb, hb1⟩ := and_split hb; obtain rfl := gF hb; obtain rfl : b63 = true := hb1; exact a_move_d (lq rfl) rfl) ?_
          obtain ⟨t71, ht71, hsy3'⟩ := bE hsy3; clear hsy3
          refine da_g2 (x := .ip (eS.all t37) (v11.toNat * eS.size)) rfl rfl rfl (lq rfl) (lq rfl) rfl (fun hb => by obtain ⟨hb, hb1⟩ := and_split hb; obtain rfl := gF hb; obtain rfl : b63 = true := hb1; exact m_index (en := eS) (lq rfl) S22 rfl rfl ht71) ?_
          refine da_g2 (x := .d (ds t71)) rfl rfl rfl (lq rfl) (lq rfl) rfl (fun hb => by obtain ⟨hb, hb1⟩ := and_split hb; obtain rfl := gF hb; obtain rfl : b63 = true := hb1; exact m_loadE (en := eS) (l := t37) (i := v11) (v := t71) (off := 0) (lq rfl) O9 rfl ht71 rfl) ?_
          refine da_g2 (x := .d (db (!Op.bytesLess t67 t71))) rfl rfl rfl (lq rfl) (lq rfl) rfl (fun hb => by obtain ⟨hb, hb1⟩ := and_split hb; obtain rfl := gF hb; obtain rfl : b63 = true := hb1; exact m_sgeq (a := t67) (b := t71) (lq rfl) rfl rfl) ?_
          refine da_g (x := .d (db (b63 && (!Op.bytesLess t67 t71)))) rfl rfl rfl (lq rfl) (lq rfl) rfl (fun hb => by obtain rfl := gF hb; exact a_pick_and (lq rfl) rfl rfl) ?_
          refine daa (a_pick_or (lq rfl) rfl rfl) ?_
          refine da_nil ?_
          refine avc_if rfl ⟨fun c3 => ?_, fun c3 => ?_⟩
          · replace hsy3' := cT c3 hsy3'
            refine avc_sq2 ?_
            refine avc_sq ?_
            refine sqa (a_assign_d (lq rfl) rfl) ?_
            refine sq_nil ?_
            refine avc_ret ?_
            cases hsy3'
            intro q; cases q
            exact out_mk (weak_cov ⟨rfl, trivial⟩ trivial)
          · replace hsy3' := cF c3 hsy3'
            refine avc_skip ?_
            refine avc_sq ?_
            refine sqa (a_move_d (lq rfl) rfl) ?_
            refine sqa (m_add (lq rfl) rfl rfl) ?_
            refine sqa (a_assign_d (lq rfl) rfl) ?_
            refine sq_nil ?_
            cases hsy3'
            exact weak_cov ⟨rfl, rfl, rfl, rfl, rfl, rfl, rfl, rfl, trivial⟩ trivial
        · replace hsy3 := cF c2 hsy3
          refine avc_exit ?_
          cases hsy3
          intro q; cases q
      ·
        cases h'
        exact ret_1 rfl

theorem scripts_Resolved_c  {a0 : Property} {a1 : (List Int)}  {r : (List Range)} (h : scripts_Resolved a0 a1 = some r) : Contract Try.prog 26 [(eProperty.dv a0), (dsl eI a1)] [(dsl eRange r)] := by
  refine contract_of Try.func26 (by kernel_rfl) rfl (lq rfl) (lq rfl) fun w0 I0 => ?_
  unfold scripts_Resolved at h
  refine avc_sq2 ?_
  refine avc_sq ?_
  refine sqa (m_box (size := 2) (lq rfl) rfl rfl) ?_
  refine sqa (a_assign_d (lq rfl) rfl) ?_
  refine sq_nil ?_
  refine avc_sq2 ?_
  refine avc_sq ?_
  refine sqa (m_loadPt (lq rfl) G25 rfl rfl) ?_
  refine sqa (a_move_d (lq rfl) rfl) ?_
  obtain ⟨t17, ht17, h'⟩ := bE h; clear h
  refine sqa (a_call (lq rfl) rfl (scripts_resolved_c ht17)) ?_
  refine sqa (a_assign_d (lq rfl) rfl) ?_
  refine sq_nil ?_
  refine avc_sq2 ?_
  refine avc_sq ?_
  refine sq_b rfl (m_makeMap (lq rfl) rfl) ?_
  refine sqa (a_assign_row (lq rfl) rfl) ?_
  refine sq_nil ?_
  refine avc_sq2 ?_
  refine avc_sq2 ?_
  refine avc_sq ?_
  refine sqa (a_move_d (lq rfl) rfl) ?_
  obtain ⟨t20, ht20, h⟩ := bE h'; clear h'
  refine sqa (a_call (lq rfl) rfl (scripts_runs_string_c ht20)) ?_
  refine sqa (m_len (en := eRange) (l := t20) (lq rfl) S32 rfl) ?_
  refine sqa (a_move_d (lq rfl) rfl) ?_
  refine sq_nil ?_
  refine avc_block ?_
  obtain ⟨y1, hy1, h'⟩ := bE h; clear h
  refine avc_tail (e := .exit 0) (S2 := ⟨[(1, .d (dsl eI a1)), (2, .d (.pt (eProperty.cells a0))), (6, .row 18)], [(18, .map (mapE kS eRange y1))]⟩) ?_ ?_
  ·
    refine avc_loopM (fun x => ⟨[(1, .d (dsl eI a1)), (2, .d (.pt (eProperty.cells a0))), (5, .d (dsl eS t17)), (6, .row 18), (20, .d (dsl eRange t20)), (21, .d (di (t20.length : Int))), (22, .d (di x.1))], [(18, .map (mapE kS eRange x.2))]⟩) hy1 (weak_cov ⟨rfl, rfl, rfl, rfl, rfl, rfl, rfl, trivial⟩ ⟨rfl, trivial⟩) ?_
    rintro ⟨v22, r18⟩ sy1 hsy1
    replace hsy1 : scripts_Resolved_L0 t20 t17 v22 r18 = some sy1 := hsy1
    unfold scripts_Resolved_L0 at hsy1
    refine avc_sq2 ?_
    refine avc_sq ?_
    refine sqa (a_lss (lq rfl) rfl rfl) ?_
    refine sq_nil ?_
    refine avc_sq2 ?_
    refine avc_if rfl ⟨fun c1 => ?_, fun c1 => ?_⟩
    · replace hsy1 := cT c1 hsy1
      refine avc_skip ?_
      refine avc_sq2 ?_
      obtain ⟨y2, hy2, hsy1'⟩ := bE hsy1; clear hsy1
      refine avc_tail (e := .normal) (S2 := ⟨[(1, .d (dsl eI a1)), (2, .d (.pt (eProperty.cells a0))), (5, .d (dsl eS t17)), (6, .row 18), (20, .d (dsl eRange t20)), (21, .d (di (t20.length : Int))), (22, .d (di v22))], [(18, .map (mapE kS eRange y2))]⟩) ?_ ?_
      ·
        refine avc_block ?_
        refine avc_sq2 ?_
        refine avc_sq ?_
        obtain ⟨t24, ht24, hy2'⟩ := bE hy2; clear hy2
        refine sqa (m_index (en := eRange) (lq rfl) S32 rfl rfl ht24) ?_
        refine sqa (m_loadEA (en := eRange) (l := t20) (i := v22) (v := t24) (off := 0) (lq rfl) G38 rfl ht24 rfl rfl (by decide)) ?_
        refine sq_b rfl (step_alloc (zs := [(.int IntKind.i64 (0)), (.int IntKind.i64 (0))]) (lq rfl) (by kernel_rfl) rfl rfl) ?_
        refine sq_b rfl (s_store_boxA G38 rfl rfl rfl rfl rfl rfl) ?_
        refine sq_nil ?_
        refine avc_weak (weak_freeze (t := 8) (lq rfl) rfl rfl rfl) ?_
        refine avc_sq2 ?_
        refine avc_sq ?_
        refine sqa (a_move_d (lq rfl) rfl) ?_
        refine sqa (m_fieldPt (lq rfl) L38_0 rfl) ?_
        refine sqa (a_load_ip (lq rfl) O3 rfl rfl) ?_
        obtain ⟨t29, ht29, hy2⟩ := bE hy2'; clear hy2'
        refine sqa (m_index (en := eS) (lq rfl) S22 rfl rfl ht29) ?_
        refine sqa (m_loadE (en := eS) (l := t17) (i := t24.Lo) (v := t29) (off := 0) (lq rfl) O9 rfl ht29 rfl) ?_
        refine sqa (a_assign_d (lq rfl) rfl) ?_
        refine sq_nil ?_
        refine avc_sq2 ?_
        refine avc_sq ?_
        refine sqa (a_move_row (lq rfl) rfl) ?_
        refine sqa (a_move_d (lq rfl) rfl) ?_
        refine sqa (m_lookup2 (kv := kS) (ev := eRange) (mp := r18) (k := t29) (zero := (({ Lo := 0, Hi := 0 }) : Range)) (lq rfl) M56 K9 rfl rfl rfl (fun _ _ => rep_vals [(.int IntKind.i64 (0)), (.int IntKind.i64 (0))] rfl)) ?_
        refine sqa (a_move_tup (lq rfl) rfl) ?_
        refine sqa (a_extract (lq rfl) rfl rfl) ?_
        refine sqa (a_extract (lq rfl) rfl rfl) ?_
        refine sq_b rfl (step_alloc (zs := [(.int IntKind.i64 (0)), (.int IntKind.i64 (0))]) (lq rfl) (by kernel_rfl) rfl rfl) ?_
        refine sq_b rfl (s_store_boxA G38 rfl rfl rfl rfl rfl rfl) ?_
        refine sqa (a_assign_d (lq rfl) rfl) ?_
        refine sq_nil ?_
        refine avc_sq2 ?_
        refine avc_sq ?_
        refine sqa (a_move_d (lq rfl) rfl) ?_
        refine sqa (a_not (lq rfl) rfl) ?_
        refine sq_nil ?_
        refine avc_if rfl ⟨fun c2 => ?_, fun c2 => ?_⟩
        · replace hy2 := cT c2 hy2
          refine avc_sq ?_
          refine sqa (a_move_row (lq rfl) rfl) ?_
          refine sqa (a_move_d (lq rfl) rfl) ?_
          refine sqa (m_loadPt (lq rfl) G38 rfl rfl) ?_
          refine sq_b rfl (m_mapUpdate (kv := kS) (ev := eRange) (mp := r18) (k := t29) (v := t24) M56 K9 rfl rfl rfl rfl rfl rfl) ?_
          refine sq_nil ?_
          cases hy2
          exact out_mk (weak_cov ⟨rfl, rfl, rfl, rfl, rfl, rfl, rfl, trivial⟩ ⟨rfl, trivial⟩)
        · replace hy2 := cF c2 hy2
          refine avc_skip ?_
          cases hy2
          exact out_mk (weak_cov ⟨rfl, rfl, rfl, rfl, rfl, rfl, rfl, trivial⟩ ⟨rfl, trivial⟩)
      ·
        refine avc_sq ?_
        refine sqa (m_add (lq rfl) rfl rfl) ?_
        refine sqa (a_move_d (lq rfl) rfl) ?_
        refine sq_nil ?_
        cases hsy1'
        exact weak_cov ⟨rfl, rfl, rfl, rfl, rfl, rfl, rfl, trivial⟩ ⟨rfl, trivial⟩
    · replace hsy1 := cF c1 hsy1
      refine avc_exit ?_
      cases hsy1
      intro q; cases q
      exact out_mk (weak_cov ⟨rfl, rfl, rfl, trivial⟩ ⟨rfl, trivial⟩)
  ·
    refine avc_sq2 ?_
    refine avc_sq ?_
    refine sqa (a_assign_d (lq rfl) rfl) ?_
    refine sq_nil ?_
    refine avc_weak (weak_nil (t := 12) 1012 38 eRange.size (lq rfl) (lq rfl) rfl rfl) ?_
    refine avc_sq2 ?_
    refine avc_sq2 ?_
    refine avc_sq ?_
    refine sqa (m_loadPt (lq rfl) G25 rfl rfl) ?_
    refine sqa (a_move_d (lq rfl) rfl) ?_
    obtain ⟨t45, ht45, h⟩ := bE h'; clear h'
    refine sqa (a_call (lq rfl) rfl (scripts_Of_c ht45)) ?_
    refine sqa (m_len (en := eS) (l := t45) (lq rfl) S22 rfl) ?_
    refine sqa (a_move_d (lq rfl) rfl) ?_
    refine sq_nil ?_
    refine avc_block ?_
    obtain ⟨y3, hy3, h'⟩ := bE h; clear h
    refine avc_tail (e := .exit 2) (S2 := ⟨[(12, .row 1012)], [(1012, .row 38 eRange.size false (eRange.all y3))]⟩) ?_ ?_
    ·
      refine avc_loopM (fun x => ⟨[(6, .row 18), (12, .row 1012), (45, .d (dsl eS t45)), (46, .d (di (t45.length : Int))), (47, .d (di x.1))], [(18, .map (mapE kS eRange y1)), (1012, .row 38 eRange.size false (eRange.all x.2))]⟩) hy3 (weak_cov ⟨rfl, rfl, rfl, rfl, rfl, trivial⟩ ⟨rfl, rfl, trivial⟩) ?_
      rintro ⟨v47, r1012⟩ sy3 hsy3
      replace hsy3 : scripts_Resolved_L1 t45 y1 v47 r1012 = some sy3 := hsy3
      unfold scripts_Resolved_L1 at hsy3
      refine avc_sq2 ?_
      refine avc_sq ?_
      refine sqa (a_lss (lq rfl) rfl rfl) ?_
      refine sq_nil ?_
      refine avc_sq2 ?_
      refine avc_if rfl ⟨fun c3 => ?_, fun c3 => ?_⟩
      · replace hsy3 := cT c3 hsy3
        refine avc_skip ?_
        refine avc_sq2 ?_
        refine avc_block ?_
        refine avc_sq2 ?_
        refine avc_sq ?_
        obtain ⟨t49, ht49, hsy3'⟩ := bE hsy3; clear hsy3
        refine sqa (m_index (en := eS) (lq rfl) S22 rfl rfl ht49) ?_
        refine sqa (m_loadE (en := eS) (l := t45) (i := v47) (v := t49) (off := 0) (lq rfl) O9 rfl ht49 rfl) ?_
        refine sqa (a_assign_d (lq rfl) rfl) ?_
        refine sq_nil ?_
        refine avc_sq ?_
        refine sqa (a_move_row (lq rfl) rfl) ?_
        refine sqa (a_move_row (lq rfl) rfl) ?_
        refine sqa (a_move_d (lq rfl) rfl) ?_
        refine sqa (m_lookup (kv := kS) (ev := eRange) (mp := y1) (k := t49) (zero := (({ Lo := 0, Hi := 0 }) : Range)) (lq rfl) M56 K9 rfl rfl rfl (fun _ _ => rep_vals [(.int IntKind.i64 (0)), (.int IntKind.i64 (0))] rfl)) ?_
        refine sqa (a_lit (lq rfl) S32 rfl rfl rfl rfl (by decide) rfl) ?_
        obtain ⟨r1012_4, hr1012_4, hsy3⟩ := bE hsy3'; clear hsy3'
        refine sq_b rfl (m_append (en := eRange) (l := r1012) (m := [mgetD y1 t49 (({ Lo := 0, Hi := 0 }) : Range)]) (lq rfl) S32 rfl rfl rfl hr1012_4 (by decide) (by decide) rfl rfl) ?_
        refine sqa (a_assign_row (lq rfl) rfl) ?_
        refine sq_nil ?_
        refine avc_sq ?_
        refine sqa (m_add (lq rfl) rfl rfl) ?_
        refine sqa (a_move_d (lq rfl) rfl) ?_
        refine sq_nil ?_
        cases hsy3
        exact weak_cov ⟨rfl, rfl, rfl, rfl, rfl, trivial⟩ ⟨rfl, rfl, trivial⟩
      · replace hsy3 := cF c3 hsy3
        refine avc_exit ?_
        cases hsy3
        intro q; cases q
        exact out_mk (weak_cov ⟨rfl, trivial⟩ ⟨rfl, trivial⟩)
    ·
      refine avc_sq2 ?_
      refine avc_sq ?_
      refine sqa (a_move_row (lq rfl) rfl) ?_
      refine sqa (a_assign_row (lq rfl) rfl) ?_
      refine sq_nil ?_
      cases h'
      refine avc_ret ?_
      exact ret_1 rfl

theorem ref40_Resolved_c  {a0 : Property} {a1 : (List Int)}  {r : (List Range)} (h : ref40_Resolved a0 a1 = some r) : Contract Try.prog 27 [(eProperty.dv a0), (dsl eI a1)] [(dsl eRange r)] := by
  refine contract_of Try.func27 (by kernel_rfl) rfl (lq rfl) (lq rfl) fun w0 I0 => ?_
  unfold ref40_Resolved at h
  refine avc_sq2 ?_
  refine avc_sq ?_
  refine sqa (m_box (size := 2) (lq rfl) rfl rfl) ?_
  refine sqa (a_assign_d (lq rfl) rfl) ?_
  refine sq_nil ?_
  refine avc_sq2 ?_
  refine avc_drawA MX rfl ?_
  refine daa (m_loadPt (lq rfl) G25 rfl rfl) ?_
  refine daa (a_move_d (lq rfl) rfl) ?_
  obtain ⟨t12, ht12, h'⟩ := bE h; clear h
  refine daa (a_call (lq rfl) rfl (ref40_Of_c ht12)) ?_
  refine daa (m_loadPt (lq rfl) G25 rfl rfl) ?_
  refine daa (a_move_d (lq rfl) rfl) ?_
  obtain ⟨t15, ht15, h⟩ := bE h'; clear h'
  refine daa (a_call (lq rfl) rfl (ref40_Runs_c ht15)) ?_
  refine daa (a_assign_d (lq rfl) rfl) ?_
  refine daa (a_assign_d (lq rfl) rfl) ?_
  refine da_nil ?_
  refine avc_sq2 ?_
  refine avc_sq ?_
  refine sqa (a_assign_d (lq rfl) rfl) ?_
  refine sq_nil ?_
  refine avc_weak (weak_nil (t := 7) 1007 38 eRange.size (lq rfl) (lq rfl) rfl rfl) ?_
  refine avc_sq2 ?_
  refine avc_sq2 ?_
  refine avc_sq ?_
  refine sqa (a_assign_d (lq rfl) rfl) ?_
  refine sq_nil ?_
  refine avc_block ?_
  obtain ⟨y1, hy1, h'⟩ := bE h; clear h
  refine avc_tail (e := .exit 0) (S2 := ⟨[(7, .row 1007)], [(1007, .row 38 eRange.size false (eRange.all y1))]⟩) ?_ ?_
  ·
    refine avc_loopM (fun x => ⟨[(1, .d (dsl eI a1)), (2, .d (.pt (eProperty.cells a0))), (5, .d (dsl eS t12)), (6, .d (dsl eRange t15)), (7, .row 1007), (8, .d (di x.1))], [(1007, .row 38 eRange.size false (eRange.all x.2))]⟩) hy1 (weak_cov ⟨rfl, rfl, rfl, rfl, rfl, rfl, trivial⟩ ⟨rfl, trivial⟩) ?_
    rintro ⟨v8, r1007⟩ sy1 hsy1
    replace hsy1 : ref40_Resolved_L0 t12 t15 a0 a1 v8 r1007 = some sy1 := hsy1
    unfold ref40_Resolved_L0 at hsy1
    refine avc_sq2 ?_
    refine avc_sq2 ?_
    refine avc_sq ?_
    refine sqa (a_move_d (lq rfl) rfl) ?_
    refine sqa (a_move_d (lq rfl) rfl) ?_
    refine sqa (m_len (en := eS) (l := t12) (lq rfl) S22 rfl) ?_
    refine sqa (a_lss (lq rfl) rfl rfl) ?_
    refine sq_nil ?_
    refine avc_if rfl ⟨fun c1 => ?_, fun c1 => ?_⟩
    · replace hsy1 := cT c1 hsy1
      refine avc_skip ?_
      refine avc_sq2 ?_
      refine avc_block ?_
      refine avc_sq2 ?_
      refine avc_sq ?_
      refine sqa (a_assign_d (lq rfl) rfl) ?_
      refine sq_nil ?_
      refine avc_block ?_
      obtain ⟨y2, hy2, hsy1'⟩ := bE hsy1; clear hsy1
      refine avc_tail (e := .exit 2) (S2 := ⟨[(1, .d (dsl eI a1)), (2, .d (.pt (eProperty.cells a0))), (5, .d (dsl eS t12)), (6, .d (dsl eRange t15)), (7, .row 1007), (8, .d (di v8))], [(1007, .row 38 eRange.size false (eRange.all y2))]⟩) ?_ ?_
      ·
        refine avc_loopM (fun x => ⟨[(1, .d (dsl eI a1)), (2, .d (.pt (eProperty.cells a0))), (5, .d (dsl eS t12)), (6, .d (dsl eRange t15)), (7, .row 1007), (8, .d (di v8)), (9, .d (di x))], [(1007, .row 38 eRange.size false (eRange.all r1007))]⟩) hy2 (weak_cov ⟨rfl, rfl, rfl, rfl, rfl, rfl, rfl, trivial⟩ ⟨rfl, trivial⟩) ?_
        rintro v9 sy2 hsy2
        replace hsy2 : ref40_Resolved_L1 t15 a0 a1 t12 v8 r1007 v9 = some sy2 := hsy2
        unfold ref40_Resolved_L1 at hsy2
        refine avc_sq2 ?_
        refine avc_sq2 ?_
        refine avc_sq ?_
        refine sqa (a_move_d (lq rfl) rfl) ?_
        refine sqa (a_move_d (lq rfl) rfl) ?_
        refine sqa (m_len (en := eRange) (l := t15) (lq rfl) S32 rfl) ?_
        refine sqa (a_lss (lq rfl) rfl rfl) ?_
        refine sq_nil ?_
        refine avc_if rfl ⟨fun c2 => ?_, fun c2 => ?_⟩
        · replace hsy2 := cT c2 hsy2
          refine avc_skip ?_
          refine avc_sq2 ?_
          refine avc_block ?_
          refine avc_sq2 ?_
          refine avc_drawA MX rfl ?_
          refine daa (m_loadPt (lq rfl) G25 rfl rfl) ?_
          refine daa (a_move_d (lq rfl) rfl) ?_
          refine daa (a_move_d (lq rfl) rfl) ?_
          refine daa (a_move_d (lq rfl) rfl) ?_
          obtain ⟨t32, ht32, hsy2'⟩ := bE hsy2; clear hsy2
          refine daa (m_index (en := eRange) (lq rfl) S32 rfl rfl ht32) ?_
          refine daa (a_fieldAddr_ip (lq rfl) L38_0 rfl) ?_
          refine daa (m_loadE (en := eRange) (l := t15) (i := v9) (v := t32) (off := 0) (lq rfl) O3 rfl ht32 rfl) ?_
          obtain ⟨t35, ht35, hsy2⟩ := bE hsy2'; clear hsy2'
          refine daa (a_call (lq rfl) rfl (ref40_Script_c ht35)) ?_
          refine daa (a_move_d (lq rfl) rfl) ?_
          refine daa (a_move_d (lq rfl) rfl) ?_
          obtain ⟨t38, ht38, hsy2'⟩ := bE hsy2; clear hsy2
          refine daa (m_index (en := eS) (lq rfl) S22 rfl rfl ht38) ?_
          refine daa (m_loadE (en := eS) (l := t12) (i := v8) (v := t38) (off := 0) (lq rfl) O9 rfl ht38 rfl) ?_
          refine daa (m_seql (a := t35) (b := t38) (lq rfl) rfl rfl) ?_
          refine da_nil ?_
          refine avc_if rfl ⟨fun c3 => ?_, fun c3 => ?_⟩
          · replace hsy2' := cT c3 hsy2'
            refine avc_sq2 ?_
            refine avc_sq ?_
            refine sqa (a_move_row (lq rfl) rfl) ?_
            refine sqa (a_move_d (lq rfl) rfl) ?_
            refine sqa (a_move_d (lq rfl) rfl) ?_
            obtain ⟨t44, ht44, hsy2⟩ := bE hsy2'; clear hsy2'
            refine sqa (m_index (en := eRange) (lq rfl) S32 rfl rfl ht44) ?_
            refine sqa (m_loadEA (en := eRange) (l := t15) (i := v9) (v := t44) (off := 0) (lq rfl) G38 rfl ht44 rfl rfl (by decide)) ?_
            refine sqa (a_lit (lq rfl) S32 rfl rfl rfl rfl (by decide) rfl) ?_
            obtain ⟨r1007_3, hr1007_3, hsy2'⟩ := bE hsy2; clear hsy2
            refine sq_b rfl (m_append (en := eRange) (l := r1007) (m := [t44]) (lq rfl) S32 rfl rfl rfl hr1007_3 (by decide) (by decide) rfl rfl) ?_
            refine sqa (a_assign_row (lq rfl) rfl) ?_
            refine sq_nil ?_
            refine avc_exit ?_
            cases hsy2'
            intro q; cases q
            exact out_mk (weak_cov ⟨rfl, rfl, rfl, rfl, rfl, rfl, trivial⟩ ⟨rfl, trivial⟩)
          · replace hsy2' := cF c3 hsy2'
            refine avc_skip ?_
            refine avc_sq ?_
            refine sqa (a_move_d (lq rfl) rfl) ?_
            refine sqa (m_add (lq rfl) rfl rfl) ?_
            refine sqa (a_assign_d (lq rfl) rfl) ?_
            refine sq_nil ?_
            cases hsy2'
            exact weak_cov ⟨rfl, rfl, rfl, rfl, rfl, rfl, rfl, trivial⟩ ⟨rfl, trivial⟩
        · replace hsy2 := cF c2 hsy2
          refine avc_exit ?_
          cases hsy2
          intro q; cases q
          exact out_mk (weak_cov ⟨rfl, rfl, rfl, rfl, rfl, rfl, trivial⟩ ⟨rfl, trivial⟩)
      ·
        refine avc_sq ?_
        refine sqa (a_move_d (lq rfl) rfl) ?_
        refine sqa (m_add (lq rfl) rfl rfl) ?_
        refine sqa (a_assign_d (lq rfl) rfl) ?_
        refine sq_nil ?_
        cases hsy1'
        exact weak_cov ⟨rfl, rfl, rfl, rfl, rfl, rfl, trivial⟩ ⟨rfl, trivial⟩
    · replace hsy1 := cF c1 hsy1
      refine avc_exit ?_
      cases hsy1
      intro q; cases q
      exact out_mk (weak_cov ⟨rfl, trivial⟩ ⟨rfl, trivial⟩)
  ·
    refine avc_sq2 ?_
    refine avc_sq ?_
    refine sqa (a_move_row (lq rfl) rfl) ?_
    refine sqa (a_assign_row (lq rfl) rfl) ?_
    refine sq_nil ?_
    cases h'
    refine avc_ret ?_
    exact ret_1 rfl

theorem law40_ScriptsResolved_c  {a0 : Property} {a1 : (List Int)}  {r : Bool} (h : law40_ScriptsResolved a0 a1 = some r) : Contract Try.prog 9 [(eProperty.dv a0), (dsl eI a1)] [(db r)] := by
  refine contract_of Try.func9 (by kernel_rfl) rfl (lq rfl) (lq rfl) fun w0 I0 => ?_
  unfold law40_ScriptsResolved at h
  refine avc_sq2 ?_
  refine avc_sq ?_
  refine sqa (m_box (size := 2) (lq rfl) rfl rfl) ?_
  refine sqa (a_assign_d (lq rfl) rfl) ?_
  refine sq_nil ?_
  refine avc_sq2 ?_
  refine avc_sq2 ?_
  refine avc_sq ?_
  refine sqa (m_loadPt (lq rfl) G25 rfl rfl) ?_
  refine sqa (a_move_d (lq rfl) rfl) ?_
  obtain ⟨t8, ht8, h'⟩ := bE h; clear h
  refine sqa (a_call (lq rfl) rfl (law40_few_c ht8)) ?_
  refine sqa (a_not (lq rfl) rfl) ?_
  refine sq_nil ?_
  refine avc_if rfl ⟨fun c1 => ?_, fun c1 => ?_⟩
  · replace h' := cT c1 h'
    refine avc_sq2 ?_
    refine avc_sq ?_
    obtain ⟨t10, ht10, h⟩ := bE h'; clear h'
    refine sqa (a_call (lq rfl) rfl (law40_alive_c ht10)) ?_
    refine sqa (a_assign_d (lq rfl) rfl) ?_
    refine sq_nil ?_
    cases h
    refine avc_ret ?_
    exact ret_1 rfl
  · replace h' := cF c1 h'
    refine avc_skip ?_
    refine avc_sq2 ?_
    refine avc_sq ?_
    refine sqa (m_loadPt (lq rfl) G25 rfl rfl) ?_
    refine sqa (a_move_d (lq rfl) rfl) ?_
    obtain ⟨t13, ht13, h⟩ := bE h'; clear h'
    refine sqa (a_call (lq rfl) rfl (scripts_Resolved_c ht13)) ?_
    refine sqa (a_assign_d (lq rfl) rfl) ?_
    refine sq_nil ?_
    refine avc_sq2 ?_
    refine avc_sq ?_
    refine sqa (a_move_d (lq rfl) rfl) ?_
    refine sqa (m_loadPt (lq rfl) G25 rfl rfl) ?_
    refine sqa (a_move_d (lq rfl) rfl) ?_
    obtain ⟨t17, ht17, h'⟩ := bE h; clear h
    refine sqa (a_call (lq rfl) rfl (ref40_Resolved_c ht17)) ?_
    obtain ⟨t18, ht18, h⟩ := bE h'; clear h'
    refine sqa (a_call (lq rfl) rfl (ref30_SameRanges_c ht18)) ?_
    obtain ⟨b19, hb19, h'⟩ := bE h; clear h
    refine sqa ((a_move_d (lq rfl) rfl).bool (Option.some.inj hb19)) ?_
    refine sq_g (x := .d (dsl eRange t13)) rfl rfl rfl (lq rfl) (lq rfl) rfl (fun hb => by obtain rfl : b19 = true := hb; exact a_move_d (lq rfl) rfl) ?_
    refine sq_g (x := .d (di (t13.length : Int))) rfl rfl rfl (lq rfl) (lq rfl) rfl (fun hb => by obtain rfl : b19 = true := hb; exact m_len (en := eRange) (l := t13) (lq rfl) S32 rfl) ?_
    refine sq_g (x := .d (eProperty.dv a0)) rfl rfl rfl (lq rfl) (lq rfl) rfl (fun hb => by obtain rfl : b19 = true := hb; exact m_loadPt (lq rfl) G25 rfl rfl) ?_
    refine sq_g (x := .d (dsl eI a1)) rfl rfl rfl (lq rfl) (lq rfl) rfl (fun hb => by obtain rfl : b19 = true := hb; exact a_move_d (lq rfl) rfl) ?_
    obtain ⟨t24, ht24, h⟩ := bE h'; clear h'
    refine sq_g (x := .d (dsl eS t24)) rfl rfl rfl (lq rfl) (lq rfl) rfl (fun hb => by obtain rfl : b19 = true := hb; exact a_call (lq rfl) rfl (scripts_Of_c ht24)) ?_
    refine sq_g (x := .d (di (t24.length : Int))) rfl rfl rfl (lq rfl) (lq rfl) rfl (fun hb => by obtain rfl : b19 = true := hb; exact m_len (en := eS) (l := t24) (lq rfl) S22 rfl) ?_
    refine sq_g (x := .d (db (decide ((t13.length : Int) = (t24.length : Int))))) rfl rfl rfl (lq rfl) (lq rfl) rfl (fun hb => by obtain rfl : b19 = true := hb; exact a_eql (lq rfl) rfl rfl) ?_
    refine sqa (a_pick_and (lq rfl) rfl rfl) ?_
    obtain ⟨b28, hb28, h'⟩ := bE h; clear h
    refine sqa ((a_move_d (lq rfl) rfl).bool (Option.some.inj hb28)) ?_
    obtain ⟨t29, ht29, h⟩ := bE h'; clear h'
    refine sq_g (x := .d (db t29)) rfl rfl rfl (lq rfl) (lq rfl) rfl (fun hb => by obtain rfl : b28 = true := hb; exact a_call (lq rfl) rfl (law40_alive_c ht29)) ?_
    refine sqa (a_pick_and (lq rfl) rfl rfl) ?_
    refine sqa (a_assign_d (lq rfl) rfl) ?_
    refine sq_nil ?_
    cases h
    refine avc_ret ?_
    exact ret_1 rfl
end Go.Proofs.Ythcpioecmdfabaa.Walk

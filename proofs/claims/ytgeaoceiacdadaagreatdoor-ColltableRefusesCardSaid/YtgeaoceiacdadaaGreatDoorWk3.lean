/- Each function of the program answers as its plain counterpart does, where that answers. Conditions: none. -/
import Derived.Test.YtgeaoceiacdadaaGreatDoorMir
import Derived.Test.YtgeaoceiacdadaaGreatDoorProg
import Derived.Test.YtgeaoceiacdadaaGreatDoorWk2
set_option linter.unusedSimpArgs false
set_option linter.unusedVariables false
set_option linter.unnecessarySimpa false
namespace Go.Proofs.YtgeaoceiacdadaaGreatDoor.Walk
open Go.AV Go.M Go.RowKit Go.Proofs
set_option maxHeartbeats 8000000 in
theorem slices_swapRangeCmpFunc_int_g {fv4 : DV} {a0 : (List Int)} {a1 : Int} {a2 : Int} {a3 : Int} {a4 : Int → Int → Option (Int)} (hf4 : ∀ x0 x1 y, a4 x0 x1 = some y → FnC Tryz.prog fv4 [(di x0), (di x1)] [(di y)]) {r : (List Int)} (h : slices_swapRangeCmpFunc_int a0 a1 a2 a3 a4 = some r) : GC Tryz.prog 144 [.row 3000, .d (di a1), .d (di a2), .d (di a3), .d fv4] [(3000, .win 3 eI.size 0 (eI.all a0))] [3000] [] [(3000, .win 3 eI.size 0 (eI.all r))] := by
 refine gc_of Tryz.func144 (by kernel_rfl) rfl (lq rfl) (lq rfl) fun w0 I0 hG0 p0 => ?_
 unfold slices_swapRangeCmpFunc_int at h
 refine avc_sq2 <| avc_sq <| q1 ?_
 refine sq_nil <| avc_block ?_
 obtain ⟨y1, hy1, h'⟩ := bE h; clear h
 refine avc_tail (e := (.exit 0)) (S2 := ⟨[(0, .row 3000)], [(3000, .win 3 eI.size 0 (eI.all y1))]⟩) ?_ ?_
 ·
  refine avc_loopM (fun x => ⟨[(0, .row 3000), (1, .d (di a1)), (2, .d (di a2)), (3, .d (di a3)), (10, .d (di x.1))], [(3000, .win 3 eI.size 0 (eI.all x.2))]⟩) hy1 (wc) ?_
  rintro ⟨v10, r3000⟩ sy1 hsy1
  replace hsy1 : slices_swapRangeCmpFunc_int_L0 a3 a2 a1 v10 r3000 = some sy1 := hsy1
  unfold slices_swapRangeCmpFunc_int_L0 at hsy1
  refine avc_sq2 <| avc_sq2 <| avc_sq <| q0 ?_
  refine q0 ?_
  refine q3 ?_
  refine sq_nil ?_
  refine avc_if rfl ⟨fun c1 => ?_, fun c1 => ?_⟩
  ·
   replace hsy1 := cT c1 hsy1
   refine avc_skip <| avc_sq2 <| avc_block ?_
   obtain ⟨t28, ht28, hsy1'⟩ := bE hsy1; clear hsy1
   obtain ⟨t34, ht34, hsy1⟩ := bE hsy1'; clear hsy1'
   obtain ⟨t36, ht36, hsy1'⟩ := bE hsy1; clear hsy1
   obtain ⟨r3000_3x21, hr3000_3x21, hsy1⟩ := bE hsy1'; clear hsy1'
   obtain ⟨t37, ht37, hsy1'⟩ := bE hsy1; clear hsy1
   obtain ⟨r3000_3x23, hr3000_3x23, hsy1⟩ := bE hsy1'; clear hsy1'
   refine avc_tail (e := .normal) (S2 := ⟨[(0, .row 3000), (1, .d (di a1)), (2, .d (di a2)), (3, .d (di a3)), (10, .d (di v10))], [(3000, .win 3 eI.size 0 (eI.all r3000_3x23))]⟩) ?_ ?_
   ·
    refine avc_any MX ?_
    refine any_move (i := 0) rfl (lq rfl) rfl rfl rfl rfl ?_
    refine any_move (i := 1) rfl (lq rfl) rfl rfl rfl rfl ?_
    refine any_move (i := 2) rfl (lq rfl) rfl rfl rfl rfl ?_
    refine any_add (i := 3) rfl (lq rfl) rfl rfl rfl rfl rfl rfl ?_
    refine any_move (i := 4) rfl (lq rfl) rfl rfl rfl rfl ?_
    refine any_move (i := 5) rfl (lq rfl) rfl rfl rfl rfl ?_
    refine any_move (i := 6) rfl (lq rfl) rfl rfl rfl rfl ?_
    refine any_add (i := 7) rfl (lq rfl) rfl rfl rfl rfl rfl rfl ?_
    refine any_move (i := 8) rfl (lq rfl) rfl rfl rfl rfl ?_
    refine any_move (i := 9) rfl (lq rfl) rfl rfl rfl rfl ?_
    refine any_move (i := 10) rfl (lq rfl) rfl rfl rfl rfl ?_
    refine any_add (i := 11) rfl (lq rfl) rfl rfl rfl rfl rfl rfl ?_
    refine any_move (i := 14) rfl (lq rfl) rfl rfl rfl rfl ?_
    refine any_move (i := 15) rfl (lq rfl) rfl rfl rfl rfl ?_
    refine any_move (i := 16) rfl (lq rfl) rfl rfl rfl rfl ?_
    refine any_add (i := 17) rfl (lq rfl) rfl rfl rfl rfl rfl rfl ?_
    refine xn [12,18] ?_
    refine xa rfl (m_indexW (en := eI) (l := r3000) (lq rfl) S33 rfl rfl rfl ht28) ?_ ?_
    ·
     refine xn [13,18] ?_
     refine xa rfl (m_loadW (en := eI) (l := r3000) (i := (wi (a2 + v10))) (v := t28) (lq rfl) O3 rfl rfl ht28 rfl) ?_ ?_
     ·
      refine xn [18] ?_
      refine xc rfl (m_indexW (en := eI) (l := r3000) (lq rfl) S33 rfl rfl rfl ht34) ?_
      refine xn [19] ?_
      refine xc rfl (m_loadW (en := eI) (l := r3000) (i := (wi (a1 + v10))) (v := t34) (lq rfl) O3 rfl rfl ht34 rfl) ?_
      refine xn [20] ?_
      refine xc rfl (m_indexW (en := eI) (l := r3000) (lq rfl) S33 rfl rfl rfl ht36) ?_
      refine xn [21] ?_
      refine xd rfl (m_storeW (en := eI) (l := r3000) (i := (wi (a1 + v10))) (v := t28) O3 rfl rfl rfl ht36 hr3000_3x21 rfl rfl rfl rfl) ?_
      refine xn [22] ?_
      refine xc rfl (m_indexW (en := eI) (l := r3000_3x21) (lq rfl) S33 rfl rfl rfl ht37) ?_
      refine xn [23] ?_
      refine xd rfl (m_storeW (en := eI) (l := r3000_3x21) (i := (wi (a2 + v10))) (v := t34) O3 rfl rfl rfl ht37 hr3000_3x23 rfl rfl rfl rfl) ?_
      exact any_end rfl (out_mk (wc))
     refine xc rfl (m_indexW (en := eI) (l := r3000) (lq rfl) S33 rfl rfl rfl ht34) ?_
     refine xn [13,19] ?_
     refine xa rfl (m_loadW (en := eI) (l := r3000) (i := (wi (a2 + v10))) (v := t28) (lq rfl) O3 rfl rfl ht28 rfl) ?_ ?_
     ·
      refine xn [19] ?_
      refine xc rfl (m_loadW (en := eI) (l := r3000) (i := (wi (a1 + v10))) (v := t34) (lq rfl) O3 rfl rfl ht34 rfl) ?_
      refine xn [20] ?_
      refine xc rfl (m_indexW (en := eI) (l := r3000) (lq rfl) S33 rfl rfl rfl ht36) ?_
      refine xn [21] ?_
      refine xd rfl (m_storeW (en := eI) (l := r3000) (i := (wi (a1 + v10))) (v := t28) O3 rfl rfl rfl ht36 hr3000_3x21 rfl rfl rfl rfl) ?_
      refine xn [22] ?_
      refine xc rfl (m_indexW (en := eI) (l := r3000_3x21) (lq rfl) S33 rfl rfl rfl ht37) ?_
      refine xn [23] ?_
      refine xd rfl (m_storeW (en := eI) (l := r3000_3x21) (i := (wi (a2 + v10))) (v := t34) O3 rfl rfl rfl ht37 hr3000_3x23 rfl rfl rfl rfl) ?_
      exact any_end rfl (out_mk (wc))
     refine xc rfl (m_loadW (en := eI) (l := r3000) (i := (wi (a1 + v10))) (v := t34) (lq rfl) O3 rfl rfl ht34 rfl) ?_
     refine xn [13] ?_
     refine xc rfl (m_loadW (en := eI) (l := r3000) (i := (wi (a2 + v10))) (v := t28) (lq rfl) O3 rfl rfl ht28 rfl) ?_
     refine xn [20] ?_
     refine xc rfl (m_indexW (en := eI) (l := r3000) (lq rfl) S33 rfl rfl rfl ht36) ?_
     refine xn [21] ?_
     refine xd rfl (m_storeW (en := eI) (l := r3000) (i := (wi (a1 + v10))) (v := t28) O3 rfl rfl rfl ht36 hr3000_3x21 rfl rfl rfl rfl) ?_
     refine xn [22] ?_
     refine xc rfl (m_indexW (en := eI) (l := r3000_3x21) (lq rfl) S33 rfl rfl rfl ht37) ?_
     refine xn [23] ?_
     refine xd rfl (m_storeW (en := eI) (l := r3000_3x21) (i := (wi (a2 + v10))) (v := t34) O3 rfl rfl rfl ht37 hr3000_3x23 rfl rfl rfl rfl) ?_
     exact any_end rfl (out_mk (wc))
    refine xc rfl (m_indexW (en := eI) (l := r3000) (lq rfl) S33 rfl rfl rfl ht34) ?_
    refine xn [12,19] ?_
    refine xa rfl (m_indexW (en := eI) (l := r3000) (lq rfl) S33 rfl rfl rfl ht28) ?_ ?_
    ·
     refine xn [13,19] ?_
     refine xa rfl (m_loadW (en := eI) (l := r3000) (i := (wi (a2 + v10))) (v := t28) (lq rfl) O3 rfl rfl ht28 rfl) ?_ ?_
     ·
      refine xn [19] ?_
      refine xc rfl (m_loadW (en := eI) (l := r3000) (i := (wi (a1 + v10))) (v := t34) (lq rfl) O3 rfl rfl ht34 rfl) ?_
      refine xn [20] ?_
      refine xc rfl (m_indexW (en := eI) (l := r3000) (lq rfl) S33 rfl rfl rfl ht36) ?_
      refine xn [21] ?_
      refine xd rfl (m_storeW (en := eI) (l := r3000) (i := (wi (a1 + v10))) (v := t28) O3 rfl rfl rfl ht36 hr3000_3x21 rfl rfl rfl rfl) ?_
      refine xn [22] ?_
      refine xc rfl (m_indexW (en := eI) (l := r3000_3x21) (lq rfl) S33 rfl rfl rfl ht37) ?_
      refine xn [23] ?_
      refine xd rfl (m_storeW (en := eI) (l := r3000_3x21) (i := (wi (a2 + v10))) (v := t34) O3 rfl rfl rfl ht37 hr3000_3x23 rfl rfl rfl rfl) ?_
      exact any_end rfl (out_mk (wc))
     refine xc rfl (m_loadW (en := eI) (l := r3000) (i := (wi (a1 + v10))) (v := t34) (lq rfl) O3 rfl rfl ht34 rfl) ?_
     refine xn [13] ?_
     refine xc rfl (m_loadW (en := eI) (l := r3000) (i := (wi (a2 + v10))) (v := t28) (lq rfl) O3 rfl rfl ht28 rfl) ?_
     refine xn [20] ?_
     refine xc rfl (m_indexW (en := eI) (l := r3000) (lq rfl) S33 rfl rfl rfl ht36) ?_
     refine xn [21] ?_
     refine xd rfl (m_storeW (en := eI) (l := r3000) (i := (wi (a1 + v10))) (v := t28) O3 rfl rfl rfl ht36 hr3000_3x21 rfl rfl rfl rfl) ?_
     refine xn [22] ?_
     refine xc rfl (m_indexW (en := eI) (l := r3000_3x21) (lq rfl) S33 rfl rfl rfl ht37) ?_
     refine xn [23] ?_
     refine xd rfl (m_storeW (en := eI) (l := r3000_3x21) (i := (wi (a2 + v10))) (v := t34) O3 rfl rfl rfl ht37 hr3000_3x23 rfl rfl rfl rfl) ?_
     exact any_end rfl (out_mk (wc))
    refine xc rfl (m_loadW (en := eI) (l := r3000) (i := (wi (a1 + v10))) (v := t34) (lq rfl) O3 rfl rfl ht34 rfl) ?_
    refine xn [12] ?_
    refine xc rfl (m_indexW (en := eI) (l := r3000) (lq rfl) S33 rfl rfl rfl ht28) ?_
    refine xn [13] ?_
    refine xc rfl (m_loadW (en := eI) (l := r3000) (i := (wi (a2 + v10))) (v := t28) (lq rfl) O3 rfl rfl ht28 rfl) ?_
    refine xn [20] ?_
    refine xc rfl (m_indexW (en := eI) (l := r3000) (lq rfl) S33 rfl rfl rfl ht36) ?_
    refine xn [21] ?_
    refine xd rfl (m_storeW (en := eI) (l := r3000) (i := (wi (a1 + v10))) (v := t28) O3 rfl rfl rfl ht36 hr3000_3x21 rfl rfl rfl rfl) ?_
    refine xn [22] ?_
    refine xc rfl (m_indexW (en := eI) (l := r3000_3x21) (lq rfl) S33 rfl rfl rfl ht37) ?_
    refine xn [23] ?_
    refine xd rfl (m_storeW (en := eI) (l := r3000_3x21) (i := (wi (a2 + v10))) (v := t34) O3 rfl rfl rfl ht37 hr3000_3x23 rfl rfl rfl rfl) ?_
    exact any_end rfl (out_mk (wc))
   refine avc_sq <| q0 ?_
   refine q2 ?_
   refine q1 ?_
   refine sq_nil ?_
   cases hsy1
   exact wc
  ·
   replace hsy1 := cF c1 hsy1
   refine avc_exit ?_
   cases hsy1
   intro q; cases q
   exact out_mk (wc)
 ·
  cases h'
  exact ⟨rfl, ⟨rfl, trivial⟩⟩
theorem slices_rotateCmpFunc_int_g {fv4 : DV} {a0 : (List Int)} {a1 : Int} {a2 : Int} {a3 : Int} {a4 : Int → Int → Option (Int)} (hf4 : ∀ x0 x1 y, a4 x0 x1 = some y → FnC Tryz.prog fv4 [(di x0), (di x1)] [(di y)]) {r : (List Int)} (h : slices_rotateCmpFunc_int a0 a1 a2 a3 a4 = some r) : GC Tryz.prog 133 [.row 3000, .d (di a1), .d (di a2), .d (di a3), .d fv4] [(3000, .win 3 eI.size 0 (eI.all a0))] [3000] [] [(3000, .win 3 eI.size 0 (eI.all r))] := by
 refine gc_of Tryz.func133 (by kernel_rfl) rfl (lq rfl) (lq rfl) fun w0 I0 hG0 p0 => ?_
 unfold slices_rotateCmpFunc_int at h
 refine avc_sq2 <| avc_sq <| q0 ?_
 refine q0 ?_
 refine q17 ?_
 refine q1 ?_
 refine sq_nil <| avc_sq2 <| avc_sq <| q0 ?_
 refine q0 ?_
 refine q17 ?_
 refine q1 ?_
 refine sq_nil <| avc_sq2 <| avc_block ?_
 obtain ⟨y1, hy1, h'⟩ := bE h; clear h
 refine avc_tail (e := (.exit 0)) (S2 := ⟨[(0, .row 3000), (2, .d (di a2)), (4, .d fv4), (10, .d (di y1.1))], [(3000, .win 3 eI.size 0 (eI.all y1.2))]⟩) ?_ ?_
 ·
  refine avc_loopM (fun x => ⟨[(0, .row 3000), (2, .d (di a2)), (4, .d fv4), (10, .d (di x.1)), (11, .d (di x.2.1))], [(3000, .win 3 eI.size 0 (eI.all x.2.2))]⟩) hy1 (wc) ?_
  rintro ⟨v10, v11, r3000⟩ sy1 hsy1
  replace hsy1 : slices_rotateCmpFunc_int_L0 a2 a4 v10 v11 r3000 = some sy1 := hsy1
  unfold slices_rotateCmpFunc_int_L0 at hsy1
  refine avc_sq2 <| avc_sq2 <| avc_sq <| q0 ?_
  refine q0 ?_
  refine q19 ?_
  refine sq_nil ?_
  refine avc_if rfl ⟨fun c1 => ?_, fun c1 => ?_⟩
  ·
   replace hsy1 := cT c1 hsy1
   refine avc_skip ?_
   obtain ⟨y2, hy2, hsy1'⟩ := bE hsy1; clear hsy1
   refine avc_tail (e := .normal) (S2 := ⟨[(0, .row 3000), (2, .d (di a2)), (4, .d fv4), (10, .d (di y2.1)), (11, .d (di y2.2.1))], [(3000, .win 3 eI.size 0 (eI.all y2.2.2))]⟩) ?_ ?_
   ·
    refine avc_block <| avc_sq2 <| avc_sq <| q0 ?_
    refine q0 ?_
    refine q25 ?_
    refine sq_nil ?_
    refine avc_if rfl ⟨fun c2 => ?_, fun c2 => ?_⟩
    ·
     replace hy2 := cT c2 hy2
     refine avc_sq2 <| avc_sq <| q7 ?_
     refine q0 ?_
     refine q0 ?_
     refine q17 ?_
     refine q0 ?_
     refine q0 ?_
     refine q0 ?_
     obtain ⟨t31, ht31, hy2'⟩ := bE hy2; clear hy2
     refine sq_b rfl (g_callN [(3000, 3000)] (slices_swapRangeCmpFunc_int_g hf4 ht31) (lq rfl) (by decide) ⟨rfl, rfl, rfl, rfl, rfl, trivial⟩ rfl rfl ⟨rfl, trivial⟩ rfl rfl rfl rfl) ?_
     refine sq_nil <| avc_sq <| q0 ?_
     refine q0 ?_
     refine q17 ?_
     refine q1 ?_
     refine sq_nil ?_
     cases hy2'
     exact out_mk (wc)
    ·
     replace hy2 := cF c2 hy2
     refine avc_sq2 <| avc_sq <| q7 ?_
     refine q0 ?_
     refine q0 ?_
     refine q17 ?_
     refine q0 ?_
     refine q0 ?_
     refine q2 ?_
     refine q0 ?_
     refine q17 ?_
     refine q0 ?_
     refine q0 ?_
     obtain ⟨t46, ht46, hy2'⟩ := bE hy2; clear hy2
     refine sq_b rfl (g_callN [(3000, 3000)] (slices_swapRangeCmpFunc_int_g hf4 ht46) (lq rfl) (by decide) ⟨rfl, rfl, rfl, rfl, rfl, trivial⟩ rfl rfl ⟨rfl, trivial⟩ rfl rfl rfl rfl) ?_
     refine sq_nil <| avc_sq <| q0 ?_
     refine q0 ?_
     refine q17 ?_
     refine q1 ?_
     refine sq_nil ?_
     cases hy2'
     exact out_mk (wc)
   ·
    cases hsy1'
    exact wc
  ·
   replace hsy1 := cF c1 hsy1
   refine avc_exit ?_
   cases hsy1
   intro q; cases q
   exact out_mk (wc)
 ·
  refine avc_sq <| q7 ?_
  refine q0 ?_
  refine q0 ?_
  refine q17 ?_
  refine q0 ?_
  refine q0 ?_
  refine q0 ?_
  obtain ⟨t57, ht57, h⟩ := bE h'; clear h'
  refine sq_b rfl (g_callN [(3000, 3000)] (slices_swapRangeCmpFunc_int_g hf4 ht57) (lq rfl) (by decide) ⟨rfl, rfl, rfl, rfl, rfl, trivial⟩ rfl rfl ⟨rfl, trivial⟩ rfl rfl rfl rfl) ?_
  refine sq_nil ?_
  cases h
  exact ⟨rfl, ⟨rfl, trivial⟩⟩
set_option maxHeartbeats 8000000 in
theorem slices_symMergeCmpFunc_int_g : ∀ (n : Nat) {fv4 : DV} {a0 : (List Int)} {a1 : Int} {a2 : Int} {a3 : Int} {a4 : Int → Int → Option (Int)} (hf4 : ∀ x0 x1 y, a4 x0 x1 = some y → FnC Tryz.prog fv4 [(di x0), (di x1)] [(di y)]) {r : (List Int)} (h : slices_symMergeCmpFunc_int n a0 a1 a2 a3 a4 = some r), GC Tryz.prog 128 [.row 3000, .d (di a1), .d (di a2), .d (di a3), .d fv4] [(3000, .win 3 eI.size 0 (eI.all a0))] [3000] [] [(3000, .win 3 eI.size 0 (eI.all r))] := by
 intro n
 induction n with
 | zero => intro fv4 a0 a1 a2 a3 a4 hf4 r h; cases h
 | succ n ih =>
 intro fv4 a0 a1 a2 a3 a4 hf4 r h
 replace h : slices_symMergeCmpFunc_int_B (slices_symMergeCmpFunc_int n) a0 a1 a2 a3 a4 = some r := h
 generalize slices_symMergeCmpFunc_int n = rec at h ih
 refine gc_of Tryz.func128 (by kernel_rfl) rfl (lq rfl) (lq rfl) fun w0 I0 hG0 p0 => ?_
 unfold slices_symMergeCmpFunc_int_B at h
 refine avc_sq2 <| avc_sq2 <| avc_sq <| q0 ?_
 refine q0 ?_
 refine q17 ?_
 refine q26 ?_
 refine sq_nil ?_
 refine avc_if rfl ⟨fun c1 => ?_, fun c1 => ?_⟩
 ·
  replace h := cT c1 h
  refine avc_sq2 <| avc_sq <| q0 ?_
  refine q1 ?_
  refine sq_nil <| avc_sq2 <| avc_sq <| q0 ?_
  refine q1 ?_
  refine sq_nil <| avc_sq2 <| avc_block ?_
  obtain ⟨y1, hy1, h'⟩ := bE h; clear h
  refine avc_tail (e := (.exit 0)) (S2 := ⟨[(0, .row 3000), (1, .d (di a1)), (10, .d (di y1))], [(3000, .win 3 eI.size 0 (eI.all a0))]⟩) ?_ ?_
  ·
   refine avc_loopM (fun x => ⟨[(0, .row 3000), (1, .d (di a1)), (4, .d fv4), (10, .d (di x.1)), (11, .d (di x.2))], [(3000, .win 3 eI.size 0 (eI.all a0))]⟩) hy1 (wc) ?_
   rintro ⟨v10, v11⟩ sy1 hsy1
   replace hsy1 : slices_symMergeCmpFunc_int_L0 a0 a1 a4 v10 v11 = some sy1 := hsy1
   unfold slices_symMergeCmpFunc_int_L0 at hsy1
   refine avc_sq2 <| avc_sq2 <| avc_sq <| q0 ?_
   refine q0 ?_
   refine q3 ?_
   refine sq_nil ?_
   refine avc_if rfl ⟨fun c2 => ?_, fun c2 => ?_⟩
   ·
    replace hsy1 := cT c2 hsy1
    refine avc_skip ?_
    obtain ⟨y2, hy2, hsy1'⟩ := bE hsy1; clear hsy1
    refine avc_tail (e := .normal) (S2 := ⟨[(0, .row 3000), (1, .d (di a1)), (4, .d fv4), (10, .d (di y2.1)), (11, .d (di y2.2))], [(3000, .win 3 eI.size 0 (eI.all a0))]⟩) ?_ ?_
    ·
     refine avc_block <| avc_sq2 <| avc_sq <| q0 ?_
     refine q0 ?_
     refine q2 ?_
     refine q29 Tryz.underlying3 Tryz.underlying141 ?_
     refine sqa (a_shr (m := 1) (lq rfl) rfl rfl (by decide)) ?_
     refine q29 Tryz.underlying141 Tryz.underlying3 ?_
     refine q1 ?_
     refine sq_nil <| avc_sq2 ?_
     refine avc_drawA MX rfl ?_
     refine q4 ?_
     refine q34 ?_
     refine q4 ?_
     obtain ⟨t43, ht43, hy2'⟩ := bE hy2; clear hy2
     refine daa (m_indexW (en := eI) (l := a0) (lq rfl) S33 rfl rfl rfl ht43) ?_
     refine daa (m_loadW (en := eI) (l := a0) (i := (wi ((wu (wi (v10 + v11))) / 2 ^ 1))) (v := t43) (lq rfl) O3 rfl rfl ht43 rfl) ?_
     refine q34 ?_
     refine q4 ?_
     obtain ⟨t47, ht47, hy2⟩ := bE hy2'; clear hy2'
     refine daa (m_indexW (en := eI) (l := a0) (lq rfl) S33 rfl rfl rfl ht47) ?_
     refine daa (m_loadW (en := eI) (l := a0) (i := a1) (v := t47) (lq rfl) O3 rfl rfl ht47 rfl) ?_
     obtain ⟨t49, ht49, hy2'⟩ := bE hy2; clear hy2
     refine daa (a_callF (lq rfl) rfl rfl (hf4 _ _ _ ht49)) ?_
     refine q46 ?_
     refine da_nil ?_
     refine avc_if rfl ⟨fun c3 => ?_, fun c3 => ?_⟩
     ·
      replace hy2' := cT c3 hy2'
      refine avc_sq <| q0 ?_
      refine q2 ?_
      refine q1 ?_
      refine sq_nil ?_
      cases hy2'
      exact out_mk (wc)
     ·
      replace hy2' := cF c3 hy2'
      refine avc_sq <| q0 ?_
      refine q1 ?_
      refine sq_nil ?_
      cases hy2'
      exact out_mk (wc)
    ·
     cases hsy1'
     exact wc
   ·
    replace hsy1 := cF c2 hsy1
    refine avc_exit ?_
    cases hsy1
    intro q; cases q
    exact out_mk (wc)
  ·
   refine avc_sq2 <| avc_sq2 <| avc_sq <| q0 ?_
   refine q1 ?_
   refine sq_nil <| avc_block ?_
   obtain ⟨y3, hy3, h⟩ := bE h'; clear h'
   refine avc_tail (e := (.exit 2)) (S2 := ⟨[(0, .row 3000)], [(3000, .win 3 eI.size 0 (eI.all y3))]⟩) ?_ ?_
   ·
    refine avc_loopM (fun x => ⟨[(0, .row 3000), (10, .d (di y1)), (13, .d (di x.1))], [(3000, .win 3 eI.size 0 (eI.all x.2))]⟩) hy3 (wc) ?_
    rintro ⟨v13, r3000⟩ sy3 hsy3
    replace hsy3 : slices_symMergeCmpFunc_int_L1 y1 v13 r3000 = some sy3 := hsy3
    unfold slices_symMergeCmpFunc_int_L1 at hsy3
    refine avc_sq2 <| avc_sq2 <| avc_sq <| q0 ?_
    refine q0 ?_
    refine q17 ?_
    refine q3 ?_
    refine sq_nil ?_
    refine avc_if rfl ⟨fun c4 => ?_, fun c4 => ?_⟩
    ·
     replace hsy3 := cT c4 hsy3
     refine avc_skip <| avc_sq2 <| avc_block ?_
     obtain ⟨t69, ht69, hsy3'⟩ := bE hsy3; clear hsy3
     obtain ⟨t73, ht73, hsy3⟩ := bE hsy3'; clear hsy3'
     obtain ⟨t75, ht75, hsy3'⟩ := bE hsy3; clear hsy3
     obtain ⟨r3000_11x15, hr3000_11x15, hsy3⟩ := bE hsy3'; clear hsy3'
     obtain ⟨t76, ht76, hsy3'⟩ := bE hsy3; clear hsy3
     obtain ⟨r3000_11x17, hr3000_11x17, hsy3⟩ := bE hsy3'; clear hsy3'
     refine avc_tail (e := .normal) (S2 := ⟨[(0, .row 3000), (10, .d (di y1)), (13, .d (di v13))], [(3000, .win 3 eI.size 0 (eI.all r3000_11x17))]⟩) ?_ ?_
     ·
      refine avc_any MX ?_
      refine any_move (i := 0) rfl (lq rfl) rfl rfl rfl rfl ?_
      refine any_move (i := 1) rfl (lq rfl) rfl rfl rfl rfl ?_
      refine any_move (i := 2) rfl (lq rfl) rfl rfl rfl rfl ?_
      refine any_move (i := 3) rfl (lq rfl) rfl rfl rfl rfl ?_
      refine any_add (i := 4) rfl (lq rfl) rfl rfl rfl rfl rfl rfl ?_
      refine any_move (i := 5) rfl (lq rfl) rfl rfl rfl rfl ?_
      refine any_move (i := 6) rfl (lq rfl) rfl rfl rfl rfl ?_
      refine any_add (i := 7) rfl (lq rfl) rfl rfl rfl rfl rfl rfl ?_
      refine any_move (i := 10) rfl (lq rfl) rfl rfl rfl rfl ?_
      refine any_move (i := 11) rfl (lq rfl) rfl rfl rfl rfl ?_
      refine xn [8,12] ?_
      refine xa rfl (m_indexW (en := eI) (l := r3000) (lq rfl) S33 rfl rfl rfl ht69) ?_ ?_
      ·
       refine xn [9,12] ?_
       refine xa rfl (m_loadW (en := eI) (l := r3000) (i := (wi (v13 + 1))) (v := t69) (lq rfl) O3 rfl rfl ht69 rfl) ?_ ?_
       ·
        refine xn [12] ?_
        refine xc rfl (m_indexW (en := eI) (l := r3000) (lq rfl) S33 rfl rfl rfl ht73) ?_
        refine xn [13] ?_
        refine xc rfl (m_loadW (en := eI) (l := r3000) (i := v13) (v := t73) (lq rfl) O3 rfl rfl ht73 rfl) ?_
        refine xn [14] ?_
        refine xc rfl (m_indexW (en := eI) (l := r3000) (lq rfl) S33 rfl rfl rfl ht75) ?_
        refine xn [15] ?_
        refine xd rfl (m_storeW (en := eI) (l := r3000) (i := v13) (v := t69) O3 rfl rfl rfl ht75 hr3000_11x15 rfl rfl rfl rfl) ?_
        refine xn [16] ?_
        refine xc rfl (m_indexW (en := eI) (l := r3000_11x15) (lq rfl) S33 rfl rfl rfl ht76) ?_
        refine xn [17] ?_
        refine xd rfl (m_storeW (en := eI) (l := r3000_11x15) (i := (wi (v13 + 1))) (v := t73) O3 rfl rfl rfl ht76 hr3000_11x17 rfl rfl rfl rfl) ?_
        exact any_end rfl (out_mk (wc))
       refine xc rfl (m_indexW (en := eI) (l := r3000) (lq rfl) S33 rfl rfl rfl ht73) ?_
       refine xn [9,13] ?_
       refine xa rfl (m_loadW (en := eI) (l := r3000) (i := (wi (v13 + 1))) (v := t69) (lq rfl) O3 rfl rfl ht69 rfl) ?_ ?_
       ·
        refine xn [13] ?_
        refine xc rfl (m_loadW (en := eI) (l := r3000) (i := v13) (v := t73) (lq rfl) O3 rfl rfl ht73 rfl) ?_
        refine xn [14] ?_
        refine xc rfl (m_indexW (en := eI) (l := r3000) (lq rfl) S33 rfl rfl rfl ht75) ?_
        refine xn [15] ?_
        refine xd rfl (m_storeW (en := eI) (l := r3000) (i := v13) (v := t69) O3 rfl rfl rfl ht75 hr3000_11x15 rfl rfl rfl rfl) ?_
        refine xn [16] ?_
        refine xc rfl (m_indexW (en := eI) (l := r3000_11x15) (lq rfl) S33 rfl rfl rfl ht76) ?_
        refine xn [17] ?_
        refine xd rfl (m_storeW (en := eI) (l := r3000_11x15) (i := (wi (v13 + 1))) (v := t73) O3 rfl rfl rfl ht76 hr3000_11x17 rfl rfl rfl rfl) ?_
        exact any_end rfl (out_mk (wc))
       refine xc rfl (m_loadW (en := eI) (l := r3000) (i := v13) (v := t73) (lq rfl) O3 rfl rfl ht73 rfl) ?_
       refine xn [9] ?_
       refine xc rfl (m_loadW (en := eI) (l := r3000) (i := (wi (v13 + 1))) (v := t69) (lq rfl) O3 rfl rfl ht69 rfl) ?_
       refine xn [14] ?_
       refine xc rfl (m_indexW (en := eI) (l := r3000) (lq rfl) S33 rfl rfl rfl ht75) ?_
       refine xn [15] ?_
       refine xd rfl (m_storeW (en := eI) (l := r3000) (i := v13) (v := t69) O3 rfl rfl rfl ht75 hr3000_11x15 rfl rfl rfl rfl) ?_
       refine xn [16] ?_
       refine xc rfl (m_indexW (en := eI) (l := r3000_11x15) (lq rfl) S33 rfl rfl rfl ht76) ?_
       refine xn [17] ?_
       refine xd rfl (m_storeW (en := eI) (l := r3000_11x15) (i := (wi (v13 + 1))) (v := t73) O3 rfl rfl rfl ht76 hr3000_11x17 rfl rfl rfl rfl) ?_
       exact any_end rfl (out_mk (wc))
      refine xc rfl (m_indexW (en := eI) (l := r3000) (lq rfl) S33 rfl rfl rfl ht73) ?_
      refine xn [8,13] ?_
      refine xa rfl (m_indexW (en := eI) (l := r3000) (lq rfl) S33 rfl rfl rfl ht69) ?_ ?_
      ·
       refine xn [9,13] ?_
       refine xa rfl (m_loadW (en := eI) (l := r3000) (i := (wi (v13 + 1))) (v := t69) (lq rfl) O3 rfl rfl ht69 rfl) ?_ ?_
       ·
        refine xn [13] ?_
        refine xc rfl (m_loadW (en := eI) (l := r3000) (i := v13) (v := t73) (lq rfl) O3 rfl rfl ht73 rfl) ?_
        refine xn [14] ?_
        refine xc rfl (m_indexW (en := eI) (l := r3000) (lq rfl) S33 rfl rfl rfl ht75) ?_
        refine xn [15] ?_
        refine xd rfl (m_storeW (en := eI) (l := r3000) (i := v13) (v := t69) O3 rfl rfl rfl ht75 hr3000_11x15 rfl rfl rfl rfl) ?_
        refine xn [16] ?_
        refine xc rfl (m_indexW (en := eI) (l := r3000_11x15) (lq rfl) S33 rfl rfl rfl ht76) ?_
        refine xn [17] ?_
        refine xd rfl (m_storeW (en := eI) (l := r3000_11x15) (i := (wi (v13 + 1))) (v := t73) O3 rfl rfl rfl ht76 hr3000_11x17 rfl rfl rfl rfl) ?_
        exact any_end rfl (out_mk (wc))
       refine xc rfl (m_loadW (en := eI) (l := r3000) (i := v13) (v := t73) (lq rfl) O3 rfl rfl ht73 rfl) ?_
       refine xn [9] ?_
       refine xc rfl (m_loadW (en := eI) (l := r3000) (i := (wi (v13 + 1))) (v := t69) (lq rfl) O3 rfl rfl ht69 rfl) ?_
       refine xn [14] ?_
       refine xc rfl (m_indexW (en := eI) (l := r3000) (lq rfl) S33 rfl rfl rfl ht75) ?_
       refine xn [15] ?_
       refine xd rfl (m_storeW (en := eI) (l := r3000) (i := v13) (v := t69) O3 rfl rfl rfl ht75 hr3000_11x15 rfl rfl rfl rfl) ?_
       refine xn [16] ?_
       refine xc rfl (m_indexW (en := eI) (l := r3000_11x15) (lq rfl) S33 rfl rfl rfl ht76) ?_
       refine xn [17] ?_
       refine xd rfl (m_storeW (en := eI) (l := r3000_11x15) (i := (wi (v13 + 1))) (v := t73) O3 rfl rfl rfl ht76 hr3000_11x17 rfl rfl rfl rfl) ?_
       exact any_end rfl (out_mk (wc))
      refine xc rfl (m_loadW (en := eI) (l := r3000) (i := v13) (v := t73) (lq rfl) O3 rfl rfl ht73 rfl) ?_
      refine xn [8] ?_
      refine xc rfl (m_indexW (en := eI) (l := r3000) (lq rfl) S33 rfl rfl rfl ht69) ?_
      refine xn [9] ?_
      refine xc rfl (m_loadW (en := eI) (l := r3000) (i := (wi (v13 + 1))) (v := t69) (lq rfl) O3 rfl rfl ht69 rfl) ?_
      refine xn [14] ?_
      refine xc rfl (m_indexW (en := eI) (l := r3000) (lq rfl) S33 rfl rfl rfl ht75) ?_
      refine xn [15] ?_
      refine xd rfl (m_storeW (en := eI) (l := r3000) (i := v13) (v := t69) O3 rfl rfl rfl ht75 hr3000_11x15 rfl rfl rfl rfl) ?_
      refine xn [16] ?_
      refine xc rfl (m_indexW (en := eI) (l := r3000_11x15) (lq rfl) S33 rfl rfl rfl ht76) ?_
      refine xn [17] ?_
      refine xd rfl (m_storeW (en := eI) (l := r3000_11x15) (i := (wi (v13 + 1))) (v := t73) O3 rfl rfl rfl ht76 hr3000_11x17 rfl rfl rfl rfl) ?_
      exact any_end rfl (out_mk (wc))
     refine avc_sq <| q0 ?_
     refine q2 ?_
     refine q1 ?_
     refine sq_nil ?_
     cases hsy3
     exact wc
    ·
     replace hsy3 := cF c4 hsy3
     refine avc_exit ?_
     cases hsy3
     intro q; cases q
     exact out_mk (wc)
   ·
    cases h
    refine avc_ret ?_
    exact ⟨rfl, ⟨rfl, trivial⟩⟩
 ·
  replace h := cF c1 h
  refine avc_skip <| avc_sq2 <| avc_sq2 <| avc_sq <| q0 ?_
  refine q0 ?_
  refine q17 ?_
  refine q26 ?_
  refine sq_nil ?_
  refine avc_if rfl ⟨fun c5 => ?_, fun c5 => ?_⟩
  ·
   replace h := cT c5 h
   refine avc_sq2 <| avc_sq <| q0 ?_
   refine q1 ?_
   refine sq_nil <| avc_sq2 <| avc_sq <| q0 ?_
   refine q1 ?_
   refine sq_nil <| avc_sq2 <| avc_block ?_
   obtain ⟨y4, hy4, h'⟩ := bE h; clear h
   refine avc_tail (e := (.exit 4)) (S2 := ⟨[(0, .row 3000), (2, .d (di a2)), (14, .d (di y4))], [(3000, .win 3 eI.size 0 (eI.all a0))]⟩) ?_ ?_
   ·
    refine avc_loopM (fun x => ⟨[(0, .row 3000), (2, .d (di a2)), (4, .d fv4), (14, .d (di x.1)), (15, .d (di x.2))], [(3000, .win 3 eI.size 0 (eI.all a0))]⟩) hy4 (wc) ?_
    rintro ⟨v14, v15⟩ sy4 hsy4
    replace hsy4 : slices_symMergeCmpFunc_int_L2 a0 a2 a4 v14 v15 = some sy4 := hsy4
    unfold slices_symMergeCmpFunc_int_L2 at hsy4
    refine avc_sq2 <| avc_sq2 <| avc_sq <| q0 ?_
    refine q0 ?_
    refine q3 ?_
    refine sq_nil ?_
    refine avc_if rfl ⟨fun c6 => ?_, fun c6 => ?_⟩
    ·
     replace hsy4 := cT c6 hsy4
     refine avc_skip ?_
     obtain ⟨y5, hy5, hsy4'⟩ := bE hsy4; clear hsy4
     refine avc_tail (e := .normal) (S2 := ⟨[(0, .row 3000), (2, .d (di a2)), (4, .d fv4), (14, .d (di y5.1)), (15, .d (di y5.2))], [(3000, .win 3 eI.size 0 (eI.all a0))]⟩) ?_ ?_
     ·
      refine avc_block <| avc_sq2 <| avc_sq <| q0 ?_
      refine q0 ?_
      refine q2 ?_
      refine q29 Tryz.underlying3 Tryz.underlying141 ?_
      refine sqa (a_shr (m := 1) (lq rfl) rfl rfl (by decide)) ?_
      refine q29 Tryz.underlying141 Tryz.underlying3 ?_
      refine q1 ?_
      refine sq_nil <| avc_sq2 ?_
      refine avc_drawA MX rfl ?_
      refine q4 ?_
      refine q34 ?_
      refine q4 ?_
      obtain ⟨t95, ht95, hy5'⟩ := bE hy5; clear hy5
      refine daa (m_indexW (en := eI) (l := a0) (lq rfl) S33 rfl rfl rfl ht95) ?_
      refine daa (m_loadW (en := eI) (l := a0) (i := a2) (v := t95) (lq rfl) O3 rfl rfl ht95 rfl) ?_
      refine q34 ?_
      refine q4 ?_
      obtain ⟨t99, ht99, hy5⟩ := bE hy5'; clear hy5'
      refine daa (m_indexW (en := eI) (l := a0) (lq rfl) S33 rfl rfl rfl ht99) ?_
      refine daa (m_loadW (en := eI) (l := a0) (i := (wi ((wu (wi (v14 + v15))) / 2 ^ 1))) (v := t99) (lq rfl) O3 rfl rfl ht99 rfl) ?_
      obtain ⟨t101, ht101, hy5'⟩ := bE hy5; clear hy5
      refine daa (a_callF (lq rfl) rfl rfl (hf4 _ _ _ ht101)) ?_
      refine q46 ?_
      refine q55 ?_
      refine da_nil ?_
      refine avc_if rfl ⟨fun c7 => ?_, fun c7 => ?_⟩
      ·
       replace hy5' := cT c7 hy5'
       refine avc_sq <| q0 ?_
       refine q2 ?_
       refine q1 ?_
       refine sq_nil ?_
       cases hy5'
       exact out_mk (wc)
      ·
       replace hy5' := cF c7 hy5'
       refine avc_sq <| q0 ?_
       refine q1 ?_
       refine sq_nil ?_
       cases hy5'
       exact out_mk (wc)
     ·
      cases hsy4'
      exact wc
    ·
     replace hsy4 := cF c6 hsy4
     refine avc_exit ?_
     cases hsy4
     intro q; cases q
     exact out_mk (wc)
   ·
    refine avc_sq2 <| avc_sq2 <| avc_sq <| q0 ?_
    refine q1 ?_
    refine sq_nil <| avc_block ?_
    obtain ⟨y6, hy6, h⟩ := bE h'; clear h'
    refine avc_tail (e := (.exit 6)) (S2 := ⟨[(0, .row 3000)], [(3000, .win 3 eI.size 0 (eI.all y6))]⟩) ?_ ?_
    ·
     refine avc_loopM (fun x => ⟨[(0, .row 3000), (14, .d (di y4)), (17, .d (di x.1))], [(3000, .win 3 eI.size 0 (eI.all x.2))]⟩) hy6 (wc) ?_
     rintro ⟨v17, r3000⟩ sy6 hsy6
     replace hsy6 : slices_symMergeCmpFunc_int_L3 y4 v17 r3000 = some sy6 := hsy6
     unfold slices_symMergeCmpFunc_int_L3 at hsy6
     refine avc_sq2 <| avc_sq2 <| avc_sq <| q0 ?_
     refine q0 ?_
     refine q25 ?_
     refine sq_nil ?_
     refine avc_if rfl ⟨fun c8 => ?_, fun c8 => ?_⟩
     ·
      replace hsy6 := cT c8 hsy6
      refine avc_skip <| avc_sq2 <| avc_block ?_
      obtain ⟨t121, ht121, hsy6'⟩ := bE hsy6; clear hsy6
      obtain ⟨t125, ht125, hsy6⟩ := bE hsy6'; clear hsy6'
      obtain ⟨t127, ht127, hsy6'⟩ := bE hsy6; clear hsy6
      obtain ⟨r3000_23x15, hr3000_23x15, hsy6⟩ := bE hsy6'; clear hsy6'
      obtain ⟨t128, ht128, hsy6'⟩ := bE hsy6; clear hsy6
      obtain ⟨r3000_23x17, hr3000_23x17, hsy6⟩ := bE hsy6'; clear hsy6'
      refine avc_tail (e := .normal) (S2 := ⟨[(0, .row 3000), (14, .d (di y4)), (17, .d (di v17))], [(3000, .win 3 eI.size 0 (eI.all r3000_23x17))]⟩) ?_ ?_
      ·
       refine avc_any MX ?_
       refine any_move (i := 0) rfl (lq rfl) rfl rfl rfl rfl ?_
       refine any_move (i := 1) rfl (lq rfl) rfl rfl rfl rfl ?_
       refine any_move (i := 2) rfl (lq rfl) rfl rfl rfl rfl ?_
       refine any_move (i := 3) rfl (lq rfl) rfl rfl rfl rfl ?_
       refine any_sub (i := 4) rfl (lq rfl) rfl rfl rfl rfl rfl rfl ?_
       refine any_move (i := 5) rfl (lq rfl) rfl rfl rfl rfl ?_
       refine any_move (i := 6) rfl (lq rfl) rfl rfl rfl rfl ?_
       refine any_sub (i := 7) rfl (lq rfl) rfl rfl rfl rfl rfl rfl ?_
       refine any_move (i := 10) rfl (lq rfl) rfl rfl rfl rfl ?_
       refine any_move (i := 11) rfl (lq rfl) rfl rfl rfl rfl ?_
       refine xn [8,12] ?_
       refine xa rfl (m_indexW (en := eI) (l := r3000) (lq rfl) S33 rfl rfl rfl ht121) ?_ ?_
       ·
        refine xn [9,12] ?_
        refine xa rfl (m_loadW (en := eI) (l := r3000) (i := (wi (v17 - 1))) (v := t121) (lq rfl) O3 rfl rfl ht121 rfl) ?_ ?_
        ·
         refine xn [12] ?_
         refine xc rfl (m_indexW (en := eI) (l := r3000) (lq rfl) S33 rfl rfl rfl ht125) ?_
         refine xn [13] ?_
         refine xc rfl (m_loadW (en := eI) (l := r3000) (i := v17) (v := t125) (lq rfl) O3 rfl rfl ht125 rfl) ?_
         refine xn [14] ?_
         refine xc rfl (m_indexW (en := eI) (l := r3000) (lq rfl) S33 rfl rfl rfl ht127) ?_
         refine xn [15] ?_
         refine xd rfl (m_storeW (en := eI) (l := r3000) (i := v17) (v := t121) O3 rfl rfl rfl ht127 hr3000_23x15 rfl rfl rfl rfl) ?_
         refine xn [16] ?_
         refine xc rfl (m_indexW (en := eI) (l := r3000_23x15) (lq rfl) S33 rfl rfl rfl ht128) ?_
         refine xn [17] ?_
         refine xd rfl (m_storeW (en := eI) (l := r3000_23x15) (i := (wi (v17 - 1))) (v := t125) O3 rfl rfl rfl ht128 hr3000_23x17 rfl rfl rfl rfl) ?_
         exact any_end rfl (out_mk (wc))
        refine xc rfl (m_indexW (en := eI) (l := r3000) (lq rfl) S33 rfl rfl rfl ht125) ?_
        refine xn [9,13] ?_
        refine xa rfl (m_loadW (en := eI) (l := r3000) (i := (wi (v17 - 1))) (v := t121) (lq rfl) O3 rfl rfl ht121 rfl) ?_ ?_
        ·
         refine xn [13] ?_
         refine xc rfl (m_loadW (en := eI) (l := r3000) (i := v17) (v := t125) (lq rfl) O3 rfl rfl ht125 rfl) ?_
         refine xn [14] ?_
         refine xc rfl (m_indexW (en := eI) (l := r3000) (lq rfl) S33 rfl rfl rfl ht127) ?_
         refine xn [15] ?_
         refine xd rfl (m_storeW (en := eI) (l := r3000) (i := v17) (v := t121) O3 rfl rfl rfl ht127 hr3000_23x15 rfl rfl rfl rfl) ?_
         refine xn [16] ?_
         refine xc rfl (m_indexW (en := eI) (l := r3000_23x15) (lq rfl) S33 rfl rfl rfl ht128) ?_
         refine xn [17] ?_
         refine xd rfl (m_storeW (en := eI) (l := r3000_23x15) (i := (wi (v17 - 1))) (v := t125) O3 rfl rfl rfl ht128 hr3000_23x17 rfl rfl rfl rfl) ?_
         exact any_end rfl (out_mk (wc))
        refine xc rfl (m_loadW (en := eI) (l := r3000) (i := v17) (v := t125) (lq rfl) O3 rfl rfl ht125 rfl) ?_
        refine xn [9] ?_
        refine xc rfl (m_loadW (en := eI) (l := r3000) (i := (wi (v17 - 1))) (v := t121) (lq rfl) O3 rfl rfl ht121 rfl) ?_
        refine xn [14] ?_
        refine xc rfl (m_indexW (en := eI) (l := r3000) (lq rfl) S33 rfl rfl rfl ht127) ?_
        refine xn [15] ?_
        refine xd rfl (m_storeW (en := eI) (l := r3000) (i := v17) (v := t121) O3 rfl rfl rfl ht127 hr3000_23x15 rfl rfl rfl rfl) ?_
        refine xn [16] ?_
        refine xc rfl (m_indexW (en := eI) (l := r3000_23x15) (lq rfl) S33 rfl rfl rfl ht128) ?_
        refine xn [17] ?_
        refine xd rfl (m_storeW (en := eI) (l := r3000_23x15) (i := (wi (v17 - 1))) (v := t125) O3 rfl rfl rfl ht128 hr3000_23x17 rfl rfl rfl rfl) ?_
        exact any_end rfl (out_mk (wc))
       refine xc rfl (m_indexW (en := eI) (l := r3000) (lq rfl) S33 rfl rfl rfl ht125) ?_
       refine xn [8,13] ?_
       refine xa rfl (m_indexW (en := eI) (l := r3000) (lq rfl) S33 rfl rfl rfl ht121) ?_ ?_
       ·
        refine xn [9,13] ?_
        refine xa rfl (m_loadW (en := eI) (l := r3000) (i := (wi (v17 - 1))) (v := t121) (lq rfl) O3 rfl rfl ht121 rfl) ?_ ?_
        ·
         refine xn [13] ?_
         refine xc rfl (m_loadW (en := eI) (l := r3000) (i := v17) (v := t125) (lq rfl) O3 rfl rfl ht125 rfl) ?_
         refine xn [14] ?_
         refine xc rfl (m_indexW (en := eI) (l := r3000) (lq rfl) S33 rfl rfl rfl ht127) ?_
         refine xn [15] ?_
         refine xd rfl (m_storeW (en := eI) (l := r3000) (i := v17) (v := t121) O3 rfl rfl rfl ht127 hr3000_23x15 rfl rfl rfl rfl) ?_
         refine xn [16] ?_
         refine xc rfl (m_indexW (en := eI) (l := r3000_23x15) (lq rfl) S33 rfl rfl rfl ht128) ?_
         refine xn [17] ?_
         refine xd rfl (m_storeW (en := eI) (l := r3000_23x15) (i := (wi (v17 - 1))) (v := t125) O3 rfl rfl rfl ht128 hr3000_23x17 rfl rfl rfl rfl) ?_
         exact any_end rfl (out_mk (wc))
        refine xc rfl (m_loadW (en := eI) (l := r3000) (i := v17) (v := t125) (lq rfl) O3 rfl rfl ht125 rfl) ?_
        refine xn [9] ?_
        refine xc rfl (m_loadW (en := eI) (l := r3000) (i := (wi (v17 - 1))) (v := t121) (lq rfl) O3 rfl rfl ht121 rfl) ?_
        refine xn [14] ?_
        refine xc rfl (m_indexW (en := eI) (l := r3000) (lq rfl) S33 rfl rfl rfl ht127) ?_
        refine xn [15] ?_
        refine xd rfl (m_storeW (en := eI) (l := r3000) (i := v17) (v := t121) O3 rfl rfl rfl ht127 hr3000_23x15 rfl rfl rfl rfl) ?_
        refine xn [16] ?_
        refine xc rfl (m_indexW (en := eI) (l := r3000_23x15) (lq rfl) S33 rfl rfl rfl ht128) ?_
        refine xn [17] ?_
        refine xd rfl (m_storeW (en := eI) (l := r3000_23x15) (i := (wi (v17 - 1))) (v := t125) O3 rfl rfl rfl ht128 hr3000_23x17 rfl rfl rfl rfl) ?_
        exact any_end rfl (out_mk (wc))
       refine xc rfl (m_loadW (en := eI) (l := r3000) (i := v17) (v := t125) (lq rfl) O3 rfl rfl ht125 rfl) ?_
       refine xn [8] ?_
       refine xc rfl (m_indexW (en := eI) (l := r3000) (lq rfl) S33 rfl rfl rfl ht121) ?_
       refine xn [9] ?_
       refine xc rfl (m_loadW (en := eI) (l := r3000) (i := (wi (v17 - 1))) (v := t121) (lq rfl) O3 rfl rfl ht121 rfl) ?_
       refine xn [14] ?_
       refine xc rfl (m_indexW (en := eI) (l := r3000) (lq rfl) S33 rfl rfl rfl ht127) ?_
       refine xn [15] ?_
       refine xd rfl (m_storeW (en := eI) (l := r3000) (i := v17) (v := t121) O3 rfl rfl rfl ht127 hr3000_23x15 rfl rfl rfl rfl) ?_
       refine xn [16] ?_
       refine xc rfl (m_indexW (en := eI) (l := r3000_23x15) (lq rfl) S33 rfl rfl rfl ht128) ?_
       refine xn [17] ?_
       refine xd rfl (m_storeW (en := eI) (l := r3000_23x15) (i := (wi (v17 - 1))) (v := t125) O3 rfl rfl rfl ht128 hr3000_23x17 rfl rfl rfl rfl) ?_
       exact any_end rfl (out_mk (wc))
      refine avc_sq <| q0 ?_
      refine q17 ?_
      refine q1 ?_
      refine sq_nil ?_
      cases hsy6
      exact wc
     ·
      replace hsy6 := cF c8 hsy6
      refine avc_exit ?_
      cases hsy6
      intro q; cases q
      exact out_mk (wc)
    ·
     cases h
     refine avc_ret ?_
     exact ⟨rfl, ⟨rfl, trivial⟩⟩
  ·
   replace h := cF c5 h
   refine avc_skip <| avc_sq2 <| avc_sq <| q0 ?_
   refine q0 ?_
   refine q2 ?_
   refine q29 Tryz.underlying3 Tryz.underlying141 ?_
   refine sqa (a_shr (m := 1) (lq rfl) rfl rfl (by decide)) ?_
   refine q29 Tryz.underlying141 Tryz.underlying3 ?_
   refine q1 ?_
   refine sq_nil <| avc_sq2 <| avc_sq <| q0 ?_
   refine q0 ?_
   refine q2 ?_
   refine q1 ?_
   refine sq_nil <| avc_sq2 <| avc_sq <| q1 ?_
   refine q1 ?_
   refine sq_nil <| avc_sq2 <| avc_sq2 <| avc_sq <| q0 ?_
   refine q0 ?_
   refine q25 ?_
   refine sq_nil ?_
   obtain ⟨y7, hy7, h'⟩ := bE h; clear h
   refine avc_tail (e := .normal) (S2 := ⟨[(0, .row 3000), (1, .d (di a1)), (2, .d (di a2)), (3, .d (di a3)), (4, .d fv4), (18, .d (di (wi ((wu (wi (a1 + a3))) / 2 ^ 1)))), (19, .d (di (wi ((wi ((wu (wi (a1 + a3))) / 2 ^ 1)) + a2)))), (20, .d (di y7.1)), (21, .d (di y7.2))], [(3000, .win 3 eI.size 0 (eI.all a0))]⟩) ?_ ?_
   ·
    refine avc_if rfl ⟨fun c9 => ?_, fun c9 => ?_⟩
    ·
     replace hy7 := cT c9 hy7
     refine avc_sq2 <| avc_sq <| q0 ?_
     refine q0 ?_
     refine q17 ?_
     refine q1 ?_
     refine sq_nil <| avc_sq <| q0 ?_
     refine q1 ?_
     refine sq_nil ?_
     cases hy7
     exact out_mk (wc)
    ·
     replace hy7 := cF c9 hy7
     refine avc_sq2 <| avc_sq <| q0 ?_
     refine q1 ?_
     refine sq_nil <| avc_sq <| q0 ?_
     refine q1 ?_
     refine sq_nil ?_
     cases hy7
     exact out_mk (wc)
   ·
    refine avc_sq2 <| avc_sq <| q0 ?_
    refine q17 ?_
    refine q1 ?_
    refine sq_nil <| avc_sq2 <| avc_block ?_
    obtain ⟨y8, hy8, h⟩ := bE h'; clear h'
    refine avc_tail (e := (.exit 8)) (S2 := ⟨[(0, .row 3000), (1, .d (di a1)), (2, .d (di a2)), (3, .d (di a3)), (4, .d fv4), (18, .d (di (wi ((wu (wi (a1 + a3))) / 2 ^ 1)))), (19, .d (di (wi ((wi ((wu (wi (a1 + a3))) / 2 ^ 1)) + a2)))), (20, .d (di y8))], [(3000, .win 3 eI.size 0 (eI.all a0))]⟩) ?_ ?_
    ·
     refine avc_loopM (fun x => ⟨[(0, .row 3000), (1, .d (di a1)), (2, .d (di a2)), (3, .d (di a3)), (4, .d fv4), (18, .d (di (wi ((wu (wi (a1 + a3))) / 2 ^ 1)))), (19, .d (di (wi ((wi ((wu (wi (a1 + a3))) / 2 ^ 1)) + a2)))), (20, .d (di x.1)), (21, .d (di x.2)), (22, .d (di (wi ((wi ((wi ((wu (wi (a1 + a3))) / 2 ^ 1)) + a2)) - 1))))], [(3000, .win 3 eI.size 0 (eI.all a0))]⟩) hy8 (wc) ?_
     rintro ⟨v20, v21⟩ sy8 hsy8
     replace hsy8 : slices_symMergeCmpFunc_int_L4 a0 a1 a3 a2 a4 v20 v21 = some sy8 := hsy8
     unfold slices_symMergeCmpFunc_int_L4 at hsy8
     refine avc_sq2 <| avc_sq2 <| avc_sq <| q0 ?_
     refine q0 ?_
     refine q3 ?_
     refine sq_nil ?_
     refine avc_if rfl ⟨fun c10 => ?_, fun c10 => ?_⟩
     ·
      replace hsy8 := cT c10 hsy8
      refine avc_skip ?_
      obtain ⟨y9, hy9, hsy8'⟩ := bE hsy8; clear hsy8
      refine avc_tail (e := .normal) (S2 := ⟨[(0, .row 3000), (1, .d (di a1)), (2, .d (di a2)), (3, .d (di a3)), (4, .d fv4), (18, .d (di (wi ((wu (wi (a1 + a3))) / 2 ^ 1)))), (19, .d (di (wi ((wi ((wu (wi (a1 + a3))) / 2 ^ 1)) + a2)))), (20, .d (di y9.1)), (21, .d (di y9.2)), (22, .d (di (wi ((wi ((wi ((wu (wi (a1 + a3))) / 2 ^ 1)) + a2)) - 1))))], [(3000, .win 3 eI.size 0 (eI.all a0))]⟩) ?_ ?_
      ·
       refine avc_block <| avc_sq2 <| avc_sq <| q0 ?_
       refine q0 ?_
       refine q2 ?_
       refine q29 Tryz.underlying3 Tryz.underlying141 ?_
       refine sqa (a_shr (m := 1) (lq rfl) rfl rfl (by decide)) ?_
       refine q29 Tryz.underlying141 Tryz.underlying3 ?_
       refine q1 ?_
       refine sq_nil <| avc_sq2 ?_
       refine avc_drawA MX rfl ?_
       refine q4 ?_
       refine q34 ?_
       refine q4 ?_
       refine q4 ?_
       refine q39 ?_
       obtain ⟨t163, ht163, hy9'⟩ := bE hy9; clear hy9
       refine daa (m_indexW (en := eI) (l := a0) (lq rfl) S33 rfl rfl rfl ht163) ?_
       refine daa (m_loadW (en := eI) (l := a0) (i := (wi ((wi ((wi ((wi ((wu (wi (a1 + a3))) / 2 ^ 1)) + a2)) - 1)) - (wi ((wu (wi (v20 + v21))) / 2 ^ 1))))) (v := t163) (lq rfl) O3 rfl rfl ht163 rfl) ?_
       refine q34 ?_
       refine q4 ?_
       obtain ⟨t167, ht167, hy9⟩ := bE hy9'; clear hy9'
       refine daa (m_indexW (en := eI) (l := a0) (lq rfl) S33 rfl rfl rfl ht167) ?_
       refine daa (m_loadW (en := eI) (l := a0) (i := (wi ((wu (wi (v20 + v21))) / 2 ^ 1))) (v := t167) (lq rfl) O3 rfl rfl ht167 rfl) ?_
       obtain ⟨t169, ht169, hy9'⟩ := bE hy9; clear hy9
       refine daa (a_callF (lq rfl) rfl rfl (hf4 _ _ _ ht169)) ?_
       refine q46 ?_
       refine q55 ?_
       refine da_nil ?_
       refine avc_if rfl ⟨fun c11 => ?_, fun c11 => ?_⟩
       ·
        replace hy9' := cT c11 hy9'
        refine avc_sq <| q0 ?_
        refine q2 ?_
        refine q1 ?_
        refine sq_nil ?_
        cases hy9'
        exact out_mk (wc)
       ·
        replace hy9' := cF c11 hy9'
        refine avc_sq <| q0 ?_
        refine q1 ?_
        refine sq_nil ?_
        cases hy9'
        exact out_mk (wc)
      ·
       cases hsy8'
       exact wc
     ·
      replace hsy8 := cF c10 hsy8
      refine avc_exit ?_
      cases hsy8
      intro q; cases q
      exact out_mk (wc)
    ·
     refine avc_sq2 <| avc_sq <| q0 ?_
     refine q0 ?_
     refine q17 ?_
     refine q1 ?_
     refine sq_nil <| avc_sq2 <| avc_sq2 <| avc_sq <| q0 ?_
     refine q0 ?_
     refine q3 ?_
     obtain ⟨b181, hb181, h'⟩ := bE h; clear h
     refine sqa ((a_move_d (lq rfl) rfl).bool (Option.some.inj hb181)) ?_
     refine sqt (.d (di a2)) rfl (fun hb => by subst hb; exact a_move_d (lq rfl) rfl) ?_
     refine sqt (.d (di (wi ((wi ((wi ((wu (wi (a1 + a3))) / 2 ^ 1)) + a2)) - y8)))) rfl (fun hb => by subst hb; exact a_move_d (lq rfl) rfl) ?_
     refine sqt (.d (db (decide (a2 < (wi ((wi ((wi ((wu (wi (a1 + a3))) / 2 ^ 1)) + a2)) - y8)))))) rfl (fun hb => by subst hb; exact a_lss (lq rfl) rfl rfl) ?_
     refine q8 ?_
     refine sq_nil ?_
     obtain ⟨y10, hy10, h⟩ := bE h'; clear h'
     refine avc_tail (e := .normal) (S2 := ⟨[(0, .row 3000), (1, .d (di a1)), (3, .d (di a3)), (4, .d fv4), (18, .d (di (wi ((wu (wi (a1 + a3))) / 2 ^ 1)))), (20, .d (di y8)), (24, .d (di (wi ((wi ((wi ((wu (wi (a1 + a3))) / 2 ^ 1)) + a2)) - y8))))], [(3000, .win 3 eI.size 0 (eI.all y10))]⟩) ?_ ?_
     ·
      refine avc_if rfl ⟨fun c12 => ?_, fun c12 => ?_⟩
      ·
       replace hy10 := cT c12 hy10
       refine avc_sq <| q7 ?_
       refine q0 ?_
       refine q0 ?_
       refine q0 ?_
       refine q0 ?_
       obtain ⟨t191, ht191, hy10'⟩ := bE hy10; clear hy10
       refine sq_b rfl (g_callN [(3000, 3000)] (slices_rotateCmpFunc_int_g hf4 ht191) (lq rfl) (by decide) ⟨rfl, rfl, rfl, rfl, rfl, trivial⟩ rfl rfl ⟨rfl, trivial⟩ rfl rfl rfl rfl) ?_
       refine sq_nil ?_
       cases hy10'
       exact out_mk (wc)
      ·
       replace hy10 := cF c12 hy10
       refine avc_skip ?_
       cases hy10
       exact out_mk (wc)
     ·
      refine avc_sq2 <| avc_sq2 <| avc_sq <| q0 ?_
      refine q0 ?_
      refine q3 ?_
      obtain ⟨b195, hb195, h'⟩ := bE h; clear h
      refine sqa ((a_move_d (lq rfl) rfl).bool (Option.some.inj hb195)) ?_
      refine sqt (.d (di y8)) rfl (fun hb => by subst hb; exact a_move_d (lq rfl) rfl) ?_
      refine sqt (.d (di (wi ((wu (wi (a1 + a3))) / 2 ^ 1)))) rfl (fun hb => by subst hb; exact a_move_d (lq rfl) rfl) ?_
      refine sqt (.d (db (decide (y8 < (wi ((wu (wi (a1 + a3))) / 2 ^ 1)))))) rfl (fun hb => by subst hb; exact a_lss (lq rfl) rfl rfl) ?_
      refine q8 ?_
      refine sq_nil ?_
      obtain ⟨y11, hy11, h⟩ := bE h'; clear h'
      refine avc_tail (e := .normal) (S2 := ⟨[(0, .row 3000), (3, .d (di a3)), (4, .d fv4), (18, .d (di (wi ((wu (wi (a1 + a3))) / 2 ^ 1)))), (24, .d (di (wi ((wi ((wi ((wu (wi (a1 + a3))) / 2 ^ 1)) + a2)) - y8))))], [(3000, .win 3 eI.size 0 (eI.all y11))]⟩) ?_ ?_
      ·
       refine avc_if rfl ⟨fun c13 => ?_, fun c13 => ?_⟩
       ·
        replace hy11 := cT c13 hy11
        refine avc_sq <| q7 ?_
        refine q0 ?_
        refine q0 ?_
        refine q0 ?_
        refine q0 ?_
        obtain ⟨t205, ht205, hy11'⟩ := bE hy11; clear hy11
        refine sq_b rfl (g_callN [(3000, 3000)] (ih hf4 ht205) (lq rfl) (by decide) ⟨rfl, rfl, rfl, rfl, rfl, trivial⟩ rfl rfl ⟨rfl, trivial⟩ rfl rfl rfl rfl) ?_
        refine sq_nil ?_
        cases hy11'
        exact out_mk (wc)
       ·
        replace hy11 := cF c13 hy11
        refine avc_skip ?_
        cases hy11
        exact out_mk (wc)
      ·
       refine avc_sq2 <| avc_sq <| q0 ?_
       refine q0 ?_
       refine q3 ?_
       obtain ⟨b209, hb209, h'⟩ := bE h; clear h
       refine sqa ((a_move_d (lq rfl) rfl).bool (Option.some.inj hb209)) ?_
       refine sqt (.d (di (wi ((wi ((wi ((wu (wi (a1 + a3))) / 2 ^ 1)) + a2)) - y8)))) rfl (fun hb => by subst hb; exact a_move_d (lq rfl) rfl) ?_
       refine sqt (.d (di a3)) rfl (fun hb => by subst hb; exact a_move_d (lq rfl) rfl) ?_
       refine sqt (.d (db (decide ((wi ((wi ((wi ((wu (wi (a1 + a3))) / 2 ^ 1)) + a2)) - y8)) < a3)))) rfl (fun hb => by subst hb; exact a_lss (lq rfl) rfl rfl) ?_
       refine q8 ?_
       refine sq_nil ?_
       refine avc_if rfl ⟨fun c14 => ?_, fun c14 => ?_⟩
       ·
        replace h' := cT c14 h'
        refine avc_sq <| q7 ?_
        refine q0 ?_
        refine q0 ?_
        refine q0 ?_
        refine q0 ?_
        obtain ⟨t219, ht219, h⟩ := bE h'; clear h'
        refine sq_b rfl (g_callN [(3000, 3000)] (ih hf4 ht219) (lq rfl) (by decide) ⟨rfl, rfl, rfl, rfl, rfl, trivial⟩ rfl rfl ⟨rfl, trivial⟩ rfl rfl rfl rfl) ?_
        refine sq_nil ?_
        cases h
        exact ⟨rfl, ⟨rfl, trivial⟩⟩
       ·
        replace h' := cF c14 h'
        refine avc_skip ?_
        cases h'
        exact ⟨rfl, ⟨rfl, trivial⟩⟩
theorem slices_stableCmpFunc_int_g {fv2 : DV} {a0 : (List Int)} {a1 : Int} {a2 : Int → Int → Option (Int)} (hf2 : ∀ x0 x1 y, a2 x0 x1 = some y → FnC Tryz.prog fv2 [(di x0), (di x1)] [(di y)]) {r : (List Int)} (h : slices_stableCmpFunc_int a0 a1 a2 = some r) : GC Tryz.prog 113 [.row 3000, .d (di a1), .d fv2] [(3000, .win 3 eI.size 0 (eI.all a0))] [3000] [] [(3000, .win 3 eI.size 0 (eI.all r))] := by
 refine gc_of Tryz.func113 (by kernel_rfl) rfl (lq rfl) (lq rfl) fun w0 I0 hG0 p0 => ?_
 unfold slices_stableCmpFunc_int at h
 refine avc_sq2 <| avc_sq <| q1 ?_
 refine sq_nil <| avc_sq2 <| avc_sq <| q0 ?_
 refine q1 ?_
 refine q1 ?_
 refine sq_nil <| avc_sq2 <| avc_block ?_
 obtain ⟨y1, hy1, h'⟩ := bE h; clear h
 refine avc_tail (e := (.exit 0)) (S2 := ⟨[(0, .row 3000), (1, .d (di a1)), (2, .d fv2), (6, .d (di 20)), (7, .d (di y1.1))], [(3000, .win 3 eI.size 0 (eI.all y1.2))]⟩) ?_ ?_
 ·
  refine avc_loopM (fun x => ⟨[(0, .row 3000), (1, .d (di a1)), (2, .d fv2), (6, .d (di 20)), (7, .d (di x.1)), (8, .d (di x.2.1))], [(3000, .win 3 eI.size 0 (eI.all x.2.2))]⟩) hy1 (wc) ?_
  rintro ⟨v7, v8, r3000⟩ sy1 hsy1
  replace hsy1 : slices_stableCmpFunc_int_L0 a1 a2 v7 v8 r3000 = some sy1 := hsy1
  unfold slices_stableCmpFunc_int_L0 at hsy1
  refine avc_sq2 <| avc_sq2 <| avc_sq <| q0 ?_
  refine q0 ?_
  refine q32 ?_
  refine sq_nil ?_
  refine avc_if rfl ⟨fun c1 => ?_, fun c1 => ?_⟩
  ·
   replace hsy1 := cT c1 hsy1
   refine avc_skip <| avc_block <| avc_sq2 <| avc_sq <| q7 ?_
   refine q0 ?_
   refine q0 ?_
   refine q0 ?_
   obtain ⟨t18, ht18, hsy1'⟩ := bE hsy1; clear hsy1
   refine sq_b rfl (g_callN [(3000, 3000)] (slices_insertionSortCmpFunc_int_g hf2 ht18) (lq rfl) (by decide) ⟨rfl, rfl, rfl, rfl, trivial⟩ rfl rfl ⟨rfl, trivial⟩ rfl rfl rfl rfl) ?_
   refine sq_nil <| avc_sq2 <| avc_sq <| q0 ?_
   refine q1 ?_
   refine sq_nil <| avc_sq <| q0 ?_
   refine q0 ?_
   refine q2 ?_
   refine q1 ?_
   refine sq_nil ?_
   cases hsy1'
   exact wc
  ·
   replace hsy1 := cF c1 hsy1
   refine avc_exit ?_
   cases hsy1
   intro q; cases q
   exact out_mk (wc)
 ·
  refine avc_sq2 <| avc_sq <| q7 ?_
  refine q0 ?_
  refine q0 ?_
  refine q0 ?_
  obtain ⟨t27, ht27, h⟩ := bE h'; clear h'
  refine sq_b rfl (g_callN [(3000, 3000)] (slices_insertionSortCmpFunc_int_g hf2 ht27) (lq rfl) (by decide) ⟨rfl, rfl, rfl, rfl, trivial⟩ rfl rfl ⟨rfl, trivial⟩ rfl rfl rfl rfl) ?_
  refine sq_nil <| avc_block ?_
  obtain ⟨y2, hy2, h'⟩ := bE h; clear h
  refine avc_tail (e := (.exit 2)) (S2 := ⟨[(0, .row 3000)], [(3000, .win 3 eI.size 0 (eI.all y2))]⟩) ?_ ?_
  ·
   refine avc_loopM (fun x => ⟨[(0, .row 3000), (1, .d (di a1)), (2, .d fv2), (6, .d (di x.1))], [(3000, .win 3 eI.size 0 (eI.all x.2))]⟩) hy2 (wc) ?_
   rintro ⟨v6, r3000⟩ sy2 hsy2
   replace hsy2 : slices_stableCmpFunc_int_L1 a1 a2 v6 r3000 = some sy2 := hsy2
   unfold slices_stableCmpFunc_int_L1 at hsy2
   refine avc_sq2 <| avc_sq2 <| avc_sq <| q0 ?_
   refine q0 ?_
   refine q3 ?_
   refine sq_nil ?_
   refine avc_if rfl ⟨fun c2 => ?_, fun c2 => ?_⟩
   ·
    replace hsy2 := cT c2 hsy2
    refine avc_skip <| avc_block <| avc_sq2 <| avc_sq <| q0 ?_
    refine sqa (m_mul (lq rfl) rfl rfl) ?_
    refine q1 ?_
    refine q1 ?_
    refine sq_nil <| avc_sq2 <| avc_block ?_
    obtain ⟨y3, hy3, hsy2'⟩ := bE hsy2; clear hsy2
    refine avc_tail (e := (.exit 4)) (S2 := ⟨[(0, .row 3000), (1, .d (di a1)), (2, .d fv2), (6, .d (di v6)), (7, .d (di y3.1))], [(3000, .win 3 eI.size 0 (eI.all y3.2))]⟩) ?_ ?_
    ·
     refine avc_loopM (fun x => ⟨[(0, .row 3000), (1, .d (di a1)), (2, .d fv2), (6, .d (di v6)), (7, .d (di x.1)), (8, .d (di x.2.1))], [(3000, .win 3 eI.size 0 (eI.all x.2.2))]⟩) hy3 (wc) ?_
     rintro ⟨v7, v8, r3000⟩ sy3 hsy3
     replace hsy3 : slices_stableCmpFunc_int_L2 a1 v6 a2 v7 v8 r3000 = some sy3 := hsy3
     unfold slices_stableCmpFunc_int_L2 at hsy3
     refine avc_sq2 <| avc_sq2 <| avc_sq <| q0 ?_
     refine q0 ?_
     refine q32 ?_
     refine sq_nil ?_
     refine avc_if rfl ⟨fun c3 => ?_, fun c3 => ?_⟩
     ·
      replace hsy3 := cT c3 hsy3
      refine avc_skip <| avc_block <| avc_sq2 <| avc_sq <| q7 ?_
      refine q0 ?_
      refine q0 ?_
      refine q0 ?_
      refine q2 ?_
      refine q0 ?_
      refine q0 ?_
      obtain ⟨t43, ht43, hsy3'⟩ := bE hsy3; clear hsy3
      refine sq_b rfl (g_callN [(3000, 3000)] (slices_symMergeCmpFunc_int_g _ hf2 ht43) (lq rfl) (by decide) ⟨rfl, rfl, rfl, rfl, rfl, trivial⟩ rfl rfl ⟨rfl, trivial⟩ rfl rfl rfl rfl) ?_
      refine sq_nil <| avc_sq2 <| avc_sq <| q0 ?_
      refine q1 ?_
      refine sq_nil <| avc_sq <| q0 ?_
      refine q0 ?_
      refine sqa (m_mul (lq rfl) rfl rfl) ?_
      refine q2 ?_
      refine q1 ?_
      refine sq_nil ?_
      cases hsy3'
      exact wc
     ·
      replace hsy3 := cF c3 hsy3
      refine avc_exit ?_
      cases hsy3
      intro q; cases q
      exact out_mk (wc)
    ·
     refine avc_sq2 <| avc_sq2 <| avc_sq <| q0 ?_
     refine q0 ?_
     refine q2 ?_
     refine q1 ?_
     refine sq_nil <| avc_sq2 <| avc_sq <| q0 ?_
     refine q0 ?_
     refine q3 ?_
     refine sq_nil ?_
     obtain ⟨y4, hy4, hsy2⟩ := bE hsy2'; clear hsy2'
     refine avc_tail (e := .normal) (S2 := ⟨[(0, .row 3000), (1, .d (di a1)), (2, .d fv2), (6, .d (di v6))], [(3000, .win 3 eI.size 0 (eI.all y4))]⟩) ?_ ?_
     ·
      refine avc_if rfl ⟨fun c4 => ?_, fun c4 => ?_⟩
      ·
       replace hy4 := cT c4 hy4
       refine avc_sq <| q7 ?_
       refine q0 ?_
       refine q0 ?_
       refine q0 ?_
       refine q0 ?_
       obtain ⟨t60, ht60, hy4'⟩ := bE hy4; clear hy4
       refine sq_b rfl (g_callN [(3000, 3000)] (slices_symMergeCmpFunc_int_g _ hf2 ht60) (lq rfl) (by decide) ⟨rfl, rfl, rfl, rfl, rfl, trivial⟩ rfl rfl ⟨rfl, trivial⟩ rfl rfl rfl rfl) ?_
       refine sq_nil ?_
       cases hy4'
       exact out_mk (wc)
      ·
       replace hy4 := cF c4 hy4
       refine avc_skip ?_
       cases hy4
       exact out_mk (wc)
     ·
      refine avc_sq <| q0 ?_
      refine sqa (m_mul (lq rfl) rfl rfl) ?_
      refine q1 ?_
      refine sq_nil ?_
      cases hsy2
      exact wc
   ·
    replace hsy2 := cF c2 hsy2
    refine avc_exit ?_
    cases hsy2
    intro q; cases q
    exact out_mk (wc)
  ·
   cases h'
   exact ⟨rfl, ⟨rfl, trivial⟩⟩
theorem slices_SortStableFunc_int_int_g {fv1 : DV} {a0 : (List Int)} {a1 : Int → Int → Option (Int)} (hf1 : ∀ x0 x1 y, a1 x0 x1 = some y → FnC Tryz.prog fv1 [(di x0), (di x1)] [(di y)]) {r : (List Int)} (h : slices_SortStableFunc_int_int a0 a1 = some r) : GC Tryz.prog 95 [.row 3000, .d fv1] [(3000, .win 3 eI.size 0 (eI.all a0))] [3000] [] [(3000, .win 3 eI.size 0 (eI.all r))] := by
 refine gc_of Tryz.func95 (by kernel_rfl) rfl (lq rfl) (lq rfl) fun w0 I0 hG0 p0 => ?_
 unfold slices_SortStableFunc_int_int at h
 refine avc_sq <| q7 ?_
 refine q7 ?_
 refine sqa (m_lenW (en := eI) (l := a0) (lq rfl) S33 rfl rfl) ?_
 refine q0 ?_
 obtain ⟨t8, ht8, h'⟩ := bE h; clear h
 refine sq_b rfl (g_callN [(3000, 3000)] (slices_stableCmpFunc_int_g hf1 ht8) (lq rfl) (by decide) ⟨rfl, rfl, rfl, trivial⟩ rfl rfl ⟨rfl, trivial⟩ rfl rfl rfl rfl) ?_
 refine sq_nil ?_
 cases h'
 exact ⟨rfl, ⟨rfl, trivial⟩⟩
theorem ordering_Sort_g {a0 : List Span} {a1 r : List Int} (h : ordering_Sort a0 a1 = some r) : GC Tryz.prog 68 [.d (dsl eSpan a0), .d (dsl eI a1)] [] [] [.row 100] [(100, .row 3 eI.size false (eI.all r))] := by
 unfold ordering_Sort at h
 obtain ⟨t8, ht8, h'⟩ := bE h; clear h
 obtain ⟨t10, ht10, h⟩ := bE h'; clear h'
 obtain ⟨t13, ht13, h'⟩ := bE h; clear h
 refine gc_of Tryz.func68 (by kernel_rfl) rfl (lq rfl) (lq rfl) fun w0 I0 hG0 p0 => ?_
 refine avc_sq2 <| avc_sq ?_
 refine sq_b rfl (s_box_d (lq rfl) rfl rfl rfl) ?_
 refine q1 ?_
 refine sq_nil <| avc_sq2 <| avc_sq <| q22 O22 ?_
 refine sqa (a_call (lq rfl) rfl (ordering_usable_c ht8)) ?_
 refine q43 O22 ?_
 refine sq_nil ?_
 refine avc_weak (weak_freeze (t := 2) (lq rfl) rfl rfl rfl) ?_
 refine avc_sq2 <| avc_sq <| q0 ?_
 refine sq_b rfl (g_call [(5, 100)] (slices_Clone_int_int_g ht10) (lq rfl) (by decide) ⟨rfl, trivial⟩ rfl rfl trivial rfl rfl rfl (fun _ => rfl) rfl) ?_
 refine sq_b rfl (step_alloc (zs := [(.slice none 0 0)]) (lq rfl) (by kernel_rfl) rfl rfl) ?_
 refine q52 O33 ?_
 refine sq_nil <| avc_sq2 <| avc_sq2 <| avc_sq <| q44 O22 ?_
 refine q0 ?_
 refine sqa (a_call (lq rfl) rfl ordering_runs_c) ?_
 refine sq_nil <| avc_block ?_
 refine avc_range [(5, .ptr 5 0), (2, .d (.pt [dsl eSpan t8])), (4, .d (.v (.slice none 0 0)))] [5] (fun k => [(5, .box 33 [.row 100]), (100, .row 3 eI.size false (eI.all (outK (fun p => slices_SortStableFunc_int_int p (fun x0 x1 => ordering_Sort_1 x0 x1 t8)) Range.Lo Range.Hi t10 (runsOf (fun c => ordering_class t8 c == some 0) a1 0 (-1)) k)))]) rfl (ordering_runs_1_i ht13) rfl (fun _ _ _ _ h => h) ?hk ?hT rfl (fun _ => rfl) ?hbx (fun _ _ => rfl) ?hl ?hpn ?rd ?hK
 case hk => exact ⟨rfl, rfl, rfl, trivial⟩
 case hT => exact ⟨rfl, rfl, trivial⟩
 case hbx => intro k id hi; simp at hi; subst hi; exact fun (h : Blk.box _ _ = Blk.none) => by cases h
 case hl => intro x hx; obtain ⟨y, _, rfl⟩ := List.mem_map.1 hx; rfl
 case hpn => intro p hp; simp at hp; subst hp; exact (lq rfl)
 case rd =>
  intro w1 Iall X C0 ρ0 defs l1 D lp1 lp2 hok k x hx
  rw [List.getElem?_map] at hx
  obtain ⟨v, hv, rfl⟩ := Option.map_eq_some_iff.1 hx
  have hst := outK_step h' hv
  obtain ⟨q0, q1, q2⟩ := partM_ok hst
  refine avc_sq ?_
  refine sq_b rfl (step_alloc (zs := [(.int IntKind.i64 (0)), (.int IntKind.i64 (0))]) (lq rfl) (by kernel_rfl) rfl rfl) ?_
  refine q10 G123 ?_
  refine sq_nil <| avc_block <| avc_sq <| q22 O33 ?_
  refine q33 L123_0 ?_
  refine q22 O3 ?_
  refine q33 L123_1 ?_
  refine q22 O3 ?_
  refine sqa (m_slicePart (en := eI) (lq rfl) S33 rfl rfl rfl rfl q0 q1 q2) ?_
  refine sqa (a_makeFunc (lq rfl) rfl) ?_
  refine sq_b rfl (m_part (en := eI) (lq rfl) rfl rfl rfl hst eI_v (fun m m' hm => slices_SortStableFunc_int_int_g (fun _ _ _ q => .inl ⟨_, _, rfl, ordering_Sort_1_c q⟩) hm) rfl) ?_
  refine sq_nil ?_
  exact ⟨rfl, rfl, trivial⟩
 case hK =>
  rw [List.length_map, outK_len h']
  refine avc_sq2 <| avc_sq <| q22 O33 ?_
  refine q9 ?_
  refine sq_nil <| avc_ret ?_
  exact ⟨⟨_, _, rfl, rfl, rfl⟩, rfl, trivial⟩
theorem decompose_Text_g  {a0 : Norm} {a1 : (List Int)} {a2 : Bool}  {r : (List Int)} (h : decompose_Text a0 a1 a2 = some r) : GC Tryz.prog 40 [.d (eNorm.dv a0), .d (dsl eI a1), .d (db a2)] [] [] [.row 2531] [(2531, .row 3 eI.size false (eI.all r))] := by
 refine gc_of Tryz.func40 (by kernel_rfl) rfl (lq rfl) (lq rfl) fun w0 I0 hG0 p0 => ?_
 unfold decompose_Text at h
 refine avc_sq2 <| avc_sq ?_
 refine sq_b rfl (s_box_agg (lq rfl) rfl rfl) ?_
 refine q1 ?_
 refine sq_nil <| avc_sq2 <| avc_sq ?_
 refine sqa ((a_load_boxA (lq rfl) G28 rfl rfl rfl rfl).data rfl) ?_
 obtain ⟨t12, ht12, h'⟩ := bE h; clear h
 refine sqa (a_call (lq rfl) rfl (decompose_usable_c ht12)) ?_
 refine q10 G28 ?_
 refine sq_nil <| avc_sq2 <| avc_sq ?_
 refine sqa ((a_load_boxA (lq rfl) G28 rfl rfl rfl rfl).data rfl) ?_
 refine q0 ?_
 obtain ⟨t15, ht15, h⟩ := bE h'; clear h'
 refine sq_b rfl (g_callA [(5, 2515), (6, 3015), (7, 3515)] (decompose_expander_a ht15) (lq rfl) (by decide) ⟨rfl, rfl, trivial⟩ rfl rfl trivial rfl rfl rfl (fun _ => rfl) rfl) ?_
 refine sqa (a_assign_to (lq rfl) rfl) ?_
 refine sq_nil <| avc_sq2 <| avc_sq <| q1 ?_
 refine sq_nil ?_
 refine avc_weak (weak_nil (t := 8) 1008 3 eI.size (lq rfl) (lq rfl) rfl rfl) ?_
 refine avc_sq2 <| avc_sq2 <| avc_sq <| q0 ?_
 refine sqa (m_len (en := eI) (l := a1) (lq rfl) S33 rfl) ?_
 refine q0 ?_
 refine sq_nil <| avc_block ?_
 obtain ⟨y1, hy1, h'⟩ := bE h; clear h
 refine avc_tail (e := (.exit 0)) (S2 := ⟨[(3, .ptr 3 0), (8, .row 1008)], [(3, .box 28 [.d (dsl eSpan t12.Classes), .d (dsl eMapping t12.Decomp), .d (dsl eRange t12.Excluded.Ranges)]), (1008, .row 3 eI.size false (eI.all y1))]⟩) ?_ ?_
 ·
  refine avc_loopM (fun x => ⟨[(3, .ptr 3 0), (7, .clo 59 [.ptr 2515 0, .d (.pt (eNorm.cells ({ Classes := t12.Classes, Decomp := t12.Decomp, Excluded := ({ Ranges := t12.Excluded.Ranges } : Set) } : Norm))), .d (.pt [(db a2)]), .ptr 3015 0]), (8, .row 1008), (16, .d (dsl eI a1)), (17, .d (di (a1.length : Int))), (18, .d (di x.1))], [(3, .box 28 [.d (dsl eSpan t12.Classes), .d (dsl eMapping t12.Decomp), .d (dsl eRange t12.Excluded.Ranges)]), (1008, .row 3 eI.size false (eI.all x.2.1)), (2515, .box 96 [.row 3515]), (3015, .box 74 [.clo 59 [.ptr 2515 0, .d (.pt (eNorm.cells ({ Classes := t12.Classes, Decomp := t12.Decomp, Excluded := ({ Ranges := t12.Excluded.Ranges } : Set) } : Norm))), .d (.pt [(db a2)]), .ptr 3015 0]]), (3515, .map (mapE kI (eL eI) x.2.2))]⟩) hy1 (wc) ?_
  rintro ⟨v18, r1008, r3515⟩ sy1 hsy1
  replace hsy1 : decompose_Text_L0 a1 t12 a2 v18 r1008 r3515 = some sy1 := hsy1
  unfold decompose_Text_L0 at hsy1
  refine avc_sq2 <| avc_sq <| q3 ?_
  refine sq_nil <| avc_sq2 ?_
  refine avc_if rfl ⟨fun c1 => ?_, fun c1 => ?_⟩
  ·
   replace hsy1 := cT c1 hsy1
   refine avc_skip <| avc_sq2 <| avc_block <| avc_sq2 <| avc_sq ?_
   obtain ⟨t20, ht20, hsy1'⟩ := bE hsy1; clear hsy1
   refine sqa (m_index (en := eI) (lq rfl) S33 rfl rfl ht20) ?_
   refine sqa (m_loadE (en := eI) (l := a1) (i := v18) (v := t20) (off := 0) (lq rfl) O3 rfl ht20 rfl) ?_
   refine q1 ?_
   refine sq_nil <| avc_sq <| q7 ?_
   refine sqa (a_move_to (lq rfl) rfl) ?_
   refine q0 ?_
   obtain ⟨t25, ht25, hsy1⟩ := bE hsy1'; clear hsy1'
   refine sq_b rfl (g_callC [(3001, 2515), (3004, 3015), (3120, 3515)] (decompose_expander_1_g _ ht25) (lq rfl) (by decide) rfl ⟨rfl, rfl, rfl, rfl, rfl, trivial⟩ rfl rfl ⟨rfl, rfl, rfl, trivial⟩ rfl rfl rfl (fun _ => rfl) rfl) ?_
   obtain ⟨r1008_2, hr1008_2, hsy1'⟩ := bE hsy1; clear hsy1
   refine sq_b rfl (m_append (en := eI) (l := r1008) (m := t25.1) (lq rfl) S33 rfl rfl rfl hr1008_2 (by decide) (by decide) rfl rfl) ?_
   refine q9 ?_
   refine sq_nil <| avc_sq <| q2 ?_
   refine q0 ?_
   refine sq_nil ?_
   cases hsy1'
   exact wc
  ·
   replace hsy1 := cF c1 hsy1
   refine avc_exit ?_
   cases hsy1
   intro q; cases q
   exact out_mk (wc)
 ·
  refine avc_sq2 <| avc_sq <| q33 L28_0 ?_
  refine q22 O22 ?_
  refine q7 ?_
  refine sq_weak (weak_row_d (t := 30) (lq rfl) rfl rfl) ?_ (by simp)
  obtain ⟨t31, ht31, h⟩ := bE h'; clear h'
  refine sq_b rfl (g_call [(100, 2531)] (ordering_Sort_g ht31) (lq rfl) (by decide) ⟨rfl, rfl, trivial⟩ rfl rfl trivial rfl rfl rfl (fun _ => rfl) rfl) ?_
  refine q9 ?_
  refine sq_nil ?_
  cases h
  refine avc_ret ?_
  exact ⟨⟨_, _, rfl, rfl, rfl⟩, ⟨rfl, trivial⟩⟩
set_option maxHeartbeats 8000000 in
theorem colltable_Elements_c  {a0 : Norm} {a1 : Collation} {a2 : (List Int)}  {r : (List Element)} (h : colltable_Elements a0 a1 a2 = some r) : Contract Tryz.prog 17 [(eNorm.dv a0), (eCollation.dv a1), (dsl eI a2)] [(dsl eElement r)] := by
 refine contract_of Tryz.func17 (by kernel_rfl) rfl (lq rfl) (lq rfl) fun w0 I0 hI0 hG0 => ?_
 unfold colltable_Elements at h
 refine avc_sq2 <| avc_sq ?_
 refine sqa (m_box (size := 3) (lq rfl) rfl rfl) ?_
 refine sqa (m_box (size := 5) (lq rfl) rfl rfl) ?_
 refine q1 ?_
 refine sq_nil <| avc_sq2 ?_
 obtain ⟨t14, ht14, h'⟩ := bE h; clear h
 obtain ⟨t16, ht16, h⟩ := bE h'; clear h'
 refine avc_tail (e := .normal) (S2 := ⟨[(2, .d (dsl eI a2)), (3, .d (.pt (eNorm.cells a0))), (7, .ptr 2514 0)], [(2514, .box 90 [.d (dsl eEntry t16.c.Entries), .d (dsl eGroup t16.c.Groups), .d (di t16.c.Base), .d (di t16.c.Second), .d (di t16.c.Third), .row 3014, .d (di t16.longest), .d (dsl eSpan t16.classes), .d (di t16.top)]), (3014, .map (mapE kA9Int (eL eElement) t16.entries))]⟩) ?_ ?_
 ·
  refine avc_any MX ?_
  refine xn [0,2] ?_
  refine xa rfl (m_loadPt (lq rfl) G32 rfl rfl) ?_ ?_
  ·
   refine xn [1,2] ?_
   refine xb rfl (g_call [(13, 2514), (11, 3014)] (colltable_made_g ht14) (lq rfl) (by decide) ⟨rfl, trivial⟩ rfl rfl trivial rfl rfl rfl (fun _ => rfl) rfl) ?_ ?_
   ·
    refine xn [2] ?_
    refine xc rfl (m_loadPt (lq rfl) G28 rfl rfl) ?_
    refine xn [3] ?_
    refine xd rfl (g_call [(3000, 2514), (3105, 3014)] (colltable_table_with_g ht16) (lq rfl) (by decide) ⟨rfl, rfl, trivial⟩ rfl rfl ⟨rfl, rfl, trivial⟩ rfl rfl rfl (fun _ => rfl) rfl) ?_
    refine xn [4] ?_
    refine xc rfl (a_assign_ptr (lq rfl) rfl) ?_
    exact any_end rfl (out_mk (wc))
   refine xc rfl (m_loadPt (lq rfl) G28 rfl rfl) ?_
   refine xn [1] ?_
   refine xd rfl (g_call [(13, 2514), (11, 3014)] (colltable_made_g ht14) (lq rfl) (by decide) ⟨rfl, trivial⟩ rfl rfl trivial rfl rfl rfl (fun _ => rfl) rfl) ?_
   refine xn [3] ?_
   refine xd rfl (g_call [(3000, 2514), (3105, 3014)] (colltable_table_with_g ht16) (lq rfl) (by decide) ⟨rfl, rfl, trivial⟩ rfl rfl ⟨rfl, rfl, trivial⟩ rfl rfl rfl (fun _ => rfl) rfl) ?_
   refine xn [4] ?_
   refine xc rfl (a_assign_ptr (lq rfl) rfl) ?_
   exact any_end rfl (out_mk (wc))
  refine xc rfl (m_loadPt (lq rfl) G28 rfl rfl) ?_
  refine xn [0] ?_
  refine xc rfl (m_loadPt (lq rfl) G32 rfl rfl) ?_
  refine xn [1] ?_
  refine xd rfl (g_call [(13, 2514), (11, 3014)] (colltable_made_g ht14) (lq rfl) (by decide) ⟨rfl, trivial⟩ rfl rfl trivial rfl rfl rfl (fun _ => rfl) rfl) ?_
  refine xn [3] ?_
  refine xd rfl (g_call [(3000, 2514), (3105, 3014)] (colltable_table_with_g ht16) (lq rfl) (by decide) ⟨rfl, rfl, trivial⟩ rfl rfl ⟨rfl, rfl, trivial⟩ rfl rfl rfl (fun _ => rfl) rfl) ?_
  refine xn [4] ?_
  refine xc rfl (a_assign_ptr (lq rfl) rfl) ?_
  exact any_end rfl (out_mk (wc))
 refine avc_weak (weak_map_box (bid := 2514) (off := 5) rfl rfl rfl) ?_
 refine avc_weak (weak_freeze (t := 7) (lq rfl) rfl rfl rfl) ?_
 refine avc_sq2 <| avc_sq <| q1 ?_
 refine sq_nil ?_
 refine avc_weak (weak_nil (t := 8) 1008 63 eElement.size (lq rfl) (lq rfl) rfl rfl) ?_
 refine avc_sq2 <| avc_sq2 <| avc_sq <| q12 G28 ?_
 refine q0 ?_
 obtain ⟨t19, ht19, h'⟩ := bE h; clear h
 refine sq_b rfl (g_call [(2531, 2519)] (decompose_Text_g ht19) (lq rfl) (by decide) ⟨rfl, rfl, rfl, trivial⟩ rfl rfl trivial rfl rfl rfl (fun _ => rfl) rfl) ?_
 refine q9 ?_
 refine sq_nil ?_
 refine avc_weak (weak_row_win (id := 2519) rfl) ?_
 refine avc_block ?_
 obtain ⟨y1, hy1, h⟩ := bE h'; clear h'
 refine avc_tail (e := (.exit 0)) (S2 := ⟨[(8, .row 1008)], [(1008, .row 63 eElement.size false (eElement.all y1))]⟩) ?_ ?_
 ·
  refine avc_loopM (fun x => ⟨[(7, .d (.pt (eColltable_table.cells t16))), (8, .row 1008), (9, .row 2519)], [(1008, .row 63 eElement.size false (eElement.all x.1)), (2519, .win 3 eI.size 0 (eI.all x.2))]⟩) hy1 (wc) ?_
  rintro ⟨r1008, r2519⟩ sy1 hsy1
  replace hsy1 : colltable_Elements_L0 t16 r1008 r2519 = some sy1 := hsy1
  unfold colltable_Elements_L0 at hsy1
  refine avc_sq2 <| avc_sq2 <| avc_sq <| q7 ?_
  refine sqa (m_lenW (en := eI) (l := r2519) (lq rfl) S33 rfl rfl) ?_
  refine q25 ?_
  refine sq_nil ?_
  refine avc_if rfl ⟨fun c1 => ?_, fun c1 => ?_⟩
  ·
   replace hsy1 := cT c1 hsy1
   refine avc_skip <| avc_block <| avc_sq2 <| avc_sq <| q0 ?_
   refine q7 ?_
   obtain ⟨t26, ht26, hsy1'⟩ := bE hsy1; clear hsy1
   refine sq_b rfl (g_call [(3001, 2519)] (colltable_table_match_g ht26) (lq rfl) (by decide) ⟨rfl, rfl, trivial⟩ rfl rfl ⟨rfl, trivial⟩ rfl rfl rfl (fun _ => rfl) rfl) ?_
   refine sqa (a_move_tupc (lq rfl) rfl) ?_
   refine q40 ?_
   refine q40 ?_
   refine q40 ?_
   refine q1 ?_
   refine q1 ?_
   refine q1 ?_
   refine sq_nil <| avc_sq2 <| avc_sq <| q7 ?_
   refine q0 ?_
   obtain ⟨r1008_2, hr1008_2, hsy1⟩ := bE hsy1'; clear hsy1'
   refine sq_b rfl (m_append (en := eElement) (l := r1008) (m := t26.2.1) (lq rfl) S38 rfl rfl rfl hr1008_2 (by decide) (by decide) rfl rfl) ?_
   refine q9 ?_
   refine sq_nil <| avc_sq <| q7 ?_
   refine q0 ?_
   obtain ⟨r2519_3, hr2519_3, hsy1'⟩ := bE hsy1; clear hsy1
   refine sq_b rfl (m_shrink (en := eI) (l := t26.2.2.2) (lq rfl) S33 rfl rfl rfl hr2519_3 (Nat.le_refl _) rfl) ?_
   refine q9 ?_
   refine sq_nil ?_
   cases hsy1'
   exact wc
  ·
   replace hsy1 := cF c1 hsy1
   refine avc_exit ?_
   cases hsy1
   intro q; cases q
   exact out_mk (wc)
 ·
  refine avc_sq2 <| avc_sq <| q7 ?_
  refine q9 ?_
  refine sq_nil ?_
  cases h
  refine avc_ret ?_
  exact ret_1 rfl
set_option maxRecDepth 40000 in
theorem law43_ColltableRefuses_c  {a0 : Unicodetextlaw43_Case} {a1 : Int}  {r : Bool} (h : law43_ColltableRefuses a0 a1 = some r) : Contract Tryz.prog 5 [(eUnicodetextlaw43_Case.dv a0), (di a1)] [(db r)] := by
 refine contract_of Tryz.func5 (by kernel_rfl) rfl (lq rfl) (lq rfl) fun w0 I0 hI0 hG0 => ?_
 unfold law43_ColltableRefuses at h
 refine avc_sq2 <| avc_sq ?_
 refine sqa (m_box (size := 9) (lq rfl) rfl rfl) ?_
 refine q1 ?_
 refine sq_nil <| avc_sq2 <| avc_sq2 <| avc_sq <| q12 G35 ?_
 obtain ⟨t9, ht9, h'⟩ := bE h; clear h
 refine sqa (a_call (lq rfl) rfl (law43_few_c ht9)) ?_
 refine q16 ?_
 obtain ⟨b11, hb11, h⟩ := bE h'; clear h'
 refine sqa ((a_move_d (lq rfl) rfl).bool (Option.some.inj hb11)) ?_
 refine sqf (.ip (eUnicodetextlaw43_Case.cells a0) (0 + 3)) rfl (fun hb => by subst hb; exact m_fieldPt (lq rfl) L35_1 rfl) ?_
 refine sqf (.d (eCollation.dv a0.C)) rfl (fun hb => by subst hb; exact a_load_ipA (lq rfl) G32 rfl rfl rfl) ?_
 obtain ⟨t14, ht14, h'⟩ := bE h; clear h
 refine sqf (.d (di t14)) rfl (fun hb => by subst hb; exact a_call (lq rfl) rfl (ref43_Check_c ht14)) ?_
 refine sqf (.d (db (decide (t14 = 0)))) rfl (fun hb => by subst hb; exact a_eql (lq rfl) rfl rfl) ?_
 refine q11 ?_
 refine sq_nil ?_
 refine avc_if rfl ⟨fun c1 => ?_, fun c1 => ?_⟩
 ·
  replace h' := cT c1 h'
  refine avc_sq2 <| avc_sq ?_
  obtain ⟨t17, ht17, h⟩ := bE h'; clear h'
  refine sqa (a_call (lq rfl) rfl (law43_alive_c ht17)) ?_
  refine q1 ?_
  refine sq_nil ?_
  cases h
  refine avc_ret ?_
  exact ret_1 rfl
 ·
  replace h' := cF c1 h'
  refine avc_skip <| avc_sq2 <| avc_sq ?_
  refine sqa ((m_build (lq rfl) B32 rfl rfl).nils (bs := eCollation.cells ({ Entries := [], Groups := [], Base := 64448, Second := 32, Third := 2 } : Collation)) (nlN (nlN (nlE (nlE (nlE nl0)))))) ?_
  refine sq_b rfl (step_alloc (zs := [(.slice none 0 0), (.slice none 0 0), (.int IntKind.i64 (0)), (.int IntKind.i64 (0)), (.int IntKind.i64 (0))]) (lq rfl) (by kernel_rfl) rfl rfl) ?_
  refine q10 G32 ?_
  refine sq_nil ?_
  refine avc_weak (weak_freeze (t := 5) (lq rfl) rfl rfl rfl) ?_
  refine avc_sq2 <| avc_sq <| q5 L35_1 ?_
  refine q37 G32 ?_
  refine q0 ?_
  refine q21 S33 ?_
  obtain ⟨t24, ht24, h⟩ := bE h'; clear h'
  refine sqa (a_call (lq rfl) rfl (colltable_Find_c ht24)) ?_
  refine q27 ?_
  refine q13 ?_
  refine q13 ?_
  refine q1 ?_
  refine q1 ?_
  refine sq_nil <| avc_sq2 ?_
  refine avc_drawA MX rfl ?_
  refine q4 ?_
  refine q55 ?_
  obtain ⟨b29, hb29, h'⟩ := bE h; clear h
  refine daa ((a_move_d (lq rfl) rfl).bool (Option.some.inj hb29)) ?_
  refine dat (.ip (eUnicodetextlaw43_Case.cells a0) (0 + 3)) rfl (fun hb => by subst hb; exact m_fieldPt (lq rfl) L35_1 rfl) ?_
  refine dat (.d (eCollation.dv a0.C)) rfl (fun hb => by subst hb; exact a_load_ipA (lq rfl) G32 rfl rfl rfl) ?_
  refine dat (.d (di a1)) rfl (fun hb => by subst hb; exact a_move_d (lq rfl) rfl) ?_
  obtain ⟨t33, ht33, h⟩ := bE h'; clear h'
  refine dat (.d (dsl eElement t33)) rfl (fun hb => by subst hb; exact a_call (lq rfl) rfl (colltable_Implicit_c ht33)) ?_
  refine dat (.d (eCollation.dv ({ Entries := [], Groups := [], Base := 64448, Second := 32, Third := 2 } : Collation))) rfl (fun hb => by subst hb; exact m_loadPt (lq rfl) G32 rfl rfl) ?_
  refine dat (.d (di a1)) rfl (fun hb => by subst hb; exact a_move_d (lq rfl) rfl) ?_
  obtain ⟨t36, ht36, h'⟩ := bE h; clear h
  refine dat (.d (dsl eElement t36)) rfl (fun hb => by subst hb; exact a_call (lq rfl) rfl (colltable_Implicit_c ht36)) ?_
  obtain ⟨t37, ht37, h⟩ := bE h'; clear h'
  refine dat (.d (db t37)) rfl (fun hb => by subst hb; exact a_call (lq rfl) rfl (ref43_Same_c ht37)) ?_
  refine q30 ?_
  obtain ⟨b39, hb39, h'⟩ := bE h; clear h
  refine daa ((a_move_d (lq rfl) rfl).bool (Option.some.inj hb39)) ?_
  refine dat (.ip (eUnicodetextlaw43_Case.cells a0) (0 + 0)) rfl (fun hb => by subst hb; exact m_fieldPt (lq rfl) L35_0 rfl) ?_
  refine dat (.d (eNorm.dv a0.N)) rfl (fun hb => by subst hb; exact a_load_ipA (lq rfl) G28 rfl rfl rfl) ?_
  refine dat (.ip (eUnicodetextlaw43_Case.cells a0) (0 + 3)) rfl (fun hb => by subst hb; exact m_fieldPt (lq rfl) L35_1 rfl) ?_
  refine dat (.d (eCollation.dv a0.C)) rfl (fun hb => by subst hb; exact a_load_ipA (lq rfl) G32 rfl rfl rfl) ?_
  refine dat (.ip (eUnicodetextlaw43_Case.cells a0) (0 + 8)) rfl (fun hb => by subst hb; exact m_fieldPt (lq rfl) L35_2 rfl) ?_
  refine dat (.d (dsl eI a0.Text)) rfl (fun hb => by subst hb; exact a_load_ip (lq rfl) O33 rfl rfl) ?_
  obtain ⟨t46, ht46, h⟩ := bE h'; clear h'
  refine dat (.d (dsl eElement t46)) rfl (fun hb => by subst hb; exact a_call (lq rfl) rfl (colltable_Elements_c ht46)) ?_
  refine dat (.ip (eUnicodetextlaw43_Case.cells a0) (0 + 0)) rfl (fun hb => by subst hb; exact m_fieldPt (lq rfl) L35_0 rfl) ?_
  refine dat (.d (eNorm.dv a0.N)) rfl (fun hb => by subst hb; exact a_load_ipA (lq rfl) G28 rfl rfl rfl) ?_
  refine dat (.d (eCollation.dv ({ Entries := [], Groups := [], Base := 64448, Second := 32, Third := 2 } : Collation))) rfl (fun hb => by subst hb; exact m_loadPt (lq rfl) G32 rfl rfl) ?_
  refine dat (.ip (eUnicodetextlaw43_Case.cells a0) (0 + 8)) rfl (fun hb => by subst hb; exact m_fieldPt (lq rfl) L35_2 rfl) ?_
  refine dat (.d (dsl eI a0.Text)) rfl (fun hb => by subst hb; exact a_load_ip (lq rfl) O33 rfl rfl) ?_
  obtain ⟨t52, ht52, h'⟩ := bE h; clear h
  refine dat (.d (dsl eElement t52)) rfl (fun hb => by subst hb; exact a_call (lq rfl) rfl (colltable_Elements_c ht52)) ?_
  obtain ⟨t53, ht53, h⟩ := bE h'; clear h'
  refine dat (.d (db t53)) rfl (fun hb => by subst hb; exact a_call (lq rfl) rfl (ref43_Same_c ht53)) ?_
  refine q30 ?_
  obtain ⟨b55, hb55, h'⟩ := bE h; clear h
  refine daa ((a_move_d (lq rfl) rfl).bool (Option.some.inj hb55)) ?_
  obtain ⟨t56, ht56, h⟩ := bE h'; clear h'
  refine dat (.d (db t56)) rfl (fun hb => by subst hb; exact a_call (lq rfl) rfl (law43_alive_c ht56)) ?_
  refine q30 ?_
  refine q18 ?_
  refine da_nil ?_
  cases h
  refine avc_ret ?_
  exact ret_1 rfl
end Go.Proofs.YtgeaoceiacdadaaGreatDoor.Walk


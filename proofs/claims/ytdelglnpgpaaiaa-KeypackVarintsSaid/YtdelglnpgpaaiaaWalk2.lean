/- The layer of abstract values: what a temporary holds, said once; every rule of it is proved from the model. Conditions: none. -/
import Derived.Test.YtdelglnpgpaaiaaWalk1
set_option linter.unusedSimpArgs false
set_option linter.unusedVariables false
set_option linter.unnecessarySimpa false
namespace Go.Proofs.Ytdelglnpgpaaiaa.Walk
open Go.AV Go.RowKit Go.Proofs Go.Plain
theorem common_c (m : Int)  : Contract Try.prog 19 [di m] [di (common m)] := by
  refine contract_of Try.func19 (by kernel_rfl) rfl (lq rfl) (lq rfl) fun w0 I0 => ?_
  refine avc_sq2 ?_
  refine avc_sq ?_
  refine sq_a (ag_plain rfl (a_assign_d (lq rfl) rfl)) ?_
  refine sq_nil ?_
  refine avc_sq2 ?_
  refine avc_sq2 ?_
  refine avc_sq ?_
  first | refine sq_a (ag_plain rfl (a_move_d (lq rfl) rfl)) ?_ | refine sq_a (ag_plain rfl (a_move_row (lq rfl) rfl)) ?_ | refine sq_a (ag_plain rfl (a_move_ptr (lq rfl) rfl)) ?_ | refine sq_a (ag_plain rfl (a_move_ip (lq rfl) rfl)) ?_ | refine sq_a (ag_plain rfl (a_move_tup (lq rfl) rfl)) ?_
  refine sq_a (ag_plain rfl (a_lss (lq rfl) rfl rfl)) ?_
  first | refine sq_a (ag_plain rfl (a_move_d (lq rfl) rfl)) ?_ | refine sq_a (ag_plain rfl (a_move_row (lq rfl) rfl)) ?_ | refine sq_a (ag_plain rfl (a_move_ptr (lq rfl) rfl)) ?_ | refine sq_a (ag_plain rfl (a_move_ip (lq rfl) rfl)) ?_ | refine sq_a (ag_plain rfl (a_move_tup (lq rfl) rfl)) ?_
  first | (apply sq_g rfl rfl rfl (lq rfl) (lq rfl) rfl; focus (intro hb; simp only [gd, Bool.not_eq_true'] at hb; (try rw [hb]); (try simp only [decide_eq_true_eq, decide_eq_false_iff_not, Bool.and_eq_true, Bool.or_eq_false_iff, Bool.not_eq_true'] at hb); first | exact a_move_d (lq rfl) rfl | exact a_move_row (lq rfl) rfl | exact a_move_ptr (lq rfl) rfl | exact a_move_ip (lq rfl) rfl | exact a_move_tup (lq rfl) rfl)) | (apply sq_g2 rfl rfl rfl (lq rfl) (lq rfl) rfl; focus (intro hb; simp only [gd, Bool.and_eq_true, Bool.not_eq_true'] at hb; (try rw [hb.1]); (try rw [hb.2]); (try simp only [decide_eq_true_eq, decide_eq_false_iff_not, Bool.and_eq_true, Bool.or_eq_false_iff, Bool.not_eq_true'] at hb); first | exact a_move_d (lq rfl) rfl | exact a_move_row (lq rfl) rfl | exact a_move_ptr (lq rfl) rfl | exact a_move_ip (lq rfl) rfl | exact a_move_tup (lq rfl) rfl))
  first | (apply sq_g rfl rfl rfl (lq rfl) (lq rfl) rfl; focus (intro hb; simp only [gd, Bool.not_eq_true'] at hb; (try rw [hb]); (try simp only [decide_eq_true_eq, decide_eq_false_iff_not, Bool.and_eq_true, Bool.or_eq_false_iff, Bool.not_eq_true'] at hb); exact a_gtr (lq rfl) rfl rfl)) | (apply sq_g2 rfl rfl rfl (lq rfl) (lq rfl) rfl; focus (intro hb; simp only [gd, Bool.and_eq_true, Bool.not_eq_true'] at hb; (try rw [hb.1]); (try rw [hb.2]); (try simp only [decide_eq_true_eq, decide_eq_false_iff_not, Bool.and_eq_true, Bool.or_eq_false_iff, Bool.not_eq_true'] at hb); exact a_gtr (lq rfl) rfl rfl))
  first | refine sq_a (ag_plain rfl (a_pick_or (lq rfl) rfl rfl)) ?_ | refine sq_a (ag_plain rfl (a_pick_td (lq rfl) rfl rfl)) ?_ | refine sq_a (ag_plain rfl (a_pick_fd (lq rfl) rfl rfl)) ?_
  refine sq_nil ?_
  refine avc_if rfl ⟨fun hc0 => ?_, fun hc0 => ?_⟩
  ·
    try simp only [Bool.and_eq_true, Bool.or_eq_true, Bool.not_eq_true', Bool.and_eq_false_iff, Bool.or_eq_false_iff, Bool.not_eq_false', decide_eq_true_eq, decide_eq_false_iff_not, Int.not_lt, Int.not_le] at hc0
    refine avc_sq2 ?_
    refine avc_sq ?_
    refine sq_a (ag_plain rfl (a_assign_d (lq rfl) rfl)) ?_
    refine sq_nil ?_
    refine avc_ret ?_
    exact ret_int rfl (by simp only [common]; rw [if_pos (by omega)])
  ·
    try simp only [Bool.and_eq_true, Bool.or_eq_true, Bool.not_eq_true', Bool.and_eq_false_iff, Bool.or_eq_false_iff, Bool.not_eq_false', decide_eq_true_eq, decide_eq_false_iff_not, Int.not_lt, Int.not_le] at hc0
    refine avc_skip ?_
    refine avc_sq2 ?_
    refine avc_sq ?_
    first | refine sq_a (ag_plain rfl (a_move_d (lq rfl) rfl)) ?_ | refine sq_a (ag_plain rfl (a_move_row (lq rfl) rfl)) ?_ | refine sq_a (ag_plain rfl (a_move_ptr (lq rfl) rfl)) ?_ | refine sq_a (ag_plain rfl (a_move_ip (lq rfl) rfl)) ?_ | refine sq_a (ag_plain rfl (a_move_tup (lq rfl) rfl)) ?_
    first | refine sq_a (ag_plain rfl (a_assign_d (lq rfl) rfl)) ?_ | refine sq_a (ag_plain rfl (a_assign_row (lq rfl) rfl)) ?_ | refine sq_a (ag_plain rfl (a_assign_ptr (lq rfl) rfl)) ?_
    refine sq_nil ?_
    refine avc_ret ?_
    exact ret_int rfl (by simp only [common]; rw [if_neg (by omega)])

theorem refCommon_c (m : Int)  : Contract Try.prog 22 [di m] [di (common m)] := by
  refine contract_of Try.func22 (by kernel_rfl) rfl (lq rfl) (lq rfl) fun w0 I0 => ?_
  refine avc_sq2 ?_
  refine avc_sq ?_
  refine sq_a (ag_plain rfl (a_assign_d (lq rfl) rfl)) ?_
  refine sq_nil ?_
  refine avc_sq2 ?_
  refine avc_sq2 ?_
  refine avc_sq ?_
  first | refine sq_a (ag_plain rfl (a_move_d (lq rfl) rfl)) ?_ | refine sq_a (ag_plain rfl (a_move_row (lq rfl) rfl)) ?_ | refine sq_a (ag_plain rfl (a_move_ptr (lq rfl) rfl)) ?_ | refine sq_a (ag_plain rfl (a_move_ip (lq rfl) rfl)) ?_ | refine sq_a (ag_plain rfl (a_move_tup (lq rfl) rfl)) ?_
  refine sq_a (ag_plain rfl (a_lss (lq rfl) rfl rfl)) ?_
  first | refine sq_a (ag_plain rfl (a_move_d (lq rfl) rfl)) ?_ | refine sq_a (ag_plain rfl (a_move_row (lq rfl) rfl)) ?_ | refine sq_a (ag_plain rfl (a_move_ptr (lq rfl) rfl)) ?_ | refine sq_a (ag_plain rfl (a_move_ip (lq rfl) rfl)) ?_ | refine sq_a (ag_plain rfl (a_move_tup (lq rfl) rfl)) ?_
  first | (apply sq_g rfl rfl rfl (lq rfl) (lq rfl) rfl; focus (intro hb; simp only [gd, Bool.not_eq_true'] at hb; (try rw [hb]); (try simp only [decide_eq_true_eq, decide_eq_false_iff_not, Bool.and_eq_true, Bool.or_eq_false_iff, Bool.not_eq_true'] at hb); first | exact a_move_d (lq rfl) rfl | exact a_move_row (lq rfl) rfl | exact a_move_ptr (lq rfl) rfl | exact a_move_ip (lq rfl) rfl | exact a_move_tup (lq rfl) rfl)) | (apply sq_g2 rfl rfl rfl (lq rfl) (lq rfl) rfl; focus (intro hb; simp only [gd, Bool.and_eq_true, Bool.not_eq_true'] at hb; (try rw [hb.1]); (try rw [hb.2]); (try simp only [decide_eq_true_eq, decide_eq_false_iff_not, Bool.and_eq_true, Bool.or_eq_false_iff, Bool.not_eq_true'] at hb); first | exact a_move_d (lq rfl) rfl | exact a_move_row (lq rfl) rfl | exact a_move_ptr (lq rfl) rfl | exact a_move_ip (lq rfl) rfl | exact a_move_tup (lq rfl) rfl))
  first | (apply sq_g rfl rfl rfl (lq rfl) (lq rfl) rfl; focus (intro hb; simp only [gd, Bool.not_eq_true'] at hb; (try rw [hb]); (try simp only [decide_eq_true_eq, decide_eq_false_iff_not, Bool.and_eq_true, Bool.or_eq_false_iff, Bool.not_eq_true'] at hb); exact a_gtr (lq rfl) rfl rfl)) | (apply sq_g2 rfl rfl rfl (lq rfl) (lq rfl) rfl; focus (intro hb; simp only [gd, Bool.and_eq_true, Bool.not_eq_true'] at hb; (try rw [hb.1]); (try rw [hb.2]); (try simp only [decide_eq_true_eq, decide_eq_false_iff_not, Bool.and_eq_true, Bool.or_eq_false_iff, Bool.not_eq_true'] at hb); exact a_gtr (lq rfl) rfl rfl))
  first | refine sq_a (ag_plain rfl (a_pick_or (lq rfl) rfl rfl)) ?_ | refine sq_a (ag_plain rfl (a_pick_td (lq rfl) rfl rfl)) ?_ | refine sq_a (ag_plain rfl (a_pick_fd (lq rfl) rfl rfl)) ?_
  refine sq_nil ?_
  refine avc_if rfl ⟨fun hc0 => ?_, fun hc0 => ?_⟩
  ·
    try simp only [Bool.and_eq_true, Bool.or_eq_true, Bool.not_eq_true', Bool.and_eq_false_iff, Bool.or_eq_false_iff, Bool.not_eq_false', decide_eq_true_eq, decide_eq_false_iff_not, Int.not_lt, Int.not_le] at hc0
    refine avc_sq2 ?_
    refine avc_sq ?_
    refine sq_a (ag_plain rfl (a_assign_d (lq rfl) rfl)) ?_
    refine sq_nil ?_
    refine avc_ret ?_
    exact ret_int rfl (by simp only [common]; rw [if_pos (by omega)])
  ·
    try simp only [Bool.and_eq_true, Bool.or_eq_true, Bool.not_eq_true', Bool.and_eq_false_iff, Bool.or_eq_false_iff, Bool.not_eq_false', decide_eq_true_eq, decide_eq_false_iff_not, Int.not_lt, Int.not_le] at hc0
    refine avc_skip ?_
    refine avc_sq2 ?_
    refine avc_sq ?_
    first | refine sq_a (ag_plain rfl (a_move_d (lq rfl) rfl)) ?_ | refine sq_a (ag_plain rfl (a_move_row (lq rfl) rfl)) ?_ | refine sq_a (ag_plain rfl (a_move_ptr (lq rfl) rfl)) ?_ | refine sq_a (ag_plain rfl (a_move_ip (lq rfl) rfl)) ?_ | refine sq_a (ag_plain rfl (a_move_tup (lq rfl) rfl)) ?_
    first | refine sq_a (ag_plain rfl (a_assign_d (lq rfl) rfl)) ?_ | refine sq_a (ag_plain rfl (a_assign_row (lq rfl) rfl)) ?_ | refine sq_a (ag_plain rfl (a_assign_ptr (lq rfl) rfl)) ?_
    refine sq_nil ?_
    refine avc_ret ?_
    exact ret_int rfl (by simp only [common]; rw [if_neg (by omega)])

theorem expand_c (x m : Int) (hm0 : 1 ≤ m) (hm1 : m ≤ 65535) : Contract Try.prog 23 [di x, di m] [di (exV x m), di (exN x m), db (exOk x)] := by
  refine contract_of Try.func23 (by kernel_rfl) rfl (lq rfl) (lq rfl) fun w0 I0 => ?_
  refine avc_sq2 ?_
  refine avc_sq ?_
  refine sq_a (ag_plain rfl (a_assign_d (lq rfl) rfl)) ?_
  refine sq_a (ag_plain rfl (a_assign_d (lq rfl) rfl)) ?_
  refine sq_a (ag_plain rfl (a_assign_d (lq rfl) rfl)) ?_
  refine sq_nil ?_
  refine avc_sq2 ?_
  refine avc_block ?_
  refine avc_sq2 ?_
  refine avc_sq ?_
  first | refine sq_a (ag_plain rfl (a_move_d (lq rfl) rfl)) ?_ | refine sq_a (ag_plain rfl (a_move_row (lq rfl) rfl)) ?_ | refine sq_a (ag_plain rfl (a_move_ptr (lq rfl) rfl)) ?_ | refine sq_a (ag_plain rfl (a_move_ip (lq rfl) rfl)) ?_ | refine sq_a (ag_plain rfl (a_move_tup (lq rfl) rfl)) ?_
  refine sq_a (ag_plain rfl (a_lss (lq rfl) rfl rfl)) ?_
  first | refine sq_a (ag_plain rfl (a_move_d (lq rfl) rfl)) ?_ | refine sq_a (ag_plain rfl (a_move_row (lq rfl) rfl)) ?_ | refine sq_a (ag_plain rfl (a_move_ptr (lq rfl) rfl)) ?_ | refine sq_a (ag_plain rfl (a_move_ip (lq rfl) rfl)) ?_ | refine sq_a (ag_plain rfl (a_move_tup (lq rfl) rfl)) ?_
  first | (apply sq_g rfl rfl rfl (lq rfl) (lq rfl) rfl; focus (intro hb; simp only [gd, Bool.not_eq_true'] at hb; (try rw [hb]); (try simp only [decide_eq_true_eq, decide_eq_false_iff_not, Bool.and_eq_true, Bool.or_eq_false_iff, Bool.not_eq_true'] at hb); first | exact a_move_d (lq rfl) rfl | exact a_move_row (lq rfl) rfl | exact a_move_ptr (lq rfl) rfl | exact a_move_ip (lq rfl) rfl | exact a_move_tup (lq rfl) rfl)) | (apply sq_g2 rfl rfl rfl (lq rfl) (lq rfl) rfl; focus (intro hb; simp only [gd, Bool.and_eq_true, Bool.not_eq_true'] at hb; (try rw [hb.1]); (try rw [hb.2]); (try simp only [decide_eq_true_eq, decide_eq_false_iff_not, Bool.and_eq_true, Bool.or_eq_false_iff, Bool.not_eq_true'] at hb); first | exact a_move_d (lq rfl) rfl | exact a_move_row (lq rfl) rfl | exact a_move_ptr (lq rfl) rfl | exact a_move_ip (lq rfl) rfl | exact a_move_tup (lq rfl) rfl))
  first | (apply sq_g rfl rfl rfl (lq rfl) (lq rfl) rfl; focus (intro hb; simp only [gd, Bool.not_eq_true'] at hb; (try rw [hb]); (try simp only [decide_eq_true_eq, decide_eq_false_iff_not, Bool.and_eq_true, Bool.or_eq_false_iff, Bool.not_eq_true'] at hb); exact a_gtr (lq rfl) rfl rfl)) | (apply sq_g2 rfl rfl rfl (lq rfl) (lq rfl) rfl; focus (intro hb; simp only [gd, Bool.and_eq_true, Bool.not_eq_true'] at hb; (try rw [hb.1]); (try rw [hb.2]); (try simp only [decide_eq_true_eq, decide_eq_false_iff_not, Bool.and_eq_true, Bool.or_eq_false_iff, Bool.not_eq_true'] at hb); exact a_gtr (lq rfl) rfl rfl))
  first | refine sq_a (ag_plain rfl (a_pick_or (lq rfl) rfl rfl)) ?_ | refine sq_a (ag_plain rfl (a_pick_td (lq rfl) rfl rfl)) ?_ | refine sq_a (ag_plain rfl (a_pick_fd (lq rfl) rfl rfl)) ?_
  first | refine sq_a (ag_plain rfl (a_assign_d (lq rfl) rfl)) ?_ | refine sq_a (ag_plain rfl (a_assign_row (lq rfl) rfl)) ?_ | refine sq_a (ag_plain rfl (a_assign_ptr (lq rfl) rfl)) ?_
  refine sq_nil ?_
  refine avc_if rfl ⟨fun hc0 => ?_, fun hc0 => ?_⟩
  ·
    try simp only [Bool.and_eq_true, Bool.or_eq_true, Bool.not_eq_true', Bool.and_eq_false_iff, Bool.or_eq_false_iff, Bool.not_eq_false', decide_eq_true_eq, decide_eq_false_iff_not, Int.not_lt, Int.not_le] at hc0
    refine avc_sq2 ?_
    refine avc_sq ?_
    refine sq_a (ag_plain rfl (a_assign_d (lq rfl) rfl)) ?_
    refine sq_a (ag_plain rfl (a_assign_d (lq rfl) rfl)) ?_
    refine sq_a (ag_plain rfl (a_assign_d (lq rfl) rfl)) ?_
    refine sq_nil ?_
    refine avc_ret ?_
    have q := ex0 (x := x) (m := m) (by omega)
    exact ret_three (rd q.1) (rd q.2.1) (rb q.2.2)
  ·
    try simp only [Bool.and_eq_true, Bool.or_eq_true, Bool.not_eq_true', Bool.and_eq_false_iff, Bool.or_eq_false_iff, Bool.not_eq_false', decide_eq_true_eq, decide_eq_false_iff_not, Int.not_lt, Int.not_le] at hc0
    refine avc_sq2 ?_
    refine avc_sq ?_
    first | refine sq_a (ag_plain rfl (a_move_d (lq rfl) rfl)) ?_ | refine sq_a (ag_plain rfl (a_move_row (lq rfl) rfl)) ?_ | refine sq_a (ag_plain rfl (a_move_ptr (lq rfl) rfl)) ?_ | refine sq_a (ag_plain rfl (a_move_ip (lq rfl) rfl)) ?_ | refine sq_a (ag_plain rfl (a_move_tup (lq rfl) rfl)) ?_
    first | refine sq_a (ag_plain rfl (a_move_d (lq rfl) rfl)) ?_ | refine sq_a (ag_plain rfl (a_move_row (lq rfl) rfl)) ?_ | refine sq_a (ag_plain rfl (a_move_ptr (lq rfl) rfl)) ?_ | refine sq_a (ag_plain rfl (a_move_ip (lq rfl) rfl)) ?_ | refine sq_a (ag_plain rfl (a_move_tup (lq rfl) rfl)) ?_
    refine sq_a (ag_plain rfl (a_lss (lq rfl) rfl rfl)) ?_
    first | refine sq_a (ag_plain rfl (a_assign_d (lq rfl) rfl)) ?_ | refine sq_a (ag_plain rfl (a_assign_row (lq rfl) rfl)) ?_ | refine sq_a (ag_plain rfl (a_assign_ptr (lq rfl) rfl)) ?_
    refine sq_nil ?_
    refine avc_if rfl ⟨fun hc1 => ?_, fun hc1 => ?_⟩
    ·
      try simp only [Bool.and_eq_true, Bool.or_eq_true, Bool.not_eq_true', Bool.and_eq_false_iff, Bool.or_eq_false_iff, Bool.not_eq_false', decide_eq_true_eq, decide_eq_false_iff_not, Int.not_lt, Int.not_le] at hc1
      refine avc_sq2 ?_
      refine avc_sq ?_
      first | refine sq_a (ag_plain rfl (a_move_d (lq rfl) rfl)) ?_ | refine sq_a (ag_plain rfl (a_move_row (lq rfl) rfl)) ?_ | refine sq_a (ag_plain rfl (a_move_ptr (lq rfl) rfl)) ?_ | refine sq_a (ag_plain rfl (a_move_ip (lq rfl) rfl)) ?_ | refine sq_a (ag_plain rfl (a_move_tup (lq rfl) rfl)) ?_
      first | refine sq_a (ag_plain rfl (a_assign_d (lq rfl) rfl)) ?_ | refine sq_a (ag_plain rfl (a_assign_row (lq rfl) rfl)) ?_ | refine sq_a (ag_plain rfl (a_assign_ptr (lq rfl) rfl)) ?_
      refine sq_a (ag_plain rfl (a_assign_d (lq rfl) rfl)) ?_
      refine sq_a (ag_plain rfl (a_assign_d (lq rfl) rfl)) ?_
      refine sq_nil ?_
      refine avc_ret ?_
      have q := ex1 (x := x) (m := m) (by omega) (by omega)
      exact ret_three (rd q.1) (rd q.2.1) (rb q.2.2)
    ·
      try simp only [Bool.and_eq_true, Bool.or_eq_true, Bool.not_eq_true', Bool.and_eq_false_iff, Bool.or_eq_false_iff, Bool.not_eq_false', decide_eq_true_eq, decide_eq_false_iff_not, Int.not_lt, Int.not_le] at hc1
      refine avc_sq2 ?_
      refine avc_sq ?_
      first | refine sq_a (ag_plain rfl (a_move_d (lq rfl) rfl)) ?_ | refine sq_a (ag_plain rfl (a_move_row (lq rfl) rfl)) ?_ | refine sq_a (ag_plain rfl (a_move_ptr (lq rfl) rfl)) ?_ | refine sq_a (ag_plain rfl (a_move_ip (lq rfl) rfl)) ?_ | refine sq_a (ag_plain rfl (a_move_tup (lq rfl) rfl)) ?_
      first | refine sq_a (ag_plain rfl (a_move_d (lq rfl) rfl)) ?_ | refine sq_a (ag_plain rfl (a_move_row (lq rfl) rfl)) ?_ | refine sq_a (ag_plain rfl (a_move_ptr (lq rfl) rfl)) ?_ | refine sq_a (ag_plain rfl (a_move_ip (lq rfl) rfl)) ?_ | refine sq_a (ag_plain rfl (a_move_tup (lq rfl) rfl)) ?_
      refine sq_a (ag_plain rfl (a_add (lq rfl) rfl rfl (w64 (by omega) (by omega)))) ?_
      refine sq_a (ag_plain rfl (a_lss (lq rfl) rfl rfl)) ?_
      first | refine sq_a (ag_plain rfl (a_assign_d (lq rfl) rfl)) ?_ | refine sq_a (ag_plain rfl (a_assign_row (lq rfl) rfl)) ?_ | refine sq_a (ag_plain rfl (a_assign_ptr (lq rfl) rfl)) ?_
      refine sq_nil ?_
      refine avc_if rfl ⟨fun hc2 => ?_, fun hc2 => ?_⟩
      ·
        try simp only [Bool.and_eq_true, Bool.or_eq_true, Bool.not_eq_true', Bool.and_eq_false_iff, Bool.or_eq_false_iff, Bool.not_eq_false', decide_eq_true_eq, decide_eq_false_iff_not, Int.not_lt, Int.not_le] at hc2
        refine avc_sq2 ?_
        refine avc_sq ?_
        first | refine sq_a (ag_plain rfl (a_move_d (lq rfl) rfl)) ?_ | refine sq_a (ag_plain rfl (a_move_row (lq rfl) rfl)) ?_ | refine sq_a (ag_plain rfl (a_move_ptr (lq rfl) rfl)) ?_ | refine sq_a (ag_plain rfl (a_move_ip (lq rfl) rfl)) ?_ | refine sq_a (ag_plain rfl (a_move_tup (lq rfl) rfl)) ?_
        first | refine sq_a (ag_plain rfl (a_move_d (lq rfl) rfl)) ?_ | refine sq_a (ag_plain rfl (a_move_row (lq rfl) rfl)) ?_ | refine sq_a (ag_plain rfl (a_move_ptr (lq rfl) rfl)) ?_ | refine sq_a (ag_plain rfl (a_move_ip (lq rfl) rfl)) ?_ | refine sq_a (ag_plain rfl (a_move_tup (lq rfl) rfl)) ?_
        first | refine sq_a (ag_plain rfl (a_move_d (lq rfl) rfl)) ?_ | refine sq_a (ag_plain rfl (a_move_row (lq rfl) rfl)) ?_ | refine sq_a (ag_plain rfl (a_move_ptr (lq rfl) rfl)) ?_ | refine sq_a (ag_plain rfl (a_move_ip (lq rfl) rfl)) ?_ | refine sq_a (ag_plain rfl (a_move_tup (lq rfl) rfl)) ?_
        refine sq_a (ag_plain rfl (a_sub (lq rfl) rfl rfl (w64 (by omega) (by omega)))) ?_
        refine sq_a (ag_plain rfl (a_add (lq rfl) rfl rfl (w64 (by omega) (by omega)))) ?_
        first | refine sq_a (ag_plain rfl (a_assign_d (lq rfl) rfl)) ?_ | refine sq_a (ag_plain rfl (a_assign_row (lq rfl) rfl)) ?_ | refine sq_a (ag_plain rfl (a_assign_ptr (lq rfl) rfl)) ?_
        first | refine sq_a (ag_plain rfl (a_assign_d (lq rfl) rfl)) ?_ | refine sq_a (ag_plain rfl (a_assign_row (lq rfl) rfl)) ?_ | refine sq_a (ag_plain rfl (a_assign_ptr (lq rfl) rfl)) ?_
        refine sq_a (ag_plain rfl (a_assign_d (lq rfl) rfl)) ?_
        refine sq_nil ?_
        refine avc_ret ?_
        have q := ex2 (x := x) (m := m) (by omega) (by omega) (by omega)
        exact ret_three (rd q.1) (rd q.2.1) (rb q.2.2)
      ·
        try simp only [Bool.and_eq_true, Bool.or_eq_true, Bool.not_eq_true', Bool.and_eq_false_iff, Bool.or_eq_false_iff, Bool.not_eq_false', decide_eq_true_eq, decide_eq_false_iff_not, Int.not_lt, Int.not_le] at hc2
        refine avc_sq2 ?_
        refine avc_sq ?_
        first | refine sq_a (ag_plain rfl (a_move_d (lq rfl) rfl)) ?_ | refine sq_a (ag_plain rfl (a_move_row (lq rfl) rfl)) ?_ | refine sq_a (ag_plain rfl (a_move_ptr (lq rfl) rfl)) ?_ | refine sq_a (ag_plain rfl (a_move_ip (lq rfl) rfl)) ?_ | refine sq_a (ag_plain rfl (a_move_tup (lq rfl) rfl)) ?_
        first | refine sq_a (ag_plain rfl (a_move_d (lq rfl) rfl)) ?_ | refine sq_a (ag_plain rfl (a_move_row (lq rfl) rfl)) ?_ | refine sq_a (ag_plain rfl (a_move_ptr (lq rfl) rfl)) ?_ | refine sq_a (ag_plain rfl (a_move_ip (lq rfl) rfl)) ?_ | refine sq_a (ag_plain rfl (a_move_tup (lq rfl) rfl)) ?_
        refine sq_a (ag_plain rfl (a_add (lq rfl) rfl rfl (w64 (by omega) (by omega)))) ?_
        refine sq_a (ag_plain rfl (a_leq (lq rfl) rfl rfl)) ?_
        first | refine sq_a (ag_plain rfl (a_assign_d (lq rfl) rfl)) ?_ | refine sq_a (ag_plain rfl (a_assign_row (lq rfl) rfl)) ?_ | refine sq_a (ag_plain rfl (a_assign_ptr (lq rfl) rfl)) ?_
        refine sq_nil ?_
        refine avc_if rfl ⟨fun hc3 => ?_, fun hc3 => ?_⟩
        ·
          try simp only [Bool.and_eq_true, Bool.or_eq_true, Bool.not_eq_true', Bool.and_eq_false_iff, Bool.or_eq_false_iff, Bool.not_eq_false', decide_eq_true_eq, decide_eq_false_iff_not, Int.not_lt, Int.not_le] at hc3
          refine avc_sq2 ?_
          refine avc_sq ?_
          first | refine sq_a (ag_plain rfl (a_move_d (lq rfl) rfl)) ?_ | refine sq_a (ag_plain rfl (a_move_row (lq rfl) rfl)) ?_ | refine sq_a (ag_plain rfl (a_move_ptr (lq rfl) rfl)) ?_ | refine sq_a (ag_plain rfl (a_move_ip (lq rfl) rfl)) ?_ | refine sq_a (ag_plain rfl (a_move_tup (lq rfl) rfl)) ?_
          first | refine sq_a (ag_plain rfl (a_move_d (lq rfl) rfl)) ?_ | refine sq_a (ag_plain rfl (a_move_row (lq rfl) rfl)) ?_ | refine sq_a (ag_plain rfl (a_move_ptr (lq rfl) rfl)) ?_ | refine sq_a (ag_plain rfl (a_move_ip (lq rfl) rfl)) ?_ | refine sq_a (ag_plain rfl (a_move_tup (lq rfl) rfl)) ?_
          refine sq_a (ag_plain rfl (a_add (lq rfl) rfl rfl (w64 (by omega) (by omega)))) ?_
          refine sq_a (ag_plain rfl (a_sub (lq rfl) rfl rfl (w64 (by omega) (by omega)))) ?_
          first | refine sq_a (ag_plain rfl (a_move_d (lq rfl) rfl)) ?_ | refine sq_a (ag_plain rfl (a_move_row (lq rfl) rfl)) ?_ | refine sq_a (ag_plain rfl (a_move_ptr (lq rfl) rfl)) ?_ | refine sq_a (ag_plain rfl (a_move_ip (lq rfl) rfl)) ?_ | refine sq_a (ag_plain rfl (a_move_tup (lq rfl) rfl)) ?_
          refine sq_a (ag_plain rfl (a_sub (lq rfl) rfl rfl (w64 (by omega) (by omega)))) ?_
          first | refine sq_a (ag_plain rfl (a_assign_d (lq rfl) rfl)) ?_ | refine sq_a (ag_plain rfl (a_assign_row (lq rfl) rfl)) ?_ | refine sq_a (ag_plain rfl (a_assign_ptr (lq rfl) rfl)) ?_
          first | refine sq_a (ag_plain rfl (a_assign_d (lq rfl) rfl)) ?_ | refine sq_a (ag_plain rfl (a_assign_row (lq rfl) rfl)) ?_ | refine sq_a (ag_plain rfl (a_assign_ptr (lq rfl) rfl)) ?_
          refine sq_a (ag_plain rfl (a_assign_d (lq rfl) rfl)) ?_
          refine sq_nil ?_
          refine avc_ret ?_
          have q := ex3 (x := x) (m := m) (by omega) (by omega) (by omega) (by omega)
          exact ret_three (rd q.1) (rd q.2.1) (rb q.2.2)
        ·
          try simp only [Bool.and_eq_true, Bool.or_eq_true, Bool.not_eq_true', Bool.and_eq_false_iff, Bool.or_eq_false_iff, Bool.not_eq_false', decide_eq_true_eq, decide_eq_false_iff_not, Int.not_lt, Int.not_le] at hc3
          refine avc_skip ?_
          refine avc_sq2 ?_
          refine avc_sq ?_
          first | refine sq_a (ag_plain rfl (a_move_d (lq rfl) rfl)) ?_ | refine sq_a (ag_plain rfl (a_move_row (lq rfl) rfl)) ?_ | refine sq_a (ag_plain rfl (a_move_ptr (lq rfl) rfl)) ?_ | refine sq_a (ag_plain rfl (a_move_ip (lq rfl) rfl)) ?_ | refine sq_a (ag_plain rfl (a_move_tup (lq rfl) rfl)) ?_
          refine sq_a (ag_plain rfl (a_sub (lq rfl) rfl rfl (w64 (by omega) (by omega)))) ?_
          first | refine sq_a (ag_plain rfl (a_assign_d (lq rfl) rfl)) ?_ | refine sq_a (ag_plain rfl (a_assign_row (lq rfl) rfl)) ?_ | refine sq_a (ag_plain rfl (a_assign_ptr (lq rfl) rfl)) ?_
          refine sq_a (ag_plain rfl (a_assign_d (lq rfl) rfl)) ?_
          refine sq_a (ag_plain rfl (a_assign_d (lq rfl) rfl)) ?_
          refine sq_nil ?_
          refine avc_ret ?_
          have q := ex4 (x := x) (m := m) (by omega) (by omega) (by omega) (by omega)
          exact ret_three (rd q.1) (rd q.2.1) (rb q.2.2)

theorem runs1_i (l : List Int) (hl : l.length ≤ 1152921504606846976) : IterC Try.prog 26 [.pt [.ints l]] (runI l) := by
  refine iter_of Try.func26 (by kernel_rfl) rfl (lq rfl) (lq rfl) fun w0 I0 J hc hg l0 hE => ?_
  refine avc_sq2 ?_
  refine avc_sq ?_
  refine sq_a (ag_plain rfl (a_assign_d (lq rfl) rfl)) ?_
  refine sq_nil ?_
  refine avc_block ?_
  refine avc_loop (ι := Nat × Nat) (fun x => ⟨[(GT, .gh x.2), (0, .d (.v (.func (.yield l0) #[] #[]))), (1, .d (.pt [.ints l])), (3, .d (di x.1))], []⟩) (fun x => x.1 ≤ l.length ∧ x.2 ≤ (runsF l).length ∧ (runsF l).drop x.2 = runsF (l.drop x.1)) (fun x => l.length - x.1) ((0, 0) : Nat × Nat) ?_ ?_ ?_
  · exact ⟨by omega, by omega, rfl⟩
  · refine weak_cov ⟨?_, ?_, ?_, ?_, trivial⟩ trivial <;> (first | rfl | exact cov_int (by omega) | exact cov_row (by simp [di, flatDV]))
  · rintro x hp
    obtain ⟨a, k⟩ := x
    dsimp only at hp ⊢
    obtain ⟨h1, h2, h3⟩ := hp
    refine avc_sq2 ?_
    refine avc_sq2 ?_
    refine avc_sq ?_
    first | refine sq_a (ag_plain rfl (a_move_d (lq rfl) rfl)) ?_ | refine sq_a (ag_plain rfl (a_move_row (lq rfl) rfl)) ?_ | refine sq_a (ag_plain rfl (a_move_ptr (lq rfl) rfl)) ?_ | refine sq_a (ag_plain rfl (a_move_ip (lq rfl) rfl)) ?_ | refine sq_a (ag_plain rfl (a_move_tup (lq rfl) rfl)) ?_
    first | refine sq_a (ag_plain rfl (a_load_box (lq rfl) O22 rfl rfl rfl)) ?_ | refine sq_a (ag_plain rfl (a_load_pt (lq rfl) O22 rfl rfl)) ?_ | refine sq_a (ag_plain rfl (a_load_ip (lq rfl) O22 rfl (get_map 0 (by omega)))) ?_ | refine sq_a (ag_plain rfl (a_load_row (lq rfl) O22 rfl rfl (get_map 0 (by omega)))) ?_
    first | refine sq_a (ag_plain rfl (a_len_d (lq rfl) S22 rfl len_map)) ?_ | refine sq_a (ag_plain rfl (a_len_row (lq rfl) S22 rfl rfl len_map)) ?_ | refine sq_a (ag_plain rfl (a_len_nil (lq rfl) Try.underlying22 rfl)) ?_
    refine sq_a (ag_plain rfl (a_lss (lq rfl) rfl rfl)) ?_
    refine sq_nil ?_
    refine avc_if rfl ⟨fun hc0 => ?_, fun hc0 => ?_⟩
    ·
      try simp only [Bool.and_eq_true, Bool.or_eq_true, Bool.not_eq_true', Bool.and_eq_false_iff, Bool.or_eq_false_iff, Bool.not_eq_false', decide_eq_true_eq, decide_eq_false_iff_not, Int.not_lt, Int.not_le] at hc0
      refine avc_skip ?_
      refine avc_block ?_
      refine avc_sq2 ?_
      refine avc_sq ?_
      first | refine sq_a (ag_plain rfl (a_move_d (lq rfl) rfl)) ?_ | refine sq_a (ag_plain rfl (a_move_row (lq rfl) rfl)) ?_ | refine sq_a (ag_plain rfl (a_move_ptr (lq rfl) rfl)) ?_ | refine sq_a (ag_plain rfl (a_move_ip (lq rfl) rfl)) ?_ | refine sq_a (ag_plain rfl (a_move_tup (lq rfl) rfl)) ?_
      refine sq_a (ag_plain rfl (a_add (lq rfl) rfl rfl (w64 (by omega) (by omega)))) ?_
      first | refine sq_a (ag_plain rfl (a_assign_d (lq rfl) rfl)) ?_ | refine sq_a (ag_plain rfl (a_assign_row (lq rfl) rfl)) ?_ | refine sq_a (ag_plain rfl (a_assign_ptr (lq rfl) rfl)) ?_
      refine sq_nil ?_
      refine avc_sq2 ?_
      refine avc_block ?_
      refine avc_loop (ι := Nat) (fun e => ⟨[(GT, .gh k), (0, .d (.v (.func (.yield l0) #[] #[]))), (1, .d (.pt [.ints l])), (3, .d (di a)), (4, .d (di e))], []⟩) (fun e => a < e ∧ e ≤ l.length ∧ ∀ j, a ≤ j → j < e → l.getD j 0 = l.getD a 0) (fun e => l.length - e) (a + 1) ?_ ?_ ?_
      · exact ⟨by omega, by omega, fun j hj1 hj2 => by rw [show j = a by omega]⟩
      · refine weak_cov ⟨?_, ?_, ?_, ?_, ?_, trivial⟩ trivial <;> (first | rfl | exact cov_int (by omega) | exact cov_row (by simp [di, flatDV]))
      · rintro e hp
        obtain ⟨h4, h5, h6⟩ := hp
        refine avc_sq2 ?_
        refine avc_sq2 ?_
        refine avc_drawA MX rfl ?_
        first | refine da_a (ag_plain rfl (a_move_d (lq rfl) rfl)) ?_ | refine da_a (ag_plain rfl (a_move_row (lq rfl) rfl)) ?_ | refine da_a (ag_plain rfl (a_move_ptr (lq rfl) rfl)) ?_ | refine da_a (ag_plain rfl (a_move_ip (lq rfl) rfl)) ?_ | refine da_a (ag_plain rfl (a_move_tup (lq rfl) rfl)) ?_
        first | refine da_a (ag_plain rfl (a_load_box (lq rfl) O22 rfl rfl rfl)) ?_ | refine da_a (ag_plain rfl (a_load_pt (lq rfl) O22 rfl rfl)) ?_ | refine da_a (ag_plain rfl (a_load_ip (lq rfl) O22 rfl (get_map 0 (by omega)))) ?_ | refine da_a (ag_plain rfl (a_load_row (lq rfl) O22 rfl rfl (get_map 0 (by omega)))) ?_
        first | refine da_a (ag_plain rfl (a_len_d (lq rfl) S22 rfl len_map)) ?_ | refine da_a (ag_plain rfl (a_len_row (lq rfl) S22 rfl rfl len_map)) ?_ | refine da_a (ag_plain rfl (a_len_nil (lq rfl) Try.underlying22 rfl)) ?_
        refine da_a (ag_plain rfl (a_lss (lq rfl) rfl rfl)) ?_
        first | refine da_a (ag_plain rfl (a_move_d (lq rfl) rfl)) ?_ | refine da_a (ag_plain rfl (a_move_row (lq rfl) rfl)) ?_ | refine da_a (ag_plain rfl (a_move_ptr (lq rfl) rfl)) ?_ | refine da_a (ag_plain rfl (a_move_ip (lq rfl) rfl)) ?_ | refine da_a (ag_plain rfl (a_move_tup (lq rfl) rfl)) ?_
        first | (apply da_g rfl rfl rfl (lq rfl) (lq rfl) rfl; focus (intro hb; simp only [gd, Bool.not_eq_true'] at hb; (try rw [hb]); (try simp only [decide_eq_true_eq, decide_eq_false_iff_not, Bool.and_eq_true, Bool.or_eq_false_iff, Bool.not_eq_true'] at hb); first | exact a_load_box (lq rfl) O22 rfl rfl rfl | exact a_load_pt (lq rfl) O22 rfl rfl | exact a_load_ip (lq rfl) O22 rfl (get_map 0 (by omega)) | exact a_load_row (lq rfl) O22 rfl rfl (get_map 0 (by omega)))) | (apply da_g2 rfl rfl rfl (lq rfl) (lq rfl) rfl; focus (intro hb; simp only [gd, Bool.and_eq_true, Bool.not_eq_true'] at hb; (try rw [hb.1]); (try rw [hb.2]); (try simp only [decide_eq_true_eq, decide_eq_false_iff_not, Bool.and_eq_true, Bool.or_eq_false_iff, Bool.not_eq_true'] at hb); first | exact a_load_box (lq rfl) O22 rfl rfl rfl | exact a_load_pt (lq rfl) O22 rfl rfl | exact a_load_ip (lq rfl) O22 rfl (get_map 0 (by omega)) | exact a_load_row (lq rfl) O22 rfl rfl (get_map 0 (by omega))))
        first | (apply da_g rfl rfl rfl (lq rfl) (lq rfl) rfl; focus (intro hb; simp only [gd, Bool.not_eq_true'] at hb; (try rw [hb]); (try simp only [decide_eq_true_eq, decide_eq_false_iff_not, Bool.and_eq_true, Bool.or_eq_false_iff, Bool.not_eq_true'] at hb); first | exact a_move_d (lq rfl) rfl | exact a_move_row (lq rfl) rfl | exact a_move_ptr (lq rfl) rfl | exact a_move_ip (lq rfl) rfl | exact a_move_tup (lq rfl) rfl)) | (apply da_g2 rfl rfl rfl (lq rfl) (lq rfl) rfl; focus (intro hb; simp only [gd, Bool.and_eq_true, Bool.not_eq_true'] at hb; (try rw [hb.1]); (try rw [hb.2]); (try simp only [decide_eq_true_eq, decide_eq_false_iff_not, Bool.and_eq_true, Bool.or_eq_false_iff, Bool.not_eq_true'] at hb); first | exact a_move_d (lq rfl) rfl | exact a_move_row (lq rfl) rfl | exact a_move_ptr (lq rfl) rfl | exact a_move_ip (lq rfl) rfl | exact a_move_tup (lq rfl) rfl))
        first | (apply da_g rfl rfl rfl (lq rfl) (lq rfl) rfl; focus (intro hb; simp only [gd, Bool.not_eq_true'] at hb; (try rw [hb]); (try simp only [decide_eq_true_eq, decide_eq_false_iff_not, Bool.and_eq_true, Bool.or_eq_false_iff, Bool.not_eq_true'] at hb); first | exact a_index_d (lq rfl) S22 rfl rfl rfl len_map (by omega) | exact a_index_row (lq rfl) S22 rfl rfl rfl rfl len_map (by omega) | exact a_index_d (lq rfl) S22 rfl rfl (ix_add1 _) len_map (by omega) | exact a_index_row (lq rfl) S22 rfl rfl rfl (ix_add1 _) len_map (by omega) | exact a_index_d (lq rfl) S22 rfl rfl (ix_nat (by omega)) len_map (by omega) | exact a_index_row (lq rfl) S22 rfl rfl rfl (ix_nat (by omega)) len_map (by omega))) | (apply da_g2 rfl rfl rfl (lq rfl) (lq rfl) rfl; focus (intro hb; simp only [gd, Bool.and_eq_true, Bool.not_eq_true'] at hb; (try rw [hb.1]); (try rw [hb.2]); (try simp only [decide_eq_true_eq, decide_eq_false_iff_not, Bool.and_eq_true, Bool.or_eq_false_iff, Bool.not_eq_true'] at hb); first | exact a_index_d (lq rfl) S22 rfl rfl rfl len_map (by omega) | exact a_index_row (lq rfl) S22 rfl rfl rfl rfl len_map (by omega) | exact a_index_d (lq rfl) S22 rfl rfl (ix_add1 _) len_map (by omega) | exact a_index_row (lq rfl) S22 rfl rfl rfl (ix_add1 _) len_map (by omega) | exact a_index_d (lq rfl) S22 rfl rfl (ix_nat (by omega)) len_map (by omega) | exact a_index_row (lq rfl) S22 rfl rfl rfl (ix_nat (by omega)) len_map (by omega)))
        first | (apply da_g rfl rfl rfl (lq rfl) (lq rfl) rfl; focus (intro hb; simp only [gd, Bool.not_eq_true'] at hb; (try rw [hb]); (try simp only [decide_eq_true_eq, decide_eq_false_iff_not, Bool.and_eq_true, Bool.or_eq_false_iff, Bool.not_eq_true'] at hb); first | exact a_load_box (lq rfl) O3 rfl rfl rfl | exact a_load_pt (lq rfl) O3 rfl rfl | exact a_load_ip (lq rfl) O3 rfl (get_map 0 (by omega)) | exact a_load_row (lq rfl) O3 rfl rfl (get_map 0 (by omega)))) | (apply da_g2 rfl rfl rfl (lq rfl) (lq rfl) rfl; focus (intro hb; simp only [gd, Bool.and_eq_true, Bool.not_eq_true'] at hb; (try rw [hb.1]); (try rw [hb.2]); (try simp only [decide_eq_true_eq, decide_eq_false_iff_not, Bool.and_eq_true, Bool.or_eq_false_iff, Bool.not_eq_true'] at hb); first | exact a_load_box (lq rfl) O3 rfl rfl rfl | exact a_load_pt (lq rfl) O3 rfl rfl | exact a_load_ip (lq rfl) O3 rfl (get_map 0 (by omega)) | exact a_load_row (lq rfl) O3 rfl rfl (get_map 0 (by omega))))
        first | (apply da_g rfl rfl rfl (lq rfl) (lq rfl) rfl; focus (intro hb; simp only [gd, Bool.not_eq_true'] at hb; (try rw [hb]); (try simp only [decide_eq_true_eq, decide_eq_false_iff_not, Bool.and_eq_true, Bool.or_eq_false_iff, Bool.not_eq_true'] at hb); first | exact a_load_box (lq rfl) O22 rfl rfl rfl | exact a_load_pt (lq rfl) O22 rfl rfl | exact a_load_ip (lq rfl) O22 rfl (get_map 0 (by omega)) | exact a_load_row (lq rfl) O22 rfl rfl (get_map 0 (by omega)))) | (apply da_g2 rfl rfl rfl (lq rfl) (lq rfl) rfl; focus (intro hb; simp only [gd, Bool.and_eq_true, Bool.not_eq_true'] at hb; (try rw [hb.1]); (try rw [hb.2]); (try simp only [decide_eq_true_eq, decide_eq_false_iff_not, Bool.and_eq_true, Bool.or_eq_false_iff, Bool.not_eq_true'] at hb); first | exact a_load_box (lq rfl) O22 rfl rfl rfl | exact a_load_pt (lq rfl) O22 rfl rfl | exact a_load_ip (lq rfl) O22 rfl (get_map 0 (by omega)) | exact a_load_row (lq rfl) O22 rfl rfl (get_map 0 (by omega))))
        first | (apply da_g rfl rfl rfl (lq rfl) (lq rfl) rfl; focus (intro hb; simp only [gd, Bool.not_eq_true'] at hb; (try rw [hb]); (try simp only [decide_eq_true_eq, decide_eq_false_iff_not, Bool.and_eq_true, Bool.or_eq_false_iff, Bool.not_eq_true'] at hb); first | exact a_move_d (lq rfl) rfl | exact a_move_row (lq rfl) rfl | exact a_move_ptr (lq rfl) rfl | exact a_move_ip (lq rfl) rfl | exact a_move_tup (lq rfl) rfl)) | (apply da_g2 rfl rfl rfl (lq rfl) (lq rfl) rfl; focus (intro hb; simp only [gd, Bool.and_eq_true, Bool.not_eq_true'] at hb; (try rw [hb.1]); (try rw [hb.2]); (try simp only [decide_eq_true_eq, decide_eq_false_iff_not, Bool.and_eq_true, Bool.or_eq_false_iff, Bool.not_eq_true'] at hb); first | exact a_move_d (lq rfl) rfl | exact a_move_row (lq rfl) rfl | exact a_move_ptr (lq rfl) rfl | exact a_move_ip (lq rfl) rfl | exact a_move_tup (lq rfl) rfl))
        first | (apply da_g rfl rfl rfl (lq rfl) (lq rfl) rfl; focus (intro hb; simp only [gd, Bool.not_eq_true'] at hb; (try rw [hb]); (try simp only [decide_eq_true_eq, decide_eq_false_iff_not, Bool.and_eq_true, Bool.or_eq_false_iff, Bool.not_eq_true'] at hb); first | exact a_index_d (lq rfl) S22 rfl rfl rfl len_map (by omega) | exact a_index_row (lq rfl) S22 rfl rfl rfl rfl len_map (by omega) | exact a_index_d (lq rfl) S22 rfl rfl (ix_add1 _) len_map (by omega) | exact a_index_row (lq rfl) S22 rfl rfl rfl (ix_add1 _) len_map (by omega) | exact a_index_d (lq rfl) S22 rfl rfl (ix_nat (by omega)) len_map (by omega) | exact a_index_row (lq rfl) S22 rfl rfl rfl (ix_nat (by omega)) len_map (by omega))) | (apply da_g2 rfl rfl rfl (lq rfl) (lq rfl) rfl; focus (intro hb; simp only [gd, Bool.and_eq_true, Bool.not_eq_true'] at hb; (try rw [hb.1]); (try rw [hb.2]); (try simp only [decide_eq_true_eq, decide_eq_false_iff_not, Bool.and_eq_true, Bool.or_eq_false_iff, Bool.not_eq_true'] at hb); first | exact a_index_d (lq rfl) S22 rfl rfl rfl len_map (by omega) | exact a_index_row (lq rfl) S22 rfl rfl rfl rfl len_map (by omega) | exact a_index_d (lq rfl) S22 rfl rfl (ix_add1 _) len_map (by omega) | exact a_index_row (lq rfl) S22 rfl rfl rfl (ix_add1 _) len_map (by omega) | exact a_index_d (lq rfl) S22 rfl rfl (ix_nat (by omega)) len_map (by omega) | exact a_index_row (lq rfl) S22 rfl rfl rfl (ix_nat (by omega)) len_map (by omega)))
        first | (apply da_g rfl rfl rfl (lq rfl) (lq rfl) rfl; focus (intro hb; simp only [gd, Bool.not_eq_true'] at hb; (try rw [hb]); (try simp only [decide_eq_true_eq, decide_eq_false_iff_not, Bool.and_eq_true, Bool.or_eq_false_iff, Bool.not_eq_true'] at hb); first | exact a_load_box (lq rfl) O3 rfl rfl rfl | exact a_load_pt (lq rfl) O3 rfl rfl | exact a_load_ip (lq rfl) O3 rfl (get_map 0 (by omega)) | exact a_load_row (lq rfl) O3 rfl rfl (get_map 0 (by omega)))) | (apply da_g2 rfl rfl rfl (lq rfl) (lq rfl) rfl; focus (intro hb; simp only [gd, Bool.and_eq_true, Bool.not_eq_true'] at hb; (try rw [hb.1]); (try rw [hb.2]); (try simp only [decide_eq_true_eq, decide_eq_false_iff_not, Bool.and_eq_true, Bool.or_eq_false_iff, Bool.not_eq_true'] at hb); first | exact a_load_box (lq rfl) O3 rfl rfl rfl | exact a_load_pt (lq rfl) O3 rfl rfl | exact a_load_ip (lq rfl) O3 rfl (get_map 0 (by omega)) | exact a_load_row (lq rfl) O3 rfl rfl (get_map 0 (by omega))))
        first | (apply da_g rfl rfl rfl (lq rfl) (lq rfl) rfl; focus (intro hb; simp only [gd, Bool.not_eq_true'] at hb; (try rw [hb]); (try simp only [decide_eq_true_eq, decide_eq_false_iff_not, Bool.and_eq_true, Bool.or_eq_false_iff, Bool.not_eq_true'] at hb); exact a_eql (lq rfl) rfl rfl)) | (apply da_g2 rfl rfl rfl (lq rfl) (lq rfl) rfl; focus (intro hb; simp only [gd, Bool.and_eq_true, Bool.not_eq_true'] at hb; (try rw [hb.1]); (try rw [hb.2]); (try simp only [decide_eq_true_eq, decide_eq_false_iff_not, Bool.and_eq_true, Bool.or_eq_false_iff, Bool.not_eq_true'] at hb); exact a_eql (lq rfl) rfl rfl))
        first | refine da_a (ag_plain rfl (a_pick_and (lq rfl) rfl rfl)) ?_ | refine da_a (ag_plain rfl (a_pick_td (lq rfl) rfl rfl)) ?_ | refine da_a (ag_plain rfl (a_pick_fd (lq rfl) rfl rfl)) ?_
        refine da_nil ?_
        refine avc_if rfl ⟨fun hc1 => ?_, fun hc1 => ?_⟩
        ·
          try simp only [Bool.and_eq_true, Bool.or_eq_true, Bool.not_eq_true', Bool.and_eq_false_iff, Bool.or_eq_false_iff, Bool.not_eq_false', decide_eq_true_eq, decide_eq_false_iff_not, Int.not_lt, Int.not_le] at hc1
          refine avc_skip ?_
          refine avc_block ?_
          refine avc_sq ?_
          first | refine sq_a (ag_plain rfl (a_move_d (lq rfl) rfl)) ?_ | refine sq_a (ag_plain rfl (a_move_row (lq rfl) rfl)) ?_ | refine sq_a (ag_plain rfl (a_move_ptr (lq rfl) rfl)) ?_ | refine sq_a (ag_plain rfl (a_move_ip (lq rfl) rfl)) ?_ | refine sq_a (ag_plain rfl (a_move_tup (lq rfl) rfl)) ?_
          refine sq_a (ag_plain rfl (a_add (lq rfl) rfl rfl (w64 (by omega) (by omega)))) ?_
          first | refine sq_a (ag_plain rfl (a_assign_d (lq rfl) rfl)) ?_ | refine sq_a (ag_plain rfl (a_assign_row (lq rfl) rfl)) ?_ | refine sq_a (ag_plain rfl (a_assign_ptr (lq rfl) rfl)) ?_
          refine sq_nil ?_
          first | refine loop_end  (j := e + 1) ?_ ?_ ?_ | refine loop_end  (K := fun _ _ => True) (j := e + 1) ?_ ?_ ?_
          · exact ⟨by omega, by omega, fun j hj1 hj2 => by rcases Nat.lt_or_ge j e with h | h; exact h6 j hj1 h; rw [show j = e by omega]; exact hc1.2⟩
          · omega
          · refine weak_cov ⟨?_, ?_, ?_, ?_, ?_, trivial⟩ trivial <;> (first | rfl | exact cov_int (by omega) | exact cov_row (by simp [di, flatDV]))
        ·
          try simp only [Bool.and_eq_true, Bool.or_eq_true, Bool.not_eq_true', Bool.and_eq_false_iff, Bool.or_eq_false_iff, Bool.not_eq_false', decide_eq_true_eq, decide_eq_false_iff_not, Int.not_lt, Int.not_le] at hc1
          refine avc_exit ?_
          refine avc_sq2 ?_
          refine avc_sq2 ?_
          refine avc_sq ?_
          first | refine sq_a (ag_plain rfl (a_move_d (lq rfl) rfl)) ?_ | refine sq_a (ag_plain rfl (a_move_row (lq rfl) rfl)) ?_ | refine sq_a (ag_plain rfl (a_move_ptr (lq rfl) rfl)) ?_ | refine sq_a (ag_plain rfl (a_move_ip (lq rfl) rfl)) ?_ | refine sq_a (ag_plain rfl (a_move_tup (lq rfl) rfl)) ?_
          first | refine sq_a (ag_plain rfl (a_load_box (lq rfl) O22 rfl rfl rfl)) ?_ | refine sq_a (ag_plain rfl (a_load_pt (lq rfl) O22 rfl rfl)) ?_ | refine sq_a (ag_plain rfl (a_load_ip (lq rfl) O22 rfl (get_map 0 (by omega)))) ?_ | refine sq_a (ag_plain rfl (a_load_row (lq rfl) O22 rfl rfl (get_map 0 (by omega)))) ?_
          first | refine sq_a (ag_plain rfl (a_move_d (lq rfl) rfl)) ?_ | refine sq_a (ag_plain rfl (a_move_row (lq rfl) rfl)) ?_ | refine sq_a (ag_plain rfl (a_move_ptr (lq rfl) rfl)) ?_ | refine sq_a (ag_plain rfl (a_move_ip (lq rfl) rfl)) ?_ | refine sq_a (ag_plain rfl (a_move_tup (lq rfl) rfl)) ?_
          first | refine sq_a (ag_plain rfl (a_index_d (lq rfl) S22 rfl rfl rfl len_map (by omega))) ?_ | refine sq_a (ag_plain rfl (a_index_row (lq rfl) S22 rfl rfl rfl rfl len_map (by omega))) ?_ | refine sq_a (ag_plain rfl (a_index_d (lq rfl) S22 rfl rfl (ix_add1 _) len_map (by omega))) ?_ | refine sq_a (ag_plain rfl (a_index_row (lq rfl) S22 rfl rfl rfl (ix_add1 _) len_map (by omega))) ?_ | refine sq_a (ag_plain rfl (a_index_d (lq rfl) S22 rfl rfl (ix_nat (by omega)) len_map (by omega))) ?_ | refine sq_a (ag_plain rfl (a_index_row (lq rfl) S22 rfl rfl rfl (ix_nat (by omega)) len_map (by omega))) ?_
          first | refine sq_a (ag_plain rfl (a_load_box (lq rfl) O3 rfl rfl rfl)) ?_ | refine sq_a (ag_plain rfl (a_load_pt (lq rfl) O3 rfl rfl)) ?_ | refine sq_a (ag_plain rfl (a_load_ip (lq rfl) O3 rfl (get_map 0 (by omega)))) ?_ | refine sq_a (ag_plain rfl (a_load_row (lq rfl) O3 rfl rfl (get_map 0 (by omega)))) ?_
          first | refine sq_a (ag_plain rfl (a_move_d (lq rfl) rfl)) ?_ | refine sq_a (ag_plain rfl (a_move_row (lq rfl) rfl)) ?_ | refine sq_a (ag_plain rfl (a_move_ptr (lq rfl) rfl)) ?_ | refine sq_a (ag_plain rfl (a_move_ip (lq rfl) rfl)) ?_ | refine sq_a (ag_plain rfl (a_move_tup (lq rfl) rfl)) ?_
          first | refine sq_a (ag_plain rfl (a_move_d (lq rfl) rfl)) ?_ | refine sq_a (ag_plain rfl (a_move_row (lq rfl) rfl)) ?_ | refine sq_a (ag_plain rfl (a_move_ptr (lq rfl) rfl)) ?_ | refine sq_a (ag_plain rfl (a_move_ip (lq rfl) rfl)) ?_ | refine sq_a (ag_plain rfl (a_move_tup (lq rfl) rfl)) ?_
          refine sq_a (ag_plain rfl (a_sub (lq rfl) rfl rfl (w64 (by omega) (by omega)))) ?_
          have hR := h3.trans (runs_step h4 h5 h6 (fun h => by rcases hc1 with h' | h'; omega; exact h'))
          refine sq_b rfl (s_yield (k := k) (lq rfl) hE rfl rfl rfl (run_item hR (by omega))) ?_
          refine sq_a (ag_plain rfl (a_not (lq rfl) rfl)) ?_
          refine sq_nil ?_
          refine avc_if rfl ⟨fun hc2 => ?_, fun hc2 => ?_⟩
          ·
            try simp only [Bool.and_eq_true, Bool.or_eq_true, Bool.not_eq_true', Bool.and_eq_false_iff, Bool.or_eq_false_iff, Bool.not_eq_false', decide_eq_true_eq, decide_eq_false_iff_not, Int.not_lt, Int.not_le] at hc2
            cases hc2
          ·
            try simp only [Bool.and_eq_true, Bool.or_eq_true, Bool.not_eq_true', Bool.and_eq_false_iff, Bool.or_eq_false_iff, Bool.not_eq_false', decide_eq_true_eq, decide_eq_false_iff_not, Int.not_lt, Int.not_le] at hc2
            refine avc_skip ?_
            refine avc_sq ?_
            first | refine sq_a (ag_plain rfl (a_move_d (lq rfl) rfl)) ?_ | refine sq_a (ag_plain rfl (a_move_row (lq rfl) rfl)) ?_ | refine sq_a (ag_plain rfl (a_move_ptr (lq rfl) rfl)) ?_ | refine sq_a (ag_plain rfl (a_move_ip (lq rfl) rfl)) ?_ | refine sq_a (ag_plain rfl (a_move_tup (lq rfl) rfl)) ?_
            first | refine sq_a (ag_plain rfl (a_assign_d (lq rfl) rfl)) ?_ | refine sq_a (ag_plain rfl (a_assign_row (lq rfl) rfl)) ?_ | refine sq_a (ag_plain rfl (a_assign_ptr (lq rfl) rfl)) ?_
            refine sq_nil ?_
            first | refine loop_end (i := (a, k)) (j := ((e, k + 1) : Nat × Nat)) ?_ ?_ ?_ | refine loop_end (i := (a, k)) (K := fun _ _ => True) (j := ((e, k + 1) : Nat × Nat)) ?_ ?_ ?_
            · exact ⟨by omega, (run_next hR).1, (run_next hR).2⟩
            · show l.length - e < l.length - a; omega
            · refine weak_cov ⟨?_, ?_, ?_, ?_, trivial⟩ trivial <;> (first | rfl | exact cov_int (by omega) | exact cov_row (by simp [di, flatDV]))
    ·
      try simp only [Bool.and_eq_true, Bool.or_eq_true, Bool.not_eq_true', Bool.and_eq_false_iff, Bool.or_eq_false_iff, Bool.not_eq_false', decide_eq_true_eq, decide_eq_false_iff_not, Int.not_lt, Int.not_le] at hc0
      refine avc_exit ?_
      exact ⟨rfl, run_end h2 h3 (by omega)⟩

theorem runs_c (l : List Int)  : Contract Try.prog 20 [.ints l] [.fn 26 [.pt [.ints l]]] := by
  refine contract_of Try.func20 (by kernel_rfl) rfl (lq rfl) (lq rfl) fun w0 I0 => ?_
  refine avc_sq2 ?_
  refine avc_sq ?_
  refine sq_b rfl (s_box_d (lq rfl) rfl rfl rfl) ?_
  refine sq_a (ag_plain rfl (a_assign_d (lq rfl) rfl)) ?_
  refine sq_nil ?_
  refine avc_sq2 ?_
  refine avc_sq ?_
  refine sq_weak (weak_freeze (t := 1) (lq rfl) rfl rfl rfl) ?_ (by simp)
  refine sq_a (ag_plain rfl (a_makeFunc (lq rfl) rfl)) ?_
  first | refine sq_a (ag_plain rfl (a_assign_d (lq rfl) rfl)) ?_ | refine sq_a (ag_plain rfl (a_assign_row (lq rfl) rfl)) ?_ | refine sq_a (ag_plain rfl (a_assign_ptr (lq rfl) rfl)) ?_
  refine sq_nil ?_
  refine avc_ret ?_
  exact ret_d rfl rfl

theorem pack_c (l : List Int) (c : Int) (hl : l.length < 2147483648) : Contract Try.prog 10 [.ints l, di c] [.ints (pk (common c) (plain l))] := by
  have hm := common_in c
  have hpl : (plain l).length = l.length := by simp [plain]
  refine contract_of Try.func10 (by kernel_rfl) rfl (lq rfl) (lq rfl) fun w0 I0 => ?_
  refine avc_sq2 ?_
  refine avc_sq ?_
  refine sq_a (ag_plain rfl (a_assign_d (lq rfl) rfl)) ?_
  refine sq_nil ?_
  refine avc_sq2 ?_
  refine avc_sq ?_
  first | refine sq_a (ag_plain rfl (a_move_d (lq rfl) rfl)) ?_ | refine sq_a (ag_plain rfl (a_move_row (lq rfl) rfl)) ?_ | refine sq_a (ag_plain rfl (a_move_ptr (lq rfl) rfl)) ?_ | refine sq_a (ag_plain rfl (a_move_ip (lq rfl) rfl)) ?_ | refine sq_a (ag_plain rfl (a_move_tup (lq rfl) rfl)) ?_
  refine sq_a (ag_plain rfl (a_call (lq rfl) rfl (common_c _))) ?_
  refine sq_b rfl (step_alloc (zs := [(.int IntKind.i64 (0))]) (lq rfl) (by kernel_rfl) rfl rfl) ?_
  first | refine sq_b rfl (s_store_box_d O3 rfl rfl (lq rfl) rfl rfl rfl) ?_ | refine sq_b rfl (s_store_box_row O3 rfl rfl (lq rfl) rfl rfl rfl) ?_ | refine sq_b rfl (step_store_row O3 rfl rfl (by simp; omega) rfl rfl rfl) ?_
  refine sq_nil ?_
  refine avc_sq2 ?_
  refine avc_sq ?_
  first | refine sq_a (ag_plain rfl (a_move_d (lq rfl) rfl)) ?_ | refine sq_a (ag_plain rfl (a_move_row (lq rfl) rfl)) ?_ | refine sq_a (ag_plain rfl (a_move_ptr (lq rfl) rfl)) ?_ | refine sq_a (ag_plain rfl (a_move_ip (lq rfl) rfl)) ?_ | refine sq_a (ag_plain rfl (a_move_tup (lq rfl) rfl)) ?_
  first | refine sq_a (ag_plain rfl (a_len_d (lq rfl) S22 rfl len_rep)) ?_ | refine sq_a (ag_plain rfl (a_len_d (lq rfl) S22 rfl len_map)) ?_ | refine sq_a (ag_plain rfl (a_len_d (lq rfl) S22 rfl len_app2)) ?_ | refine sq_a (ag_plain rfl (a_len_row (lq rfl) S22 rfl rfl len_rep)) ?_ | refine sq_a (ag_plain rfl (a_len_row (lq rfl) S22 rfl rfl len_map)) ?_ | refine sq_a (ag_plain rfl (a_len_row (lq rfl) S22 rfl rfl len_app2)) ?_ | refine sq_a (ag_plain rfl (a_len_nil (lq rfl) Try.underlying22 rfl)) ?_
  first | refine sq_b rfl (step_make (lq rfl) S22 rfl rfl (by omega) (by unfold maxLen; omega) rfl) ?_ | refine sq_b rfl (step_make (lq rfl) S22 rfl (ix_nat (by omega)) (by omega) (by unfold maxLen; omega) rfl) ?_
  refine sq_b rfl (step_alloc (zs := [(.slice none 0 0)]) (lq rfl) (by kernel_rfl) rfl rfl) ?_
  first | refine sq_b rfl (s_store_box_d O22 rfl rfl (lq rfl) rfl rfl rfl) ?_ | refine sq_b rfl (s_store_box_row O22 rfl rfl (lq rfl) rfl rfl rfl) ?_ | refine sq_b rfl (step_store_row O22 rfl rfl (by simp; omega) rfl rfl rfl) ?_
  refine sq_nil ?_
  refine avc_sq2 ?_
  refine avc_sq2 ?_
  refine avc_sq ?_
  first | refine sq_a (ag_plain rfl (a_move_d (lq rfl) rfl)) ?_ | refine sq_a (ag_plain rfl (a_move_row (lq rfl) rfl)) ?_ | refine sq_a (ag_plain rfl (a_move_ptr (lq rfl) rfl)) ?_ | refine sq_a (ag_plain rfl (a_move_ip (lq rfl) rfl)) ?_ | refine sq_a (ag_plain rfl (a_move_tup (lq rfl) rfl)) ?_
  first | refine sq_a (ag_plain rfl (a_len_d (lq rfl) S22 rfl len_rep)) ?_ | refine sq_a (ag_plain rfl (a_len_d (lq rfl) S22 rfl len_map)) ?_ | refine sq_a (ag_plain rfl (a_len_d (lq rfl) S22 rfl len_app2)) ?_ | refine sq_a (ag_plain rfl (a_len_row (lq rfl) S22 rfl rfl len_rep)) ?_ | refine sq_a (ag_plain rfl (a_len_row (lq rfl) S22 rfl rfl len_map)) ?_ | refine sq_a (ag_plain rfl (a_len_row (lq rfl) S22 rfl rfl len_app2)) ?_ | refine sq_a (ag_plain rfl (a_len_nil (lq rfl) Try.underlying22 rfl)) ?_
  refine sq_a (ag_plain rfl (a_move_d (lq rfl) rfl)) ?_
  refine sq_nil ?_
  refine avc_block ?_
  refine avc_loop (ι := Nat) (fun k => ⟨[(19, .d (.ints l)), (20, .d (di l.length)), (21, .d (di k)), (5, .ptr 5 0), (6, .ptr 6 0)], [(5, .box 3 [.d (di (common c))]), (6, .box 22 [.row 18]), (18, .row 3 1 false ((cw l k).map di))]⟩) (fun k => k ≤ l.length) (fun k => l.length - k) 0 ?_ ?_ ?_
  · omega
  · refine weak_cov ⟨?_, ?_, ?_, ?_, ?_, trivial⟩ ⟨?_, ?_, ?_, trivial⟩ <;> (first | rfl | exact cov_row (cw_zero l))
  · rintro k hp
    have hcw := cw_len l hp
    refine avc_sq2 ?_
    refine avc_sq ?_
    refine sq_a (ag_plain rfl (a_lss (lq rfl) rfl rfl)) ?_
    refine sq_nil ?_
    refine avc_sq2 ?_
    refine avc_if rfl ⟨fun hc0 => ?_, fun hc0 => ?_⟩
    ·
      try simp only [Bool.and_eq_true, Bool.or_eq_true, Bool.not_eq_true', Bool.and_eq_false_iff, Bool.or_eq_false_iff, Bool.not_eq_false', decide_eq_true_eq, decide_eq_false_iff_not, Int.not_lt, Int.not_le] at hc0
      refine avc_skip ?_
      refine avc_sq2 ?_
      refine avc_block ?_
      refine avc_sq2 ?_
      refine avc_sq ?_
      first | refine sq_a (ag_plain rfl (a_move_d (lq rfl) rfl)) ?_ | refine sq_a (ag_plain rfl (a_move_row (lq rfl) rfl)) ?_ | refine sq_a (ag_plain rfl (a_move_ptr (lq rfl) rfl)) ?_ | refine sq_a (ag_plain rfl (a_move_ip (lq rfl) rfl)) ?_ | refine sq_a (ag_plain rfl (a_move_tup (lq rfl) rfl)) ?_
      first | refine sq_a (ag_plain rfl (a_index_d (lq rfl) S22 rfl rfl rfl len_rep (by omega))) ?_ | refine sq_a (ag_plain rfl (a_index_d (lq rfl) S22 rfl rfl rfl len_map (by omega))) ?_ | refine sq_a (ag_plain rfl (a_index_d (lq rfl) S22 rfl rfl rfl len_app2 (by omega))) ?_ | refine sq_a (ag_plain rfl (a_index_row (lq rfl) S22 rfl rfl rfl rfl len_rep (by omega))) ?_ | refine sq_a (ag_plain rfl (a_index_row (lq rfl) S22 rfl rfl rfl rfl len_map (by omega))) ?_ | refine sq_a (ag_plain rfl (a_index_row (lq rfl) S22 rfl rfl rfl rfl len_app2 (by omega))) ?_ | refine sq_a (ag_plain rfl (a_index_d (lq rfl) S22 rfl rfl (ix_add1 _) len_rep (by omega))) ?_ | refine sq_a (ag_plain rfl (a_index_d (lq rfl) S22 rfl rfl (ix_add1 _) len_map (by omega))) ?_ | refine sq_a (ag_plain rfl (a_index_d (lq rfl) S22 rfl rfl (ix_add1 _) len_app2 (by omega))) ?_ | refine sq_a (ag_plain rfl (a_index_row (lq rfl) S22 rfl rfl rfl (ix_add1 _) len_rep (by omega))) ?_ | refine sq_a (ag_plain rfl (a_index_row (lq rfl) S22 rfl rfl rfl (ix_add1 _) len_map (by omega))) ?_ | refine sq_a (ag_plain rfl (a_index_row (lq rfl) S22 rfl rfl rfl (ix_add1 _) len_app2 (by omega))) ?_ | refine sq_a (ag_plain rfl (a_index_d (lq rfl) S22 rfl rfl (ix_nat (by omega)) len_rep (by omega))) ?_ | refine sq_a (ag_plain rfl (a_index_d (lq rfl) S22 rfl rfl (ix_nat (by omega)) len_map (by omega))) ?_ | refine sq_a (ag_plain rfl (a_index_d (lq rfl) S22 rfl rfl (ix_nat (by omega)) len_app2 (by omega))) ?_ | refine sq_a (ag_plain rfl (a_index_row (lq rfl) S22 rfl rfl rfl (ix_nat (by omega)) len_rep (by omega))) ?_ | refine sq_a (ag_plain rfl (a_index_row (lq rfl) S22 rfl rfl rfl (ix_nat (by omega)) len_map (by omega))) ?_ | refine sq_a (ag_plain rfl (a_index_row (lq rfl) S22 rfl rfl rfl (ix_nat (by omega)) len_app2 (by omega))) ?_
      first | refine sq_a (ag_plain rfl (a_load_box (lq rfl) O3 rfl rfl rfl)) ?_ | refine sq_a (ag_plain rfl (a_load_pt (lq rfl) O3 rfl rfl)) ?_ | refine sq_a (ag_plain rfl (a_load_ip (lq rfl) O3 rfl (get_map 0 (by omega)))) ?_ | refine sq_a (ag_plain rfl (a_load_row (lq rfl) O3 rfl rfl (get_map 0 (by omega)))) ?_
      first | refine sq_a (ag_plain rfl (a_assign_d (lq rfl) rfl)) ?_ | refine sq_a (ag_plain rfl (a_assign_row (lq rfl) rfl)) ?_ | refine sq_a (ag_plain rfl (a_assign_ptr (lq rfl) rfl)) ?_
      first | refine sq_a (ag_plain rfl (a_assign_d (lq rfl) rfl)) ?_ | refine sq_a (ag_plain rfl (a_assign_row (lq rfl) rfl)) ?_ | refine sq_a (ag_plain rfl (a_assign_ptr (lq rfl) rfl)) ?_
      refine sq_nil ?_
      refine avc_sq2 ?_
      refine avc_sq ?_
      first | refine sq_a (ag_plain rfl (a_move_d (lq rfl) rfl)) ?_ | refine sq_a (ag_plain rfl (a_move_row (lq rfl) rfl)) ?_ | refine sq_a (ag_plain rfl (a_move_ptr (lq rfl) rfl)) ?_ | refine sq_a (ag_plain rfl (a_move_ip (lq rfl) rfl)) ?_ | refine sq_a (ag_plain rfl (a_move_tup (lq rfl) rfl)) ?_
      refine sq_a (ag_plain rfl (a_geq (lq rfl) rfl rfl)) ?_
      first | refine sq_a (ag_plain rfl (a_move_d (lq rfl) rfl)) ?_ | refine sq_a (ag_plain rfl (a_move_row (lq rfl) rfl)) ?_ | refine sq_a (ag_plain rfl (a_move_ptr (lq rfl) rfl)) ?_ | refine sq_a (ag_plain rfl (a_move_ip (lq rfl) rfl)) ?_ | refine sq_a (ag_plain rfl (a_move_tup (lq rfl) rfl)) ?_
      first | (apply sq_g rfl rfl rfl (lq rfl) (lq rfl) rfl; focus (intro hb; simp only [gd, Bool.not_eq_true'] at hb; (try rw [hb]); (try simp only [decide_eq_true_eq, decide_eq_false_iff_not, Bool.and_eq_true, Bool.or_eq_false_iff, Bool.not_eq_true'] at hb); first | exact a_move_d (lq rfl) rfl | exact a_move_row (lq rfl) rfl | exact a_move_ptr (lq rfl) rfl | exact a_move_ip (lq rfl) rfl | exact a_move_tup (lq rfl) rfl)) | (apply sq_g2 rfl rfl rfl (lq rfl) (lq rfl) rfl; focus (intro hb; simp only [gd, Bool.and_eq_true, Bool.not_eq_true'] at hb; (try rw [hb.1]); (try rw [hb.2]); (try simp only [decide_eq_true_eq, decide_eq_false_iff_not, Bool.and_eq_true, Bool.or_eq_false_iff, Bool.not_eq_true'] at hb); first | exact a_move_d (lq rfl) rfl | exact a_move_row (lq rfl) rfl | exact a_move_ptr (lq rfl) rfl | exact a_move_ip (lq rfl) rfl | exact a_move_tup (lq rfl) rfl))
      first | (apply sq_g rfl rfl rfl (lq rfl) (lq rfl) rfl; focus (intro hb; simp only [gd, Bool.not_eq_true'] at hb; (try rw [hb]); (try simp only [decide_eq_true_eq, decide_eq_false_iff_not, Bool.and_eq_true, Bool.or_eq_false_iff, Bool.not_eq_true'] at hb); exact a_leq (lq rfl) rfl rfl)) | (apply sq_g2 rfl rfl rfl (lq rfl) (lq rfl) rfl; focus (intro hb; simp only [gd, Bool.and_eq_true, Bool.not_eq_true'] at hb; (try rw [hb.1]); (try rw [hb.2]); (try simp only [decide_eq_true_eq, decide_eq_false_iff_not, Bool.and_eq_true, Bool.or_eq_false_iff, Bool.not_eq_true'] at hb); exact a_leq (lq rfl) rfl rfl))
      first | refine sq_a (ag_plain rfl (a_pick_and (lq rfl) rfl rfl)) ?_ | refine sq_a (ag_plain rfl (a_pick_td (lq rfl) rfl rfl)) ?_ | refine sq_a (ag_plain rfl (a_pick_fd (lq rfl) rfl rfl)) ?_
      refine sq_nil ?_
      refine avc_if rfl ⟨fun hc1 => ?_, fun hc1 => ?_⟩
      ·
        try simp only [Bool.and_eq_true, Bool.or_eq_true, Bool.not_eq_true', Bool.and_eq_false_iff, Bool.or_eq_false_iff, Bool.not_eq_false', decide_eq_true_eq, decide_eq_false_iff_not, Int.not_lt, Int.not_le] at hc1
        refine avc_sq ?_
        first | refine sq_a (ag_plain rfl (a_load_box (lq rfl) O22 rfl rfl rfl)) ?_ | refine sq_a (ag_plain rfl (a_load_pt (lq rfl) O22 rfl rfl)) ?_ | refine sq_a (ag_plain rfl (a_load_ip (lq rfl) O22 rfl (get_map 0 (by omega)))) ?_ | refine sq_a (ag_plain rfl (a_load_row (lq rfl) O22 rfl rfl (get_map 0 (by omega)))) ?_
        first | refine sq_a (ag_plain rfl (a_move_d (lq rfl) rfl)) ?_ | refine sq_a (ag_plain rfl (a_move_row (lq rfl) rfl)) ?_ | refine sq_a (ag_plain rfl (a_move_ptr (lq rfl) rfl)) ?_ | refine sq_a (ag_plain rfl (a_move_ip (lq rfl) rfl)) ?_ | refine sq_a (ag_plain rfl (a_move_tup (lq rfl) rfl)) ?_
        first | refine sq_a (ag_plain rfl (a_move_d (lq rfl) rfl)) ?_ | refine sq_a (ag_plain rfl (a_move_row (lq rfl) rfl)) ?_ | refine sq_a (ag_plain rfl (a_move_ptr (lq rfl) rfl)) ?_ | refine sq_a (ag_plain rfl (a_move_ip (lq rfl) rfl)) ?_ | refine sq_a (ag_plain rfl (a_move_tup (lq rfl) rfl)) ?_
        first | refine sq_a (ag_plain rfl (a_index_d (lq rfl) S22 rfl rfl rfl len_rep (by omega))) ?_ | refine sq_a (ag_plain rfl (a_index_d (lq rfl) S22 rfl rfl rfl len_map (by omega))) ?_ | refine sq_a (ag_plain rfl (a_index_d (lq rfl) S22 rfl rfl rfl len_app2 (by omega))) ?_ | refine sq_a (ag_plain rfl (a_index_row (lq rfl) S22 rfl rfl rfl rfl len_rep (by omega))) ?_ | refine sq_a (ag_plain rfl (a_index_row (lq rfl) S22 rfl rfl rfl rfl len_map (by omega))) ?_ | refine sq_a (ag_plain rfl (a_index_row (lq rfl) S22 rfl rfl rfl rfl len_app2 (by omega))) ?_ | refine sq_a (ag_plain rfl (a_index_d (lq rfl) S22 rfl rfl (ix_add1 _) len_rep (by omega))) ?_ | refine sq_a (ag_plain rfl (a_index_d (lq rfl) S22 rfl rfl (ix_add1 _) len_map (by omega))) ?_ | refine sq_a (ag_plain rfl (a_index_d (lq rfl) S22 rfl rfl (ix_add1 _) len_app2 (by omega))) ?_ | refine sq_a (ag_plain rfl (a_index_row (lq rfl) S22 rfl rfl rfl (ix_add1 _) len_rep (by omega))) ?_ | refine sq_a (ag_plain rfl (a_index_row (lq rfl) S22 rfl rfl rfl (ix_add1 _) len_map (by omega))) ?_ | refine sq_a (ag_plain rfl (a_index_row (lq rfl) S22 rfl rfl rfl (ix_add1 _) len_app2 (by omega))) ?_ | refine sq_a (ag_plain rfl (a_index_d (lq rfl) S22 rfl rfl (ix_nat (by omega)) len_rep (by omega))) ?_ | refine sq_a (ag_plain rfl (a_index_d (lq rfl) S22 rfl rfl (ix_nat (by omega)) len_map (by omega))) ?_ | refine sq_a (ag_plain rfl (a_index_d (lq rfl) S22 rfl rfl (ix_nat (by omega)) len_app2 (by omega))) ?_ | refine sq_a (ag_plain rfl (a_index_row (lq rfl) S22 rfl rfl rfl (ix_nat (by omega)) len_rep (by omega))) ?_ | refine sq_a (ag_plain rfl (a_index_row (lq rfl) S22 rfl rfl rfl (ix_nat (by omega)) len_map (by omega))) ?_ | refine sq_a (ag_plain rfl (a_index_row (lq rfl) S22 rfl rfl rfl (ix_nat (by omega)) len_app2 (by omega))) ?_
        first | refine sq_b rfl (s_store_box_d O3 rfl rfl (lq rfl) rfl rfl rfl) ?_ | refine sq_b rfl (s_store_box_row O3 rfl rfl (lq rfl) rfl rfl rfl) ?_ | refine sq_b rfl (step_store_row O3 rfl rfl (by simp; omega) rfl rfl rfl) ?_
        refine sq_nil ?_
        refine avc_sq ?_
        refine sq_a (ag_plain rfl (a_add (lq rfl) rfl rfl (w64 (by omega) (by omega)))) ?_
        first | refine sq_a (ag_plain rfl (a_move_d (lq rfl) rfl)) ?_ | refine sq_a (ag_plain rfl (a_move_row (lq rfl) rfl)) ?_ | refine sq_a (ag_plain rfl (a_move_ptr (lq rfl) rfl)) ?_ | refine sq_a (ag_plain rfl (a_move_ip (lq rfl) rfl)) ?_ | refine sq_a (ag_plain rfl (a_move_tup (lq rfl) rfl)) ?_
        refine sq_nil ?_
        first | refine loop_end  (j := k + 1) ?_ ?_ ?_ | refine loop_end  (K := fun _ _ => True) (j := k + 1) ?_ ?_ ?_
        · omega
        · omega
        · refine weak_cov ⟨?_, ?_, ?_, ?_, ?_, trivial⟩ ⟨?_, ?_, ?_, trivial⟩ <;> (first | rfl | exact cov_int (by omega) | exact cov_row (cw_setD (by omega) (by omega)))
      ·
        try simp only [Bool.and_eq_true, Bool.or_eq_true, Bool.not_eq_true', Bool.and_eq_false_iff, Bool.or_eq_false_iff, Bool.not_eq_false', decide_eq_true_eq, decide_eq_false_iff_not, Int.not_lt, Int.not_le] at hc1
        refine avc_skip ?_
        refine avc_sq ?_
        refine sq_a (ag_plain rfl (a_add (lq rfl) rfl rfl (w64 (by omega) (by omega)))) ?_
        first | refine sq_a (ag_plain rfl (a_move_d (lq rfl) rfl)) ?_ | refine sq_a (ag_plain rfl (a_move_row (lq rfl) rfl)) ?_ | refine sq_a (ag_plain rfl (a_move_ptr (lq rfl) rfl)) ?_ | refine sq_a (ag_plain rfl (a_move_ip (lq rfl) rfl)) ?_ | refine sq_a (ag_plain rfl (a_move_tup (lq rfl) rfl)) ?_
        refine sq_nil ?_
        first | refine loop_end  (j := k + 1) ?_ ?_ ?_ | refine loop_end  (K := fun _ _ => True) (j := k + 1) ?_ ?_ ?_
        · omega
        · omega
        · refine weak_cov ⟨?_, ?_, ?_, ?_, ?_, trivial⟩ ⟨?_, ?_, ?_, trivial⟩ <;> (first | rfl | exact cov_int (by omega) | exact cov_row (congrArg (List.map di) (cw_skip (by omega) (by omega))))
    ·
      try simp only [Bool.and_eq_true, Bool.or_eq_true, Bool.not_eq_true', Bool.and_eq_false_iff, Bool.or_eq_false_iff, Bool.not_eq_false', decide_eq_true_eq, decide_eq_false_iff_not, Int.not_lt, Int.not_le] at hc0
      refine avc_exit ?_
      refine avc_sq2 ?_
      refine avc_sq ?_
      refine sq_b rfl (step_alloc (zs := [(.slice none 0 0)]) (lq rfl) (by kernel_rfl) rfl rfl) ?_
      refine sq_nil ?_
      refine avc_sq2 ?_
      refine avc_sq ?_
      refine sq_b rfl (step_alloc (zs := [(.int IntKind.i64 (0))]) (lq rfl) (by kernel_rfl) rfl rfl) ?_
      first | refine sq_b rfl (s_store_box_d O3 rfl rfl (lq rfl) rfl rfl rfl) ?_ | refine sq_b rfl (s_store_box_row O3 rfl rfl (lq rfl) rfl rfl rfl) ?_ | refine sq_b rfl (step_store_row O3 rfl rfl (by simp; omega) rfl rfl rfl) ?_
      refine sq_nil ?_
      refine avc_sq2 ?_
      refine avc_sq2 ?_
      refine avc_sq ?_
      have hk : k = l.length := by omega
      subst hk
      refine sq_weak (weak_trans (weak_row_box (bid := 6) (off := 0) rfl rfl rfl) (weak_nil_box (bid := 9) (off := 0) 99 3 1 (by decide) (by decide) rfl rfl rfl)) ?_ (by simp)
      refine sq_weak (weak_cov (S' := ⟨[(5, .ptr 5 0), (6, .ptr 6 0), (9, .ptr 9 0), (10, .ptr 10 0)], [(5, .box 3 [.d (di (common c))]), (6, .box 22 [.d (.ints (plain l))]), (9, .box 22 [.row 99]), (99, .row 3 1 false (([]).map di)), (10, .box 3 [.d (di 0)])]⟩) ⟨?_, ?_, ?_, ?_, trivial⟩ ⟨?_, ?_, ?_, ?_, ?_, trivial⟩) ?_ (by simp)
      iterate 9 first | rfl | exact congrArg (fun z => Blk.box 22 [AV.d (.ints z)]) (cw_full l) | skip
      first | refine sq_a (ag_plain rfl (a_load_box (lq rfl) O22 rfl rfl rfl)) ?_ | refine sq_a (ag_plain rfl (a_load_pt (lq rfl) O22 rfl rfl)) ?_ | refine sq_a (ag_plain rfl (a_load_ip (lq rfl) O22 rfl (get_map 0 (by omega)))) ?_ | refine sq_a (ag_plain rfl (a_load_row (lq rfl) O22 rfl rfl (get_map 0 (by omega)))) ?_
      refine sq_a (ag_plain rfl (a_call (lq rfl) rfl (runs_c _))) ?_
      refine sq_nil ?_
      refine avc_block ?_
      refine avc_range [(5, .ptr 5 0), (6, .ptr 6 0), (9, .ptr 9 0), (10, .ptr 10 0)] [5, 6, 9, 10] (fun k => [(5, .box 3 [.d (di (common c))]), (6, .box 22 [.d (.ints (plain l))]), (9, .box 22 [.row 99]), (99, .row 3 1 false ((outR (common c) (runsF (plain l)) k).map di)), (10, .box 3 [.d (di (atR (runsF (plain l)) k))])]) rfl (runs1_i (plain l) (by omega)) rfl (fun _ _ _ _ h => h) ?hk ?hT rfl (fun _ => rfl) ?hbx (fun _ _ => rfl) (runI_len _) ?hpn ?rd ?hK
      case hk => refine ⟨?_, ?_, ?_, ?_, trivial⟩ <;> (first | rfl | exact cov_int (by omega) | exact cov_row (by simp [di, flatDV]))
      case hT => refine ⟨?_, ?_, ?_, ?_, ?_, trivial⟩ <;> (first | rfl | exact cov_int (by omega) | exact cov_row (by simp [di, flatDV]))
      case hbx => intro k id hi; simp at hi; rcases hi with rfl | rfl | rfl | rfl <;> exact fun (h : Blk.box _ _ = Blk.none) => by cases h
      case hpn => intro p hp; simp at hp; rcases hp with rfl | rfl <;> exact (lq rfl)
      case rd =>
        intro w1 Iall X C0 ρ0 defs l1 D lp1 lp2 hok k x hx
        obtain ⟨v, n, hr, rfl⟩ := runI_get hx
        have hin := runsF_mem (List.mem_of_getElem? hr)
        have hv := plain_in hin.2.1
        have hat := atR_succ hr
        have hlow := atR_low (m := common c) hr
        rw [hat] at hlow
        have hout := outR_succ (m := common c) hr
        have hol := outR_le (common c) (runsF_ok (plain l)) k
        refine avc_sq2 ?_
        refine avc_sq ?_
        first | refine sq_a (ag_plain rfl (a_assign_d (lq rfl) rfl)) ?_ | refine sq_a (ag_plain rfl (a_assign_row (lq rfl) rfl)) ?_ | refine sq_a (ag_plain rfl (a_assign_ptr (lq rfl) rfl)) ?_
        refine sq_nil ?_
        refine avc_sq ?_
        first | refine sq_a (ag_plain rfl (a_assign_d (lq rfl) rfl)) ?_ | refine sq_a (ag_plain rfl (a_assign_row (lq rfl) rfl)) ?_ | refine sq_a (ag_plain rfl (a_assign_ptr (lq rfl) rfl)) ?_
        refine sq_nil ?_
        refine avc_block ?_
        refine avc_sq2 ?_
        refine avc_sq ?_
        first | refine sq_a (ag_plain rfl (a_load_box (lq rfl) O3 rfl rfl rfl)) ?_ | refine sq_a (ag_plain rfl (a_load_pt (lq rfl) O3 rfl rfl)) ?_ | refine sq_a (ag_plain rfl (a_load_ip (lq rfl) O3 rfl (get_map 0 (by omega)))) ?_ | refine sq_a (ag_plain rfl (a_load_row (lq rfl) O3 rfl rfl (get_map 0 (by omega)))) ?_
        first | refine sq_a (ag_plain rfl (a_move_d (lq rfl) rfl)) ?_ | refine sq_a (ag_plain rfl (a_move_row (lq rfl) rfl)) ?_ | refine sq_a (ag_plain rfl (a_move_ptr (lq rfl) rfl)) ?_ | refine sq_a (ag_plain rfl (a_move_ip (lq rfl) rfl)) ?_ | refine sq_a (ag_plain rfl (a_move_tup (lq rfl) rfl)) ?_
        refine sq_a (ag_plain rfl (a_add (lq rfl) rfl rfl (w64 (by omega) (by omega)))) ?_
        first | refine sq_b rfl (s_store_box_d O3 rfl rfl (lq rfl) rfl rfl rfl) ?_ | refine sq_b rfl (s_store_box_row O3 rfl rfl (lq rfl) rfl rfl rfl) ?_ | refine sq_b rfl (step_store_row O3 rfl rfl (by simp; omega) rfl rfl rfl) ?_
        refine sq_nil ?_
        refine avc_sq2 ?_
        refine avc_sq2 ?_
        refine avc_sq ?_
        first | refine sq_a (ag_plain rfl (a_move_d (lq rfl) rfl)) ?_ | refine sq_a (ag_plain rfl (a_move_row (lq rfl) rfl)) ?_ | refine sq_a (ag_plain rfl (a_move_ptr (lq rfl) rfl)) ?_ | refine sq_a (ag_plain rfl (a_move_ip (lq rfl) rfl)) ?_ | refine sq_a (ag_plain rfl (a_move_tup (lq rfl) rfl)) ?_
        first | refine sq_a (ag_plain rfl (a_load_box (lq rfl) O3 rfl rfl rfl)) ?_ | refine sq_a (ag_plain rfl (a_load_pt (lq rfl) O3 rfl rfl)) ?_ | refine sq_a (ag_plain rfl (a_load_ip (lq rfl) O3 rfl (get_map 0 (by omega)))) ?_ | refine sq_a (ag_plain rfl (a_load_row (lq rfl) O3 rfl rfl (get_map 0 (by omega)))) ?_
        refine sq_a (ag_plain rfl (a_gtr (lq rfl) rfl rfl)) ?_
        refine sq_nil ?_
        refine avc_if rfl ⟨fun hc2 => ?_, fun hc2 => ?_⟩
        ·
          try simp only [Bool.and_eq_true, Bool.or_eq_true, Bool.not_eq_true', Bool.and_eq_false_iff, Bool.or_eq_false_iff, Bool.not_eq_false', decide_eq_true_eq, decide_eq_false_iff_not, Int.not_lt, Int.not_le] at hc2
          refine avc_sq ?_
          first | refine sq_a (ag_plain rfl (a_move_d (lq rfl) rfl)) ?_ | refine sq_a (ag_plain rfl (a_move_row (lq rfl) rfl)) ?_ | refine sq_a (ag_plain rfl (a_move_ptr (lq rfl) rfl)) ?_ | refine sq_a (ag_plain rfl (a_move_ip (lq rfl) rfl)) ?_ | refine sq_a (ag_plain rfl (a_move_tup (lq rfl) rfl)) ?_
          refine sq_a (ag_plain rfl (a_add (lq rfl) rfl rfl (w64 (by omega) (by omega)))) ?_
          first | refine sq_a (ag_plain rfl (a_assign_d (lq rfl) rfl)) ?_ | refine sq_a (ag_plain rfl (a_assign_row (lq rfl) rfl)) ?_ | refine sq_a (ag_plain rfl (a_assign_ptr (lq rfl) rfl)) ?_
          refine sq_nil ?_
          refine avc_sq2 ?_
          refine avc_sq2 ?_
          refine avc_sq ?_
          first | refine sq_a (ag_plain rfl (a_move_d (lq rfl) rfl)) ?_ | refine sq_a (ag_plain rfl (a_move_row (lq rfl) rfl)) ?_ | refine sq_a (ag_plain rfl (a_move_ptr (lq rfl) rfl)) ?_ | refine sq_a (ag_plain rfl (a_move_ip (lq rfl) rfl)) ?_ | refine sq_a (ag_plain rfl (a_move_tup (lq rfl) rfl)) ?_
          first | refine sq_a (ag_plain rfl (a_load_box (lq rfl) O3 rfl rfl rfl)) ?_ | refine sq_a (ag_plain rfl (a_load_pt (lq rfl) O3 rfl rfl)) ?_ | refine sq_a (ag_plain rfl (a_load_ip (lq rfl) O3 rfl (get_map 0 (by omega)))) ?_ | refine sq_a (ag_plain rfl (a_load_row (lq rfl) O3 rfl rfl (get_map 0 (by omega)))) ?_
          refine sq_a (ag_plain rfl (a_neq (lq rfl) rfl rfl)) ?_
          refine sq_nil ?_
          refine avc_if rfl ⟨fun hc3 => ?_, fun hc3 => ?_⟩
          ·
            try simp only [Bool.and_eq_true, Bool.or_eq_true, Bool.not_eq_true', Bool.and_eq_false_iff, Bool.or_eq_false_iff, Bool.not_eq_false', decide_eq_true_eq, decide_eq_false_iff_not, Int.not_lt, Int.not_le] at hc3
            refine avc_sq2 ?_
            refine avc_draw 5 MX rfl ?_
            first | refine da_a (ag_plain rfl (a_load_box (lq rfl) O22 rfl rfl rfl)) ?_ | refine da_a (ag_plain rfl (a_load_pt (lq rfl) O22 rfl rfl)) ?_ | refine da_a (ag_plain rfl (a_load_ip (lq rfl) O22 rfl (get_map 0 (by omega)))) ?_ | refine da_a (ag_plain rfl (a_load_row (lq rfl) O22 rfl rfl (get_map 0 (by omega)))) ?_
            first | refine da_a (ag_plain rfl (a_move_d (lq rfl) rfl)) ?_ | refine da_a (ag_plain rfl (a_move_row (lq rfl) rfl)) ?_ | refine da_a (ag_plain rfl (a_move_ptr (lq rfl) rfl)) ?_ | refine da_a (ag_plain rfl (a_move_ip (lq rfl) rfl)) ?_ | refine da_a (ag_plain rfl (a_move_tup (lq rfl) rfl)) ?_
            refine da_a (ag_plain rfl (a_lit (lq rfl) S22 rfl rfl rfl rfl (by decide) rfl)) ?_
            first | refine da_a (ag_plain rfl (a_move_d (lq rfl) rfl)) ?_ | refine da_a (ag_plain rfl (a_move_row (lq rfl) rfl)) ?_ | refine da_a (ag_plain rfl (a_move_ptr (lq rfl) rfl)) ?_ | refine da_a (ag_plain rfl (a_move_ip (lq rfl) rfl)) ?_ | refine da_a (ag_plain rfl (a_move_tup (lq rfl) rfl)) ?_
            refine da_a (ag_plain rfl (a_call (lq rfl) rfl (repeat_c _ _ (by omega)))) ?_
            refine da_nil ?_
            first | refine sq_b rfl (s_append_d (lq rfl) S22 rfl rfl rfl len_rep len_rep (by decide) (by omega) rfl rfl) ?_ | refine sq_b rfl (s_append_row (lq rfl) S22 rfl rfl rfl rfl len_rep len_rep (by decide) (by omega) rfl rfl) ?_ | refine sq_b rfl (s_append_d (lq rfl) S22 rfl rfl rfl len_rep len_map (by decide) (by omega) rfl rfl) ?_ | refine sq_b rfl (s_append_row (lq rfl) S22 rfl rfl rfl rfl len_rep len_map (by decide) (by omega) rfl rfl) ?_ | refine sq_b rfl (s_append_d (lq rfl) S22 rfl rfl rfl len_rep len_app2 (by decide) (by omega) rfl rfl) ?_ | refine sq_b rfl (s_append_row (lq rfl) S22 rfl rfl rfl rfl len_rep len_app2 (by decide) (by omega) rfl rfl) ?_ | refine sq_b rfl (s_append_d (lq rfl) S22 rfl rfl rfl len_rep rfl (by decide) (by omega) rfl rfl) ?_ | refine sq_b rfl (s_append_row (lq rfl) S22 rfl rfl rfl rfl len_rep rfl (by decide) (by omega) rfl rfl) ?_ | refine sq_b rfl (s_append_d (lq rfl) S22 rfl rfl rfl len_map len_rep (by decide) (by omega) rfl rfl) ?_ | refine sq_b rfl (s_append_row (lq rfl) S22 rfl rfl rfl rfl len_map len_rep (by decide) (by omega) rfl rfl) ?_ | refine sq_b rfl (s_append_d (lq rfl) S22 rfl rfl rfl len_map len_map (by decide) (by omega) rfl rfl) ?_ | refine sq_b rfl (s_append_row (lq rfl) S22 rfl rfl rfl rfl len_map len_map (by decide) (by omega) rfl rfl) ?_ | refine sq_b rfl (s_append_d (lq rfl) S22 rfl rfl rfl len_map len_app2 (by decide) (by omega) rfl rfl) ?_ | refine sq_b rfl (s_append_row (lq rfl) S22 rfl rfl rfl rfl len_map len_app2 (by decide) (by omega) rfl rfl) ?_ | refine sq_b rfl (s_append_d (lq rfl) S22 rfl rfl rfl len_map rfl (by decide) (by omega) rfl rfl) ?_ | refine sq_b rfl (s_append_row (lq rfl) S22 rfl rfl rfl rfl len_map rfl (by decide) (by omega) rfl rfl) ?_ | refine sq_b rfl (s_append_d (lq rfl) S22 rfl rfl rfl len_app2 len_rep (by decide) (by omega) rfl rfl) ?_ | refine sq_b rfl (s_append_row (lq rfl) S22 rfl rfl rfl rfl len_app2 len_rep (by decide) (by omega) rfl rfl) ?_ | refine sq_b rfl (s_append_d (lq rfl) S22 rfl rfl rfl len_app2 len_map (by decide) (by omega) rfl rfl) ?_ | refine sq_b rfl (s_append_row (lq rfl) S22 rfl rfl rfl rfl len_app2 len_map (by decide) (by omega) rfl rfl) ?_ | refine sq_b rfl (s_append_d (lq rfl) S22 rfl rfl rfl len_app2 len_app2 (by decide) (by omega) rfl rfl) ?_ | refine sq_b rfl (s_append_row (lq rfl) S22 rfl rfl rfl rfl len_app2 len_app2 (by decide) (by omega) rfl rfl) ?_ | refine sq_b rfl (s_append_d (lq rfl) S22 rfl rfl rfl len_app2 rfl (by decide) (by omega) rfl rfl) ?_ | refine sq_b rfl (s_append_row (lq rfl) S22 rfl rfl rfl rfl len_app2 rfl (by decide) (by omega) rfl rfl) ?_
            first | refine sq_b rfl (s_store_box_d O22 rfl rfl (lq rfl) rfl rfl rfl) ?_ | refine sq_b rfl (s_store_box_row O22 rfl rfl (lq rfl) rfl rfl rfl) ?_ | refine sq_b rfl (step_store_row O22 rfl rfl (by simp; omega) rfl rfl rfl) ?_
            refine sq_nil ?_
            refine avc_exit ?_
            refine rnd_end ⟨?_, ?_, ?_, ?_, ?_, trivial⟩ <;> (first | rfl | exact cov_int (by omega) | exact congrArg (fun z => Blk.box 3 [AV.d (di z)]) (by omega : (_ : Int) + _ = _) | exact cov_row (pack_oth hout (by omega) (by rw [if_neg (by omega)])))
          ·
            try simp only [Bool.and_eq_true, Bool.or_eq_true, Bool.not_eq_true', Bool.and_eq_false_iff, Bool.or_eq_false_iff, Bool.not_eq_false', decide_eq_true_eq, decide_eq_false_iff_not, Int.not_lt, Int.not_le] at hc3
            exfalso; omega
        ·
          try simp only [Bool.and_eq_true, Bool.or_eq_true, Bool.not_eq_true', Bool.and_eq_false_iff, Bool.or_eq_false_iff, Bool.not_eq_false', decide_eq_true_eq, decide_eq_false_iff_not, Int.not_lt, Int.not_le] at hc2
          refine avc_skip ?_
          refine avc_sq2 ?_
          refine avc_sq2 ?_
          refine avc_sq ?_
          first | refine sq_a (ag_plain rfl (a_move_d (lq rfl) rfl)) ?_ | refine sq_a (ag_plain rfl (a_move_row (lq rfl) rfl)) ?_ | refine sq_a (ag_plain rfl (a_move_ptr (lq rfl) rfl)) ?_ | refine sq_a (ag_plain rfl (a_move_ip (lq rfl) rfl)) ?_ | refine sq_a (ag_plain rfl (a_move_tup (lq rfl) rfl)) ?_
          first | refine sq_a (ag_plain rfl (a_load_box (lq rfl) O3 rfl rfl rfl)) ?_ | refine sq_a (ag_plain rfl (a_load_pt (lq rfl) O3 rfl rfl)) ?_ | refine sq_a (ag_plain rfl (a_load_ip (lq rfl) O3 rfl (get_map 0 (by omega)))) ?_ | refine sq_a (ag_plain rfl (a_load_row (lq rfl) O3 rfl rfl (get_map 0 (by omega)))) ?_
          refine sq_a (ag_plain rfl (a_neq (lq rfl) rfl rfl)) ?_
          refine sq_nil ?_
          refine avc_if rfl ⟨fun hc3 => ?_, fun hc3 => ?_⟩
          ·
            try simp only [Bool.and_eq_true, Bool.or_eq_true, Bool.not_eq_true', Bool.and_eq_false_iff, Bool.or_eq_false_iff, Bool.not_eq_false', decide_eq_true_eq, decide_eq_false_iff_not, Int.not_lt, Int.not_le] at hc3
            refine avc_sq2 ?_
            refine avc_draw 5 MX rfl ?_
            first | refine da_a (ag_plain rfl (a_load_box (lq rfl) O22 rfl rfl rfl)) ?_ | refine da_a (ag_plain rfl (a_load_pt (lq rfl) O22 rfl rfl)) ?_ | refine da_a (ag_plain rfl (a_load_ip (lq rfl) O22 rfl (get_map 0 (by omega)))) ?_ | refine da_a (ag_plain rfl (a_load_row (lq rfl) O22 rfl rfl (get_map 0 (by omega)))) ?_
            first | refine da_a (ag_plain rfl (a_move_d (lq rfl) rfl)) ?_ | refine da_a (ag_plain rfl (a_move_row (lq rfl) rfl)) ?_ | refine da_a (ag_plain rfl (a_move_ptr (lq rfl) rfl)) ?_ | refine da_a (ag_plain rfl (a_move_ip (lq rfl) rfl)) ?_ | refine da_a (ag_plain rfl (a_move_tup (lq rfl) rfl)) ?_
            refine da_a (ag_plain rfl (a_lit (lq rfl) S22 rfl rfl rfl rfl (by decide) rfl)) ?_
            first | refine da_a (ag_plain rfl (a_move_d (lq rfl) rfl)) ?_ | refine da_a (ag_plain rfl (a_move_row (lq rfl) rfl)) ?_ | refine da_a (ag_plain rfl (a_move_ptr (lq rfl) rfl)) ?_ | refine da_a (ag_plain rfl (a_move_ip (lq rfl) rfl)) ?_ | refine da_a (ag_plain rfl (a_move_tup (lq rfl) rfl)) ?_
            refine da_a (ag_plain rfl (a_call (lq rfl) rfl (repeat_c _ _ (by omega)))) ?_
            refine da_nil ?_
            first | refine sq_b rfl (s_append_d (lq rfl) S22 rfl rfl rfl len_rep len_rep (by decide) (by omega) rfl rfl) ?_ | refine sq_b rfl (s_append_row (lq rfl) S22 rfl rfl rfl rfl len_rep len_rep (by decide) (by omega) rfl rfl) ?_ | refine sq_b rfl (s_append_d (lq rfl) S22 rfl rfl rfl len_rep len_map (by decide) (by omega) rfl rfl) ?_ | refine sq_b rfl (s_append_row (lq rfl) S22 rfl rfl rfl rfl len_rep len_map (by decide) (by omega) rfl rfl) ?_ | refine sq_b rfl (s_append_d (lq rfl) S22 rfl rfl rfl len_rep len_app2 (by decide) (by omega) rfl rfl) ?_ | refine sq_b rfl (s_append_row (lq rfl) S22 rfl rfl rfl rfl len_rep len_app2 (by decide) (by omega) rfl rfl) ?_ | refine sq_b rfl (s_append_d (lq rfl) S22 rfl rfl rfl len_rep rfl (by decide) (by omega) rfl rfl) ?_ | refine sq_b rfl (s_append_row (lq rfl) S22 rfl rfl rfl rfl len_rep rfl (by decide) (by omega) rfl rfl) ?_ | refine sq_b rfl (s_append_d (lq rfl) S22 rfl rfl rfl len_map len_rep (by decide) (by omega) rfl rfl) ?_ | refine sq_b rfl (s_append_row (lq rfl) S22 rfl rfl rfl rfl len_map len_rep (by decide) (by omega) rfl rfl) ?_ | refine sq_b rfl (s_append_d (lq rfl) S22 rfl rfl rfl len_map len_map (by decide) (by omega) rfl rfl) ?_ | refine sq_b rfl (s_append_row (lq rfl) S22 rfl rfl rfl rfl len_map len_map (by decide) (by omega) rfl rfl) ?_ | refine sq_b rfl (s_append_d (lq rfl) S22 rfl rfl rfl len_map len_app2 (by decide) (by omega) rfl rfl) ?_ | refine sq_b rfl (s_append_row (lq rfl) S22 rfl rfl rfl rfl len_map len_app2 (by decide) (by omega) rfl rfl) ?_ | refine sq_b rfl (s_append_d (lq rfl) S22 rfl rfl rfl len_map rfl (by decide) (by omega) rfl rfl) ?_ | refine sq_b rfl (s_append_row (lq rfl) S22 rfl rfl rfl rfl len_map rfl (by decide) (by omega) rfl rfl) ?_ | refine sq_b rfl (s_append_d (lq rfl) S22 rfl rfl rfl len_app2 len_rep (by decide) (by omega) rfl rfl) ?_ | refine sq_b rfl (s_append_row (lq rfl) S22 rfl rfl rfl rfl len_app2 len_rep (by decide) (by omega) rfl rfl) ?_ | refine sq_b rfl (s_append_d (lq rfl) S22 rfl rfl rfl len_app2 len_map (by decide) (by omega) rfl rfl) ?_ | refine sq_b rfl (s_append_row (lq rfl) S22 rfl rfl rfl rfl len_app2 len_map (by decide) (by omega) rfl rfl) ?_ | refine sq_b rfl (s_append_d (lq rfl) S22 rfl rfl rfl len_app2 len_app2 (by decide) (by omega) rfl rfl) ?_ | refine sq_b rfl (s_append_row (lq rfl) S22 rfl rfl rfl rfl len_app2 len_app2 (by decide) (by omega) rfl rfl) ?_ | refine sq_b rfl (s_append_d (lq rfl) S22 rfl rfl rfl len_app2 rfl (by decide) (by omega) rfl rfl) ?_ | refine sq_b rfl (s_append_row (lq rfl) S22 rfl rfl rfl rfl len_app2 rfl (by decide) (by omega) rfl rfl) ?_
            first | refine sq_b rfl (s_store_box_d O22 rfl rfl (lq rfl) rfl rfl rfl) ?_ | refine sq_b rfl (s_store_box_row O22 rfl rfl (lq rfl) rfl rfl rfl) ?_ | refine sq_b rfl (step_store_row O22 rfl rfl (by simp; omega) rfl rfl rfl) ?_
            refine sq_nil ?_
            refine avc_exit ?_
            refine rnd_end ⟨?_, ?_, ?_, ?_, ?_, trivial⟩ <;> (first | rfl | exact cov_int (by omega) | exact congrArg (fun z => Blk.box 3 [AV.d (di z)]) (by omega : (_ : Int) + _ = _) | exact cov_row (pack_oth hout (by omega) (by rw [if_pos (by omega)])))
          ·
            try simp only [Bool.and_eq_true, Bool.or_eq_true, Bool.not_eq_true', Bool.and_eq_false_iff, Bool.or_eq_false_iff, Bool.not_eq_false', decide_eq_true_eq, decide_eq_false_iff_not, Int.not_lt, Int.not_le] at hc3
            refine avc_skip ?_
            refine avc_sq2 ?_
            refine avc_draw 8 MX rfl ?_
            first | refine da_a (ag_plain rfl (a_load_box (lq rfl) O22 rfl rfl rfl)) ?_ | refine da_a (ag_plain rfl (a_load_pt (lq rfl) O22 rfl rfl)) ?_ | refine da_a (ag_plain rfl (a_load_ip (lq rfl) O22 rfl (get_map 0 (by omega)))) ?_ | refine da_a (ag_plain rfl (a_load_row (lq rfl) O22 rfl rfl (get_map 0 (by omega)))) ?_
            first | refine da_a (ag_plain rfl (a_load_box (lq rfl) O3 rfl rfl rfl)) ?_ | refine da_a (ag_plain rfl (a_load_pt (lq rfl) O3 rfl rfl)) ?_ | refine da_a (ag_plain rfl (a_load_ip (lq rfl) O3 rfl (get_map 0 (by omega)))) ?_ | refine da_a (ag_plain rfl (a_load_row (lq rfl) O3 rfl rfl (get_map 0 (by omega)))) ?_
            refine da_a (ag_plain rfl (a_add (lq rfl) rfl rfl (w64 (by omega) (by omega)))) ?_
            refine da_a (ag_plain rfl (a_sub (lq rfl) rfl rfl (w64 (by omega) (by omega)))) ?_
            refine da_a (ag_plain rfl (a_lit (lq rfl) S22 rfl rfl rfl rfl (by decide) rfl)) ?_
            first | refine da_a (ag_plain rfl (a_move_d (lq rfl) rfl)) ?_ | refine da_a (ag_plain rfl (a_move_row (lq rfl) rfl)) ?_ | refine da_a (ag_plain rfl (a_move_ptr (lq rfl) rfl)) ?_ | refine da_a (ag_plain rfl (a_move_ip (lq rfl) rfl)) ?_ | refine da_a (ag_plain rfl (a_move_tup (lq rfl) rfl)) ?_
            refine da_a (ag_plain rfl ((a_quo (lq rfl) rfl rfl (by omega) (by omega) (w64 (by omega) (by omega))).int (b := ((n / 8 : Nat) : Int)) (by omega))) ?_
            refine da_a (ag_plain rfl (a_call (lq rfl) rfl (repeat_c _ _ (by omega)))) ?_
            refine da_nil ?_
            first | refine sq_b rfl (s_append_d (lq rfl) S22 rfl rfl rfl len_rep len_rep (by decide) (by omega) rfl rfl) ?_ | refine sq_b rfl (s_append_row (lq rfl) S22 rfl rfl rfl rfl len_rep len_rep (by decide) (by omega) rfl rfl) ?_ | refine sq_b rfl (s_append_d (lq rfl) S22 rfl rfl rfl len_rep len_map (by decide) (by omega) rfl rfl) ?_ | refine sq_b rfl (s_append_row (lq rfl) S22 rfl rfl rfl rfl len_rep len_map (by decide) (by omega) rfl rfl) ?_ | refine sq_b rfl (s_append_d (lq rfl) S22 rfl rfl rfl len_rep len_app2 (by decide) (by omega) rfl rfl) ?_ | refine sq_b rfl (s_append_row (lq rfl) S22 rfl rfl rfl rfl len_rep len_app2 (by decide) (by omega) rfl rfl) ?_ | refine sq_b rfl (s_append_d (lq rfl) S22 rfl rfl rfl len_rep rfl (by decide) (by omega) rfl rfl) ?_ | refine sq_b rfl (s_append_row (lq rfl) S22 rfl rfl rfl rfl len_rep rfl (by decide) (by omega) rfl rfl) ?_ | refine sq_b rfl (s_append_d (lq rfl) S22 rfl rfl rfl len_map len_rep (by decide) (by omega) rfl rfl) ?_ | refine sq_b rfl (s_append_row (lq rfl) S22 rfl rfl rfl rfl len_map len_rep (by decide) (by omega) rfl rfl) ?_ | refine sq_b rfl (s_append_d (lq rfl) S22 rfl rfl rfl len_map len_map (by decide) (by omega) rfl rfl) ?_ | refine sq_b rfl (s_append_row (lq rfl) S22 rfl rfl rfl rfl len_map len_map (by decide) (by omega) rfl rfl) ?_ | refine sq_b rfl (s_append_d (lq rfl) S22 rfl rfl rfl len_map len_app2 (by decide) (by omega) rfl rfl) ?_ | refine sq_b rfl (s_append_row (lq rfl) S22 rfl rfl rfl rfl len_map len_app2 (by decide) (by omega) rfl rfl) ?_ | refine sq_b rfl (s_append_d (lq rfl) S22 rfl rfl rfl len_map rfl (by decide) (by omega) rfl rfl) ?_ | refine sq_b rfl (s_append_row (lq rfl) S22 rfl rfl rfl rfl len_map rfl (by decide) (by omega) rfl rfl) ?_ | refine sq_b rfl (s_append_d (lq rfl) S22 rfl rfl rfl len_app2 len_rep (by decide) (by omega) rfl rfl) ?_ | refine sq_b rfl (s_append_row (lq rfl) S22 rfl rfl rfl rfl len_app2 len_rep (by decide) (by omega) rfl rfl) ?_ | refine sq_b rfl (s_append_d (lq rfl) S22 rfl rfl rfl len_app2 len_map (by decide) (by omega) rfl rfl) ?_ | refine sq_b rfl (s_append_row (lq rfl) S22 rfl rfl rfl rfl len_app2 len_map (by decide) (by omega) rfl rfl) ?_ | refine sq_b rfl (s_append_d (lq rfl) S22 rfl rfl rfl len_app2 len_app2 (by decide) (by omega) rfl rfl) ?_ | refine sq_b rfl (s_append_row (lq rfl) S22 rfl rfl rfl rfl len_app2 len_app2 (by decide) (by omega) rfl rfl) ?_ | refine sq_b rfl (s_append_d (lq rfl) S22 rfl rfl rfl len_app2 rfl (by decide) (by omega) rfl rfl) ?_ | refine sq_b rfl (s_append_row (lq rfl) S22 rfl rfl rfl rfl len_app2 rfl (by decide) (by omega) rfl rfl) ?_
            first | refine sq_b rfl (s_store_box_d O22 rfl rfl (lq rfl) rfl rfl rfl) ?_ | refine sq_b rfl (s_store_box_row O22 rfl rfl (lq rfl) rfl rfl rfl) ?_ | refine sq_b rfl (step_store_row O22 rfl rfl (by simp; omega) rfl rfl rfl) ?_
            refine sq_nil ?_
            refine avc_sq2 ?_
            refine avc_sq ?_
            first | refine sq_a (ag_plain rfl (a_move_d (lq rfl) rfl)) ?_ | refine sq_a (ag_plain rfl (a_move_row (lq rfl) rfl)) ?_ | refine sq_a (ag_plain rfl (a_move_ptr (lq rfl) rfl)) ?_ | refine sq_a (ag_plain rfl (a_move_ip (lq rfl) rfl)) ?_ | refine sq_a (ag_plain rfl (a_move_tup (lq rfl) rfl)) ?_
            refine sq_a (ag_plain rfl ((a_rem (lq rfl) rfl rfl (by omega) (by omega)).int (b := ((n % 8 : Nat) : Int)) (by omega))) ?_
            first | refine sq_a (ag_plain rfl (a_assign_d (lq rfl) rfl)) ?_ | refine sq_a (ag_plain rfl (a_assign_row (lq rfl) rfl)) ?_ | refine sq_a (ag_plain rfl (a_assign_ptr (lq rfl) rfl)) ?_
            refine sq_nil ?_
            refine avc_sq2 ?_
            refine avc_sq ?_
            first | refine sq_a (ag_plain rfl (a_move_d (lq rfl) rfl)) ?_ | refine sq_a (ag_plain rfl (a_move_row (lq rfl) rfl)) ?_ | refine sq_a (ag_plain rfl (a_move_ptr (lq rfl) rfl)) ?_ | refine sq_a (ag_plain rfl (a_move_ip (lq rfl) rfl)) ?_ | refine sq_a (ag_plain rfl (a_move_tup (lq rfl) rfl)) ?_
            refine sq_a (ag_plain rfl (a_neq (lq rfl) rfl rfl)) ?_
            refine sq_nil ?_
            refine avc_if rfl ⟨fun hc4 => ?_, fun hc4 => ?_⟩
            ·
              try simp only [Bool.and_eq_true, Bool.or_eq_true, Bool.not_eq_true', Bool.and_eq_false_iff, Bool.or_eq_false_iff, Bool.not_eq_false', decide_eq_true_eq, decide_eq_false_iff_not, Int.not_lt, Int.not_le] at hc4
              refine avc_sq2 ?_
              refine avc_drawA MX rfl ?_
              first | refine da_a (ag_plain rfl (a_load_box (lq rfl) O3 rfl rfl rfl)) ?_ | refine da_a (ag_plain rfl (a_load_pt (lq rfl) O3 rfl rfl)) ?_ | refine da_a (ag_plain rfl (a_load_ip (lq rfl) O3 rfl (get_map 0 (by omega)))) ?_ | refine da_a (ag_plain rfl (a_load_row (lq rfl) O3 rfl rfl (get_map 0 (by omega)))) ?_
              first | refine da_a (ag_plain rfl (a_load_box (lq rfl) O22 rfl rfl rfl)) ?_ | refine da_a (ag_plain rfl (a_load_pt (lq rfl) O22 rfl rfl)) ?_ | refine da_a (ag_plain rfl (a_load_ip (lq rfl) O22 rfl (get_map 0 (by omega)))) ?_ | refine da_a (ag_plain rfl (a_load_row (lq rfl) O22 rfl rfl (get_map 0 (by omega)))) ?_
              first | refine da_a (ag_plain rfl (a_len_d (lq rfl) S22 rfl len_rep)) ?_ | refine da_a (ag_plain rfl (a_len_d (lq rfl) S22 rfl len_map)) ?_ | refine da_a (ag_plain rfl (a_len_d (lq rfl) S22 rfl len_app2)) ?_ | refine da_a (ag_plain rfl (a_len_row (lq rfl) S22 rfl rfl len_rep)) ?_ | refine da_a (ag_plain rfl (a_len_row (lq rfl) S22 rfl rfl len_map)) ?_ | refine da_a (ag_plain rfl (a_len_row (lq rfl) S22 rfl rfl len_app2)) ?_ | refine da_a (ag_plain rfl (a_len_nil (lq rfl) Try.underlying22 rfl)) ?_
              refine da_a (ag_plain rfl (a_eql (lq rfl) rfl rfl)) ?_
              first | refine da_a (ag_plain rfl (a_move_d (lq rfl) rfl)) ?_ | refine da_a (ag_plain rfl (a_move_row (lq rfl) rfl)) ?_ | refine da_a (ag_plain rfl (a_move_ptr (lq rfl) rfl)) ?_ | refine da_a (ag_plain rfl (a_move_ip (lq rfl) rfl)) ?_ | refine da_a (ag_plain rfl (a_move_tup (lq rfl) rfl)) ?_
              first | (apply da_g rfl rfl rfl (lq rfl) (lq rfl) rfl; focus (intro hb; simp only [gd, Bool.not_eq_true'] at hb; (try rw [hb]); (try simp only [decide_eq_true_eq, decide_eq_false_iff_not, Bool.and_eq_true, Bool.or_eq_false_iff, Bool.not_eq_true'] at hb); first | exact a_load_box (lq rfl) O22 rfl rfl rfl | exact a_load_pt (lq rfl) O22 rfl rfl | exact a_load_ip (lq rfl) O22 rfl (get_map 0 (by omega)) | exact a_load_row (lq rfl) O22 rfl rfl (get_map 0 (by omega)))) | (apply da_g2 rfl rfl rfl (lq rfl) (lq rfl) rfl; focus (intro hb; simp only [gd, Bool.and_eq_true, Bool.not_eq_true'] at hb; (try rw [hb.1]); (try rw [hb.2]); (try simp only [decide_eq_true_eq, decide_eq_false_iff_not, Bool.and_eq_true, Bool.or_eq_false_iff, Bool.not_eq_true'] at hb); first | exact a_load_box (lq rfl) O22 rfl rfl rfl | exact a_load_pt (lq rfl) O22 rfl rfl | exact a_load_ip (lq rfl) O22 rfl (get_map 0 (by omega)) | exact a_load_row (lq rfl) O22 rfl rfl (get_map 0 (by omega))))
              first | (apply da_g rfl rfl rfl (lq rfl) (lq rfl) rfl; focus (intro hb; simp only [gd, Bool.not_eq_true'] at hb; (try rw [hb]); (try simp only [decide_eq_true_eq, decide_eq_false_iff_not, Bool.and_eq_true, Bool.or_eq_false_iff, Bool.not_eq_true'] at hb); first | exact a_load_box (lq rfl) O3 rfl rfl rfl | exact a_load_pt (lq rfl) O3 rfl rfl | exact a_load_ip (lq rfl) O3 rfl (get_map 0 (by omega)) | exact a_load_row (lq rfl) O3 rfl rfl (get_map 0 (by omega)))) | (apply da_g2 rfl rfl rfl (lq rfl) (lq rfl) rfl; focus (intro hb; simp only [gd, Bool.and_eq_true, Bool.not_eq_true'] at hb; (try rw [hb.1]); (try rw [hb.2]); (try simp only [decide_eq_true_eq, decide_eq_false_iff_not, Bool.and_eq_true, Bool.or_eq_false_iff, Bool.not_eq_true'] at hb); first | exact a_load_box (lq rfl) O3 rfl rfl rfl | exact a_load_pt (lq rfl) O3 rfl rfl | exact a_load_ip (lq rfl) O3 rfl (get_map 0 (by omega)) | exact a_load_row (lq rfl) O3 rfl rfl (get_map 0 (by omega))))
              first | (apply da_g rfl rfl rfl (lq rfl) (lq rfl) rfl; focus (intro hb; simp only [gd, Bool.not_eq_true'] at hb; (try rw [hb]); (try simp only [decide_eq_true_eq, decide_eq_false_iff_not, Bool.and_eq_true, Bool.or_eq_false_iff, Bool.not_eq_true'] at hb); first | exact a_index_d (lq rfl) S22 rfl rfl rfl len_rep (by omega) | exact a_index_d (lq rfl) S22 rfl rfl rfl len_map (by omega) | exact a_index_d (lq rfl) S22 rfl rfl rfl len_app2 (by omega) | exact a_index_row (lq rfl) S22 rfl rfl rfl rfl len_rep (by omega) | exact a_index_row (lq rfl) S22 rfl rfl rfl rfl len_map (by omega) | exact a_index_row (lq rfl) S22 rfl rfl rfl rfl len_app2 (by omega) | exact a_index_d (lq rfl) S22 rfl rfl (ix_add1 _) len_rep (by omega) | exact a_index_d (lq rfl) S22 rfl rfl (ix_add1 _) len_map (by omega) | exact a_index_d (lq rfl) S22 rfl rfl (ix_add1 _) len_app2 (by omega) | exact a_index_row (lq rfl) S22 rfl rfl rfl (ix_add1 _) len_rep (by omega) | exact a_index_row (lq rfl) S22 rfl rfl rfl (ix_add1 _) len_map (by omega) | exact a_index_row (lq rfl) S22 rfl rfl rfl (ix_add1 _) len_app2 (by omega) | exact a_index_d (lq rfl) S22 rfl rfl (ix_nat (by omega)) len_rep (by omega) | exact a_index_d (lq rfl) S22 rfl rfl (ix_nat (by omega)) len_map (by omega) | exact a_index_d (lq rfl) S22 rfl rfl (ix_nat (by omega)) len_app2 (by omega) | exact a_index_row (lq rfl) S22 rfl rfl rfl (ix_nat (by omega)) len_rep (by omega) | exact a_index_row (lq rfl) S22 rfl rfl rfl (ix_nat (by omega)) len_map (by omega) | exact a_index_row (lq rfl) S22 rfl rfl rfl (ix_nat (by omega)) len_app2 (by omega))) | (apply da_g2 rfl rfl rfl (lq rfl) (lq rfl) rfl; focus (intro hb; simp only [gd, Bool.and_eq_true, Bool.not_eq_true'] at hb; (try rw [hb.1]); (try rw [hb.2]); (try simp only [decide_eq_true_eq, decide_eq_false_iff_not, Bool.and_eq_true, Bool.or_eq_false_iff, Bool.not_eq_true'] at hb); first | exact a_index_d (lq rfl) S22 rfl rfl rfl len_rep (by omega) | exact a_index_d (lq rfl) S22 rfl rfl rfl len_map (by omega) | exact a_index_d (lq rfl) S22 rfl rfl rfl len_app2 (by omega) | exact a_index_row (lq rfl) S22 rfl rfl rfl rfl len_rep (by omega) | exact a_index_row (lq rfl) S22 rfl rfl rfl rfl len_map (by omega) | exact a_index_row (lq rfl) S22 rfl rfl rfl rfl len_app2 (by omega) | exact a_index_d (lq rfl) S22 rfl rfl (ix_add1 _) len_rep (by omega) | exact a_index_d (lq rfl) S22 rfl rfl (ix_add1 _) len_map (by omega) | exact a_index_d (lq rfl) S22 rfl rfl (ix_add1 _) len_app2 (by omega) | exact a_index_row (lq rfl) S22 rfl rfl rfl (ix_add1 _) len_rep (by omega) | exact a_index_row (lq rfl) S22 rfl rfl rfl (ix_add1 _) len_map (by omega) | exact a_index_row (lq rfl) S22 rfl rfl rfl (ix_add1 _) len_app2 (by omega) | exact a_index_d (lq rfl) S22 rfl rfl (ix_nat (by omega)) len_rep (by omega) | exact a_index_d (lq rfl) S22 rfl rfl (ix_nat (by omega)) len_map (by omega) | exact a_index_d (lq rfl) S22 rfl rfl (ix_nat (by omega)) len_app2 (by omega) | exact a_index_row (lq rfl) S22 rfl rfl rfl (ix_nat (by omega)) len_rep (by omega) | exact a_index_row (lq rfl) S22 rfl rfl rfl (ix_nat (by omega)) len_map (by omega) | exact a_index_row (lq rfl) S22 rfl rfl rfl (ix_nat (by omega)) len_app2 (by omega)))
              first | (apply da_g rfl rfl rfl (lq rfl) (lq rfl) rfl; focus (intro hb; simp only [gd, Bool.not_eq_true'] at hb; (try rw [hb]); (try simp only [decide_eq_true_eq, decide_eq_false_iff_not, Bool.and_eq_true, Bool.or_eq_false_iff, Bool.not_eq_true'] at hb); first | exact a_load_box (lq rfl) O3 rfl rfl rfl | exact a_load_pt (lq rfl) O3 rfl rfl | exact a_load_ip (lq rfl) O3 rfl (get_map 0 (by omega)) | exact a_load_row (lq rfl) O3 rfl rfl (get_map 0 (by omega)))) | (apply da_g2 rfl rfl rfl (lq rfl) (lq rfl) rfl; focus (intro hb; simp only [gd, Bool.and_eq_true, Bool.not_eq_true'] at hb; (try rw [hb.1]); (try rw [hb.2]); (try simp only [decide_eq_true_eq, decide_eq_false_iff_not, Bool.and_eq_true, Bool.or_eq_false_iff, Bool.not_eq_true'] at hb); first | exact a_load_box (lq rfl) O3 rfl rfl rfl | exact a_load_pt (lq rfl) O3 rfl rfl | exact a_load_ip (lq rfl) O3 rfl (get_map 0 (by omega)) | exact a_load_row (lq rfl) O3 rfl rfl (get_map 0 (by omega))))
              first | (apply da_g rfl rfl rfl (lq rfl) (lq rfl) rfl; focus (intro hb; simp only [gd, Bool.not_eq_true'] at hb; (try rw [hb]); (try simp only [decide_eq_true_eq, decide_eq_false_iff_not, Bool.and_eq_true, Bool.or_eq_false_iff, Bool.not_eq_true'] at hb); first | exact a_load_box (lq rfl) O3 rfl rfl rfl | exact a_load_pt (lq rfl) O3 rfl rfl | exact a_load_ip (lq rfl) O3 rfl (get_map 0 (by omega)) | exact a_load_row (lq rfl) O3 rfl rfl (get_map 0 (by omega)))) | (apply da_g2 rfl rfl rfl (lq rfl) (lq rfl) rfl; focus (intro hb; simp only [gd, Bool.and_eq_true, Bool.not_eq_true'] at hb; (try rw [hb.1]); (try rw [hb.2]); (try simp only [decide_eq_true_eq, decide_eq_false_iff_not, Bool.and_eq_true, Bool.or_eq_false_iff, Bool.not_eq_true'] at hb); first | exact a_load_box (lq rfl) O3 rfl rfl rfl | exact a_load_pt (lq rfl) O3 rfl rfl | exact a_load_ip (lq rfl) O3 rfl (get_map 0 (by omega)) | exact a_load_row (lq rfl) O3 rfl rfl (get_map 0 (by omega))))
              first | (apply da_g rfl rfl rfl (lq rfl) (lq rfl) rfl; focus (intro hb; simp only [gd, Bool.not_eq_true'] at hb; (try rw [hb]); (try simp only [decide_eq_true_eq, decide_eq_false_iff_not, Bool.and_eq_true, Bool.or_eq_false_iff, Bool.not_eq_true'] at hb); exact a_lss (lq rfl) rfl rfl)) | (apply da_g2 rfl rfl rfl (lq rfl) (lq rfl) rfl; focus (intro hb; simp only [gd, Bool.and_eq_true, Bool.not_eq_true'] at hb; (try rw [hb.1]); (try rw [hb.2]); (try simp only [decide_eq_true_eq, decide_eq_false_iff_not, Bool.and_eq_true, Bool.or_eq_false_iff, Bool.not_eq_true'] at hb); exact a_lss (lq rfl) rfl rfl))
              first | refine da_a (ag_plain rfl (a_pick_or (lq rfl) rfl rfl)) ?_ | refine da_a (ag_plain rfl (a_pick_td (lq rfl) rfl rfl)) ?_ | refine da_a (ag_plain rfl (a_pick_fd (lq rfl) rfl rfl)) ?_
              refine da_nil ?_
              refine avc_if rfl ⟨fun hc5 => ?_, fun hc5 => ?_⟩
              ·
                try simp only [Bool.and_eq_true, Bool.or_eq_true, Bool.not_eq_true', Bool.and_eq_false_iff, Bool.or_eq_false_iff, Bool.not_eq_false', decide_eq_true_eq, decide_eq_false_iff_not, Int.not_lt, Int.not_le] at hc5
                refine avc_sq ?_
                first | refine sq_a (ag_plain rfl (a_load_box (lq rfl) O22 rfl rfl rfl)) ?_ | refine sq_a (ag_plain rfl (a_load_pt (lq rfl) O22 rfl rfl)) ?_ | refine sq_a (ag_plain rfl (a_load_ip (lq rfl) O22 rfl (get_map 0 (by omega)))) ?_ | refine sq_a (ag_plain rfl (a_load_row (lq rfl) O22 rfl rfl (get_map 0 (by omega)))) ?_
                first | refine sq_a (ag_plain rfl (a_load_box (lq rfl) O3 rfl rfl rfl)) ?_ | refine sq_a (ag_plain rfl (a_load_pt (lq rfl) O3 rfl rfl)) ?_ | refine sq_a (ag_plain rfl (a_load_ip (lq rfl) O3 rfl (get_map 0 (by omega)))) ?_ | refine sq_a (ag_plain rfl (a_load_row (lq rfl) O3 rfl rfl (get_map 0 (by omega)))) ?_
                first | refine sq_a (ag_plain rfl (a_move_d (lq rfl) rfl)) ?_ | refine sq_a (ag_plain rfl (a_move_row (lq rfl) rfl)) ?_ | refine sq_a (ag_plain rfl (a_move_ptr (lq rfl) rfl)) ?_ | refine sq_a (ag_plain rfl (a_move_ip (lq rfl) rfl)) ?_ | refine sq_a (ag_plain rfl (a_move_tup (lq rfl) rfl)) ?_
                refine sq_a (ag_plain rfl (a_add (lq rfl) rfl rfl (w64 (by omega) (by omega)))) ?_
                refine sq_a (ag_plain rfl (a_sub (lq rfl) rfl rfl (w64 (by omega) (by omega)))) ?_
                refine sq_a (ag_plain rfl (a_lit (lq rfl) S22 rfl rfl rfl rfl (by decide) rfl)) ?_
                first | refine sq_b rfl (s_append_d (lq rfl) S22 rfl rfl rfl len_rep (rfl : _ = 1 * 1) (by decide) (by omega) rfl rfl) ?_ | refine sq_b rfl (s_append_row (lq rfl) S22 rfl rfl rfl rfl len_rep (rfl : _ = 1 * 1) (by decide) (by omega) rfl rfl) ?_ | refine sq_b rfl (s_append_d (lq rfl) S22 rfl rfl rfl len_map (rfl : _ = 1 * 1) (by decide) (by omega) rfl rfl) ?_ | refine sq_b rfl (s_append_row (lq rfl) S22 rfl rfl rfl rfl len_map (rfl : _ = 1 * 1) (by decide) (by omega) rfl rfl) ?_ | refine sq_b rfl (s_append_d (lq rfl) S22 rfl rfl rfl len_app2 (rfl : _ = 1 * 1) (by decide) (by omega) rfl rfl) ?_ | refine sq_b rfl (s_append_row (lq rfl) S22 rfl rfl rfl rfl len_app2 (rfl : _ = 1 * 1) (by decide) (by omega) rfl rfl) ?_
                first | refine sq_b rfl (s_store_box_d O22 rfl rfl (lq rfl) rfl rfl rfl) ?_ | refine sq_b rfl (s_store_box_row O22 rfl rfl (lq rfl) rfl rfl rfl) ?_ | refine sq_b rfl (step_store_row O22 rfl rfl (by simp; omega) rfl rfl rfl) ?_
                refine sq_nil ?_
                refine rnd_end ⟨?_, ?_, ?_, ?_, ?_, trivial⟩ <;> (first | rfl | exact cov_int (by omega) | exact congrArg (fun z => Blk.box 3 [AV.d (di z)]) (by omega : (_ : Int) + _ = _) | exact cov_row (pack_lo hout (by omega) (by omega) hlow.2 (by split; rfl; rw [decide_eq_true_eq]; omega)))
              ·
                try simp only [Bool.and_eq_true, Bool.or_eq_true, Bool.not_eq_true', Bool.and_eq_false_iff, Bool.or_eq_false_iff, Bool.not_eq_false', decide_eq_true_eq, decide_eq_false_iff_not, Int.not_lt, Int.not_le] at hc5
                refine avc_sq ?_
                first | refine sq_a (ag_plain rfl (a_load_box (lq rfl) O22 rfl rfl rfl)) ?_ | refine sq_a (ag_plain rfl (a_load_pt (lq rfl) O22 rfl rfl)) ?_ | refine sq_a (ag_plain rfl (a_load_ip (lq rfl) O22 rfl (get_map 0 (by omega)))) ?_ | refine sq_a (ag_plain rfl (a_load_row (lq rfl) O22 rfl rfl (get_map 0 (by omega)))) ?_
                first | refine sq_a (ag_plain rfl (a_load_box (lq rfl) O3 rfl rfl rfl)) ?_ | refine sq_a (ag_plain rfl (a_load_pt (lq rfl) O3 rfl rfl)) ?_ | refine sq_a (ag_plain rfl (a_load_ip (lq rfl) O3 rfl (get_map 0 (by omega)))) ?_ | refine sq_a (ag_plain rfl (a_load_row (lq rfl) O3 rfl rfl (get_map 0 (by omega)))) ?_
                refine sq_a (ag_plain rfl (a_add (lq rfl) rfl rfl (w64 (by omega) (by omega)))) ?_
                refine sq_a (ag_plain rfl (a_sub (lq rfl) rfl rfl (w64 (by omega) (by omega)))) ?_
                first | refine sq_a (ag_plain rfl (a_move_d (lq rfl) rfl)) ?_ | refine sq_a (ag_plain rfl (a_move_row (lq rfl) rfl)) ?_ | refine sq_a (ag_plain rfl (a_move_ptr (lq rfl) rfl)) ?_ | refine sq_a (ag_plain rfl (a_move_ip (lq rfl) rfl)) ?_ | refine sq_a (ag_plain rfl (a_move_tup (lq rfl) rfl)) ?_
                refine sq_a (ag_plain rfl (a_sub (lq rfl) rfl rfl (w64 (by omega) (by omega)))) ?_
                refine sq_a (ag_plain rfl (a_lit (lq rfl) S22 rfl rfl rfl rfl (by decide) rfl)) ?_
                first | refine sq_b rfl (s_append_d (lq rfl) S22 rfl rfl rfl len_rep (rfl : _ = 1 * 1) (by decide) (by omega) rfl rfl) ?_ | refine sq_b rfl (s_append_row (lq rfl) S22 rfl rfl rfl rfl len_rep (rfl : _ = 1 * 1) (by decide) (by omega) rfl rfl) ?_ | refine sq_b rfl (s_append_d (lq rfl) S22 rfl rfl rfl len_map (rfl : _ = 1 * 1) (by decide) (by omega) rfl rfl) ?_ | refine sq_b rfl (s_append_row (lq rfl) S22 rfl rfl rfl rfl len_map (rfl : _ = 1 * 1) (by decide) (by omega) rfl rfl) ?_ | refine sq_b rfl (s_append_d (lq rfl) S22 rfl rfl rfl len_app2 (rfl : _ = 1 * 1) (by decide) (by omega) rfl rfl) ?_ | refine sq_b rfl (s_append_row (lq rfl) S22 rfl rfl rfl rfl len_app2 (rfl : _ = 1 * 1) (by decide) (by omega) rfl rfl) ?_
                first | refine sq_b rfl (s_store_box_d O22 rfl rfl (lq rfl) rfl rfl rfl) ?_ | refine sq_b rfl (s_store_box_row O22 rfl rfl (lq rfl) rfl rfl rfl) ?_ | refine sq_b rfl (step_store_row O22 rfl rfl (by simp; omega) rfl rfl rfl) ?_
                refine sq_nil ?_
                refine rnd_end ⟨?_, ?_, ?_, ?_, ?_, trivial⟩ <;> (first | rfl | exact cov_int (by omega) | exact congrArg (fun z => Blk.box 3 [AV.d (di z)]) (by omega : (_ : Int) + _ = _) | exact cov_row (pack_hi hout (by omega) (by omega) hlow.2 (by rw [if_neg (by omega), decide_eq_false_iff_not]; omega)))
            ·
              try simp only [Bool.and_eq_true, Bool.or_eq_true, Bool.not_eq_true', Bool.and_eq_false_iff, Bool.or_eq_false_iff, Bool.not_eq_false', decide_eq_true_eq, decide_eq_false_iff_not, Int.not_lt, Int.not_le] at hc4
              refine avc_skip ?_
              refine rnd_end ⟨?_, ?_, ?_, ?_, ?_, trivial⟩ <;> (first | rfl | exact cov_int (by omega) | exact congrArg (fun z => Blk.box 3 [AV.d (di z)]) (by omega : (_ : Int) + _ = _) | exact cov_row (pack_z hout (by omega) (by omega)))
      case hK =>
        refine avc_sq2 ?_
        refine avc_sq ?_
        first | refine sq_a (ag_plain rfl (a_load_box (lq rfl) O22 rfl rfl rfl)) ?_ | refine sq_a (ag_plain rfl (a_load_pt (lq rfl) O22 rfl rfl)) ?_ | refine sq_a (ag_plain rfl (a_load_ip (lq rfl) O22 rfl (get_map 0 (by omega)))) ?_ | refine sq_a (ag_plain rfl (a_load_row (lq rfl) O22 rfl rfl (get_map 0 (by omega)))) ?_
        first | refine sq_a (ag_plain rfl (a_assign_d (lq rfl) rfl)) ?_ | refine sq_a (ag_plain rfl (a_assign_row (lq rfl) rfl)) ?_ | refine sq_a (ag_plain rfl (a_assign_ptr (lq rfl) rfl)) ?_
        refine sq_nil ?_
        refine avc_ret ?_
        exact ret_row rfl rfl (by rw [show (runI (plain l)).length = (runsF (plain l)).length by simp [runI], outR_all])
end Go.Proofs.Ytdelglnpgpaaiaa.Walk

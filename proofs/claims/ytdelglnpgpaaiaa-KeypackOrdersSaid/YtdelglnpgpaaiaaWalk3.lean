/- The layer of abstract values: what a temporary holds, said once; every rule of it is proved from the model. Conditions: none. -/
import Derived.Test.YtdelglnpgpaaiaaWalk2
set_option linter.unusedSimpArgs false
set_option linter.unusedVariables false
set_option linter.unnecessarySimpa false
namespace Go.Proofs.Ytdelglnpgpaaiaa.Walk
open Go.AV Go.RowKit Go.Proofs Go.Plain
theorem add_c (bs ns : List Int) (hb : bs.length + ns.length < 2147483648) : ContractO Try.prog 25 5 1 (bs.map dby) [.ints ns] ((bs ++ ns.map b8).map dby) true := by
  refine contractO_of Try.func25 (by kernel_rfl) rfl (lq rfl) (lq rfl) (dby_isV _) fun w0 I0 v0 => ?_
  refine avc_sq2 ?_
  refine avc_sq ?_
  refine sq_a (ag_plain rfl (a_assign_d (lq rfl) rfl)) ?_
  refine sq_nil ?_
  refine avc_sq2 ?_
  refine avc_sq2 ?_
  refine avc_sq ?_
  first | refine sq_a (ag_plain rfl (a_move_d (lq rfl) rfl)) ?_ | refine sq_a (ag_plain rfl (a_move_row (lq rfl) rfl)) ?_ | refine sq_a (ag_plain rfl (a_move_ptr (lq rfl) rfl)) ?_ | refine sq_a (ag_plain rfl (a_move_ip (lq rfl) rfl)) ?_ | refine sq_a (ag_plain rfl (a_move_tup (lq rfl) rfl)) ?_
  first | refine sq_a (ag_plain rfl (a_len_d (lq rfl) S22 rfl len_map)) ?_ | refine sq_a (ag_plain rfl (a_len_row (lq rfl) S22 rfl rfl len_map)) ?_ | refine sq_a (ag_plain rfl (a_len_nil (lq rfl) Try.underlying22 rfl)) ?_
  refine sq_a (ag_plain rfl (a_move_d (lq rfl) rfl)) ?_
  refine sq_nil ?_
  refine avc_block ?_
  refine avc_loop (ι := Nat) (fun k => ⟨[(0, .row 0), (7, .d (.ints ns)), (8, .d (di ns.length)), (9, .d (di k))], [(0, .row 5 1 false ((bs ++ (ns.take k).map b8).map dby))]⟩) (fun k => k ≤ ns.length) (fun k => ns.length - k) 0 ?_ ?_ ?_
  · omega
  · refine weak_cov ⟨?_, ?_, ?_, ?_, trivial⟩ ⟨?_, trivial⟩ <;> (first | rfl | exact cov_row (by simp))
  · rintro k hp
    have hlk : (bs ++ (ns.take k).map b8).length ≤ bs.length + ns.length := by simp; omega
    refine avc_sq2 ?_
    refine avc_sq ?_
    refine sq_a (ag_plain rfl (a_lss (lq rfl) rfl rfl)) ?_
    refine sq_nil ?_
    refine avc_sq2 ?_
    refine avc_if rfl ⟨fun hc0 => ?_, fun hc0 => ?_⟩
    ·
      try simp only [Bool.and_eq_true, Bool.or_eq_true, Bool.not_eq_true', Bool.and_eq_false_iff, Bool.or_eq_false_iff, Bool.not_eq_false', decide_eq_true_eq, decide_eq_false_iff_not, Int.not_lt, Int.not_le] at hc0
      refine avc_skip ?_
      refine avc_sq2 ?_
      refine avc_block ?_
      refine avc_sq2 ?_
      refine avc_sq ?_
      first | refine sq_a (ag_plain rfl (a_index_d (lq rfl) S22 rfl rfl rfl len_map (by omega))) ?_ | refine sq_a (ag_plain rfl (a_index_row (lq rfl) S22 rfl rfl rfl rfl len_map (by omega))) ?_ | refine sq_a (ag_plain rfl (a_index_d (lq rfl) S22 rfl rfl (ix_add1 _) len_map (by omega))) ?_ | refine sq_a (ag_plain rfl (a_index_row (lq rfl) S22 rfl rfl rfl (ix_add1 _) len_map (by omega))) ?_ | refine sq_a (ag_plain rfl (a_index_d (lq rfl) S22 rfl rfl (ix_nat (by omega)) len_map (by omega))) ?_ | refine sq_a (ag_plain rfl (a_index_row (lq rfl) S22 rfl rfl rfl (ix_nat (by omega)) len_map (by omega))) ?_
      first | refine sq_a (ag_plain rfl (a_load_box (lq rfl) O3 rfl rfl rfl)) ?_ | refine sq_a (ag_plain rfl (a_load_pt (lq rfl) O3 rfl rfl)) ?_ | refine sq_a (ag_plain rfl (a_load_ip (lq rfl) O3 rfl (get_map 0 (by omega)))) ?_ | refine sq_a (ag_plain rfl (a_load_row (lq rfl) O3 rfl rfl (get_map 0 (by omega)))) ?_
      first | refine sq_a (ag_plain rfl (a_assign_d (lq rfl) rfl)) ?_ | refine sq_a (ag_plain rfl (a_assign_row (lq rfl) rfl)) ?_ | refine sq_a (ag_plain rfl (a_assign_ptr (lq rfl) rfl)) ?_
      refine sq_nil ?_
      refine avc_sq ?_
      first | refine sq_a (ag_plain rfl (a_move_d (lq rfl) rfl)) ?_ | refine sq_a (ag_plain rfl (a_move_row (lq rfl) rfl)) ?_ | refine sq_a (ag_plain rfl (a_move_ptr (lq rfl) rfl)) ?_ | refine sq_a (ag_plain rfl (a_move_ip (lq rfl) rfl)) ?_ | refine sq_a (ag_plain rfl (a_move_tup (lq rfl) rfl)) ?_
      first | refine sq_a (ag_plain rfl (a_move_d (lq rfl) rfl)) ?_ | refine sq_a (ag_plain rfl (a_move_row (lq rfl) rfl)) ?_ | refine sq_a (ag_plain rfl (a_move_ptr (lq rfl) rfl)) ?_ | refine sq_a (ag_plain rfl (a_move_ip (lq rfl) rfl)) ?_ | refine sq_a (ag_plain rfl (a_move_tup (lq rfl) rfl)) ?_
      refine sq_a (ag_plain rfl (a_conv_to (lq rfl) Try.underlying3 Try.underlying5 rfl (u8w _))) ?_
      refine sq_a (ag_plain rfl (a_lit (lq rfl) S42 rfl rfl rfl rfl (by decide) rfl)) ?_
      first | refine sq_b rfl (s_append_d (lq rfl) S42 rfl rfl rfl len_map (rfl : _ = 1 * 1) (by decide) (by omega) rfl rfl) ?_ | refine sq_b rfl (s_append_row (lq rfl) S42 rfl rfl rfl rfl len_map (rfl : _ = 1 * 1) (by decide) (by omega) rfl rfl) ?_
      first | refine sq_a (ag_plain rfl (a_assign_d (lq rfl) rfl)) ?_ | refine sq_a (ag_plain rfl (a_assign_row (lq rfl) rfl)) ?_ | refine sq_a (ag_plain rfl (a_assign_ptr (lq rfl) rfl)) ?_
      refine sq_nil ?_
      refine avc_sq ?_
      refine sq_a (ag_plain rfl (a_add (lq rfl) rfl rfl (w64 (by omega) (by omega)))) ?_
      first | refine sq_a (ag_plain rfl (a_move_d (lq rfl) rfl)) ?_ | refine sq_a (ag_plain rfl (a_move_row (lq rfl) rfl)) ?_ | refine sq_a (ag_plain rfl (a_move_ptr (lq rfl) rfl)) ?_ | refine sq_a (ag_plain rfl (a_move_ip (lq rfl) rfl)) ?_ | refine sq_a (ag_plain rfl (a_move_tup (lq rfl) rfl)) ?_
      refine sq_nil ?_
      first | refine loop_end  (j := k + 1) ?_ ?_ ?_ | refine loop_end  (K := fun _ _ => True) (j := k + 1) ?_ ?_ ?_
      · omega
      · omega
      · refine weak_cov ⟨?_, ?_, ?_, ?_, trivial⟩ ⟨?_, trivial⟩ <;> (first | rfl | exact cov_int (by omega) | exact cov_row (add_step (by omega)))
    ·
      try simp only [Bool.and_eq_true, Bool.or_eq_true, Bool.not_eq_true', Bool.and_eq_false_iff, Bool.or_eq_false_iff, Bool.not_eq_false', decide_eq_true_eq, decide_eq_false_iff_not, Int.not_lt, Int.not_le] at hc0
      refine avc_exit ?_
      refine avc_sq2 ?_
      refine avc_sq ?_
      first | refine sq_a (ag_plain rfl (a_move_d (lq rfl) rfl)) ?_ | refine sq_a (ag_plain rfl (a_move_row (lq rfl) rfl)) ?_ | refine sq_a (ag_plain rfl (a_move_ptr (lq rfl) rfl)) ?_ | refine sq_a (ag_plain rfl (a_move_ip (lq rfl) rfl)) ?_ | refine sq_a (ag_plain rfl (a_move_tup (lq rfl) rfl)) ?_
      first | refine sq_a (ag_plain rfl (a_assign_d (lq rfl) rfl)) ?_ | refine sq_a (ag_plain rfl (a_assign_row (lq rfl) rfl)) ?_ | refine sq_a (ag_plain rfl (a_assign_ptr (lq rfl) rfl)) ?_
      refine sq_nil ?_
      refine avc_ret ?_
      exact ret_own rfl rfl rfl (add_end (by omega))

theorem varint_c (l : List Int) (hl : l.length < 268435456) : Contract Try.prog 17 [.ints l] [.v (.string (strOfNums (vbs l)))] := by
  refine contract_of Try.func17 (by kernel_rfl) rfl (lq rfl) (lq rfl) fun w0 I0 => ?_
  refine avc_sq2 ?_
  refine avc_sq ?_
  refine sq_a (ag_plain rfl (a_assign_d (lq rfl) rfl)) ?_
  refine sq_nil ?_
  refine avc_sq2 ?_
  refine avc_sq ?_
  refine sq_a (ag_plain rfl (a_assign_d (lq rfl) rfl)) ?_
  refine sq_nil ?_
  refine avc_sq2 ?_
  refine avc_sq2 ?_
  refine avc_sq ?_
  first | refine sq_a (ag_plain rfl (a_move_d (lq rfl) rfl)) ?_ | refine sq_a (ag_plain rfl (a_move_row (lq rfl) rfl)) ?_ | refine sq_a (ag_plain rfl (a_move_ptr (lq rfl) rfl)) ?_ | refine sq_a (ag_plain rfl (a_move_ip (lq rfl) rfl)) ?_ | refine sq_a (ag_plain rfl (a_move_tup (lq rfl) rfl)) ?_
  first | refine sq_a (ag_plain rfl (a_len_d (lq rfl) S22 rfl len_map)) ?_ | refine sq_a (ag_plain rfl (a_len_row (lq rfl) S22 rfl rfl len_map)) ?_ | refine sq_a (ag_plain rfl (a_len_nil (lq rfl) Try.underlying22 rfl)) ?_
  refine sq_a (ag_plain rfl (a_move_d (lq rfl) rfl)) ?_
  refine sq_nil ?_
  refine avc_block ?_
  refine avc_weak (weak_nil (t := 3) 99 5 1 (by decide) (lq rfl) rfl rfl) ?_
  refine avc_loop (ι := Nat) (fun k => ⟨[(3, .row 99), (6, .d (.ints l)), (7, .d (di l.length)), (8, .d (di k))], [(99, .row 5 1 false ((vbs (l.take k)).map dby))]⟩) (fun k => k ≤ l.length) (fun k => l.length - k) 0 ?_ ?_ ?_
  · omega
  · refine weak_cov ⟨?_, ?_, ?_, ?_, trivial⟩ ⟨?_, trivial⟩ <;> (first | rfl | exact cov_int (by omega) | exact cov_row (by simp [di, flatDV]))
  · rintro k hp
    have hvl := vbs_le (l.take k)
    rw [List.length_take] at hvl
    refine avc_sq2 ?_
    refine avc_sq ?_
    refine sq_a (ag_plain rfl (a_lss (lq rfl) rfl rfl)) ?_
    refine sq_nil ?_
    refine avc_sq2 ?_
    refine avc_if rfl ⟨fun hc0 => ?_, fun hc0 => ?_⟩
    ·
      try simp only [Bool.and_eq_true, Bool.or_eq_true, Bool.not_eq_true', Bool.and_eq_false_iff, Bool.or_eq_false_iff, Bool.not_eq_false', decide_eq_true_eq, decide_eq_false_iff_not, Int.not_lt, Int.not_le] at hc0
      refine avc_skip ?_
      refine avc_sq2 ?_
      refine avc_block ?_
      refine avc_sq2 ?_
      refine avc_sq ?_
      first | refine sq_a (ag_plain rfl (a_index_d (lq rfl) S22 rfl rfl rfl len_map (by omega))) ?_ | refine sq_a (ag_plain rfl (a_index_row (lq rfl) S22 rfl rfl rfl rfl len_map (by omega))) ?_ | refine sq_a (ag_plain rfl (a_index_d (lq rfl) S22 rfl rfl (ix_add1 _) len_map (by omega))) ?_ | refine sq_a (ag_plain rfl (a_index_row (lq rfl) S22 rfl rfl rfl (ix_add1 _) len_map (by omega))) ?_ | refine sq_a (ag_plain rfl (a_index_d (lq rfl) S22 rfl rfl (ix_nat (by omega)) len_map (by omega))) ?_ | refine sq_a (ag_plain rfl (a_index_row (lq rfl) S22 rfl rfl rfl (ix_nat (by omega)) len_map (by omega))) ?_
      first | refine sq_a (ag_plain rfl (a_load_box (lq rfl) O3 rfl rfl rfl)) ?_ | refine sq_a (ag_plain rfl (a_load_pt (lq rfl) O3 rfl rfl)) ?_ | refine sq_a (ag_plain rfl (a_load_ip (lq rfl) O3 rfl (get_map 0 (by omega)))) ?_ | refine sq_a (ag_plain rfl (a_load_row (lq rfl) O3 rfl rfl (get_map 0 (by omega)))) ?_
      first | refine sq_a (ag_plain rfl (a_assign_d (lq rfl) rfl)) ?_ | refine sq_a (ag_plain rfl (a_assign_row (lq rfl) rfl)) ?_ | refine sq_a (ag_plain rfl (a_assign_ptr (lq rfl) rfl)) ?_
      refine sq_nil ?_
      refine avc_block ?_
      refine avc_sq2 ?_
      refine avc_sq ?_
      first | refine sq_a (ag_plain rfl (a_move_d (lq rfl) rfl)) ?_ | refine sq_a (ag_plain rfl (a_move_row (lq rfl) rfl)) ?_ | refine sq_a (ag_plain rfl (a_move_ptr (lq rfl) rfl)) ?_ | refine sq_a (ag_plain rfl (a_move_ip (lq rfl) rfl)) ?_ | refine sq_a (ag_plain rfl (a_move_tup (lq rfl) rfl)) ?_
      refine sq_a (ag_plain rfl (a_lss (lq rfl) rfl rfl)) ?_
      first | refine sq_a (ag_plain rfl (a_move_d (lq rfl) rfl)) ?_ | refine sq_a (ag_plain rfl (a_move_row (lq rfl) rfl)) ?_ | refine sq_a (ag_plain rfl (a_move_ptr (lq rfl) rfl)) ?_ | refine sq_a (ag_plain rfl (a_move_ip (lq rfl) rfl)) ?_ | refine sq_a (ag_plain rfl (a_move_tup (lq rfl) rfl)) ?_
      first | (apply sq_g rfl rfl rfl (lq rfl) (lq rfl) rfl; focus (intro hb; simp only [gd, Bool.not_eq_true'] at hb; (try rw [hb]); (try simp only [decide_eq_true_eq, decide_eq_false_iff_not, Bool.and_eq_true, Bool.or_eq_false_iff, Bool.not_eq_true'] at hb); first | exact a_move_d (lq rfl) rfl | exact a_move_row (lq rfl) rfl | exact a_move_ptr (lq rfl) rfl | exact a_move_ip (lq rfl) rfl | exact a_move_tup (lq rfl) rfl)) | (apply sq_g2 rfl rfl rfl (lq rfl) (lq rfl) rfl; focus (intro hb; simp only [gd, Bool.and_eq_true, Bool.not_eq_true'] at hb; (try rw [hb.1]); (try rw [hb.2]); (try simp only [decide_eq_true_eq, decide_eq_false_iff_not, Bool.and_eq_true, Bool.or_eq_false_iff, Bool.not_eq_true'] at hb); first | exact a_move_d (lq rfl) rfl | exact a_move_row (lq rfl) rfl | exact a_move_ptr (lq rfl) rfl | exact a_move_ip (lq rfl) rfl | exact a_move_tup (lq rfl) rfl))
      first | (apply sq_g rfl rfl rfl (lq rfl) (lq rfl) rfl; focus (intro hb; simp only [gd, Bool.not_eq_true'] at hb; (try rw [hb]); (try simp only [decide_eq_true_eq, decide_eq_false_iff_not, Bool.and_eq_true, Bool.or_eq_false_iff, Bool.not_eq_true'] at hb); exact a_geq (lq rfl) rfl rfl)) | (apply sq_g2 rfl rfl rfl (lq rfl) (lq rfl) rfl; focus (intro hb; simp only [gd, Bool.and_eq_true, Bool.not_eq_true'] at hb; (try rw [hb.1]); (try rw [hb.2]); (try simp only [decide_eq_true_eq, decide_eq_false_iff_not, Bool.and_eq_true, Bool.or_eq_false_iff, Bool.not_eq_true'] at hb); exact a_geq (lq rfl) rfl rfl))
      first | refine sq_a (ag_plain rfl (a_pick_or (lq rfl) rfl rfl)) ?_ | refine sq_a (ag_plain rfl (a_pick_td (lq rfl) rfl rfl)) ?_ | refine sq_a (ag_plain rfl (a_pick_fd (lq rfl) rfl rfl)) ?_
      first | refine sq_a (ag_plain rfl (a_assign_d (lq rfl) rfl)) ?_ | refine sq_a (ag_plain rfl (a_assign_row (lq rfl) rfl)) ?_ | refine sq_a (ag_plain rfl (a_assign_ptr (lq rfl) rfl)) ?_
      refine sq_nil ?_
      refine avc_if rfl ⟨fun hc1 => ?_, fun hc1 => ?_⟩
      ·
        try simp only [Bool.and_eq_true, Bool.or_eq_true, Bool.not_eq_true', Bool.and_eq_false_iff, Bool.or_eq_false_iff, Bool.not_eq_false', decide_eq_true_eq, decide_eq_false_iff_not, Int.not_lt, Int.not_le] at hc1
        refine avc_sq ?_
        first | refine sq_a (ag_plain rfl (a_move_d (lq rfl) rfl)) ?_ | refine sq_a (ag_plain rfl (a_move_row (lq rfl) rfl)) ?_ | refine sq_a (ag_plain rfl (a_move_ptr (lq rfl) rfl)) ?_ | refine sq_a (ag_plain rfl (a_move_ip (lq rfl) rfl)) ?_ | refine sq_a (ag_plain rfl (a_move_tup (lq rfl) rfl)) ?_
        refine sq_a (ag_plain rfl (a_lit (lq rfl) S22 rfl rfl rfl rfl (by decide) rfl)) ?_
        refine sq_b rfl (s_callO (lq rfl) rfl rfl rfl (add_c _ [0] (by simp only [List.length_cons, List.length_nil]; omega)) rfl rfl) ?_
        first | refine sq_a (ag_plain rfl (a_assign_d (lq rfl) rfl)) ?_ | refine sq_a (ag_plain rfl (a_assign_row (lq rfl) rfl)) ?_ | refine sq_a (ag_plain rfl (a_assign_ptr (lq rfl) rfl)) ?_
        refine sq_nil ?_
        refine avc_sq ?_
        refine sq_a (ag_plain rfl (a_add (lq rfl) rfl rfl (w64 (by omega) (by omega)))) ?_
        first | refine sq_a (ag_plain rfl (a_move_d (lq rfl) rfl)) ?_ | refine sq_a (ag_plain rfl (a_move_row (lq rfl) rfl)) ?_ | refine sq_a (ag_plain rfl (a_move_ptr (lq rfl) rfl)) ?_ | refine sq_a (ag_plain rfl (a_move_ip (lq rfl) rfl)) ?_ | refine sq_a (ag_plain rfl (a_move_tup (lq rfl) rfl)) ?_
        refine sq_nil ?_
        first | refine loop_end  (j := k + 1) ?_ ?_ ?_ | refine loop_end  (K := fun _ _ => True) (j := k + 1) ?_ ?_ ?_
        · omega
        · omega
        · refine weak_cov ⟨?_, ?_, ?_, ?_, trivial⟩ ⟨?_, trivial⟩ <;> (first | rfl | exact cov_int (by omega) | exact cov_row (by rw [vbs_step (by omega), vb0 (by omega)]; try (first | rfl | (simp [flatDV, dby, List.flatMap]; done) | (simp [flatDV, dby, List.flatMap]; rfl))))
      ·
        try simp only [Bool.and_eq_true, Bool.or_eq_true, Bool.not_eq_true', Bool.and_eq_false_iff, Bool.or_eq_false_iff, Bool.not_eq_false', decide_eq_true_eq, decide_eq_false_iff_not, Int.not_lt, Int.not_le] at hc1
        refine avc_sq2 ?_
        refine avc_sq ?_
        first | refine sq_a (ag_plain rfl (a_move_d (lq rfl) rfl)) ?_ | refine sq_a (ag_plain rfl (a_move_row (lq rfl) rfl)) ?_ | refine sq_a (ag_plain rfl (a_move_ptr (lq rfl) rfl)) ?_ | refine sq_a (ag_plain rfl (a_move_ip (lq rfl) rfl)) ?_ | refine sq_a (ag_plain rfl (a_move_tup (lq rfl) rfl)) ?_
        refine sq_a (ag_plain rfl (a_lss (lq rfl) rfl rfl)) ?_
        first | refine sq_a (ag_plain rfl (a_assign_d (lq rfl) rfl)) ?_ | refine sq_a (ag_plain rfl (a_assign_row (lq rfl) rfl)) ?_ | refine sq_a (ag_plain rfl (a_assign_ptr (lq rfl) rfl)) ?_
        refine sq_nil ?_
        refine avc_if rfl ⟨fun hc2 => ?_, fun hc2 => ?_⟩
        ·
          try simp only [Bool.and_eq_true, Bool.or_eq_true, Bool.not_eq_true', Bool.and_eq_false_iff, Bool.or_eq_false_iff, Bool.not_eq_false', decide_eq_true_eq, decide_eq_false_iff_not, Int.not_lt, Int.not_le] at hc2
          refine avc_sq ?_
          first | refine sq_a (ag_plain rfl (a_move_d (lq rfl) rfl)) ?_ | refine sq_a (ag_plain rfl (a_move_row (lq rfl) rfl)) ?_ | refine sq_a (ag_plain rfl (a_move_ptr (lq rfl) rfl)) ?_ | refine sq_a (ag_plain rfl (a_move_ip (lq rfl) rfl)) ?_ | refine sq_a (ag_plain rfl (a_move_tup (lq rfl) rfl)) ?_
          first | refine sq_a (ag_plain rfl (a_move_d (lq rfl) rfl)) ?_ | refine sq_a (ag_plain rfl (a_move_row (lq rfl) rfl)) ?_ | refine sq_a (ag_plain rfl (a_move_ptr (lq rfl) rfl)) ?_ | refine sq_a (ag_plain rfl (a_move_ip (lq rfl) rfl)) ?_ | refine sq_a (ag_plain rfl (a_move_tup (lq rfl) rfl)) ?_
          refine sq_a (ag_plain rfl (a_lit (lq rfl) S22 rfl rfl rfl rfl (by decide) rfl)) ?_
          refine sq_b rfl (s_callO (lq rfl) rfl rfl rfl (add_c _ [l.getD k 0] (by simp only [List.length_cons, List.length_nil]; omega)) rfl rfl) ?_
          first | refine sq_a (ag_plain rfl (a_assign_d (lq rfl) rfl)) ?_ | refine sq_a (ag_plain rfl (a_assign_row (lq rfl) rfl)) ?_ | refine sq_a (ag_plain rfl (a_assign_ptr (lq rfl) rfl)) ?_
          refine sq_nil ?_
          refine avc_sq ?_
          refine sq_a (ag_plain rfl (a_add (lq rfl) rfl rfl (w64 (by omega) (by omega)))) ?_
          first | refine sq_a (ag_plain rfl (a_move_d (lq rfl) rfl)) ?_ | refine sq_a (ag_plain rfl (a_move_row (lq rfl) rfl)) ?_ | refine sq_a (ag_plain rfl (a_move_ptr (lq rfl) rfl)) ?_ | refine sq_a (ag_plain rfl (a_move_ip (lq rfl) rfl)) ?_ | refine sq_a (ag_plain rfl (a_move_tup (lq rfl) rfl)) ?_
          refine sq_nil ?_
          first | refine loop_end  (j := k + 1) ?_ ?_ ?_ | refine loop_end  (K := fun _ _ => True) (j := k + 1) ?_ ?_ ?_
          · omega
          · omega
          · refine weak_cov ⟨?_, ?_, ?_, ?_, trivial⟩ ⟨?_, trivial⟩ <;> (first | rfl | exact cov_int (by omega) | exact cov_row (by rw [vbs_step (by omega), vb1 (by omega) (by omega)]; try (first | rfl | (simp [flatDV, dby, List.flatMap]; done) | (simp [flatDV, dby, List.flatMap]; rfl))))
        ·
          try simp only [Bool.and_eq_true, Bool.or_eq_true, Bool.not_eq_true', Bool.and_eq_false_iff, Bool.or_eq_false_iff, Bool.not_eq_false', decide_eq_true_eq, decide_eq_false_iff_not, Int.not_lt, Int.not_le] at hc2
          refine avc_sq2 ?_
          refine avc_sq ?_
          first | refine sq_a (ag_plain rfl (a_move_d (lq rfl) rfl)) ?_ | refine sq_a (ag_plain rfl (a_move_row (lq rfl) rfl)) ?_ | refine sq_a (ag_plain rfl (a_move_ptr (lq rfl) rfl)) ?_ | refine sq_a (ag_plain rfl (a_move_ip (lq rfl) rfl)) ?_ | refine sq_a (ag_plain rfl (a_move_tup (lq rfl) rfl)) ?_
          refine sq_a (ag_plain rfl (a_lss (lq rfl) rfl rfl)) ?_
          first | refine sq_a (ag_plain rfl (a_assign_d (lq rfl) rfl)) ?_ | refine sq_a (ag_plain rfl (a_assign_row (lq rfl) rfl)) ?_ | refine sq_a (ag_plain rfl (a_assign_ptr (lq rfl) rfl)) ?_
          refine sq_nil ?_
          refine avc_if rfl ⟨fun hc3 => ?_, fun hc3 => ?_⟩
          ·
            try simp only [Bool.and_eq_true, Bool.or_eq_true, Bool.not_eq_true', Bool.and_eq_false_iff, Bool.or_eq_false_iff, Bool.not_eq_false', decide_eq_true_eq, decide_eq_false_iff_not, Int.not_lt, Int.not_le] at hc3
            refine avc_sq ?_
            first | refine sq_a (ag_plain rfl (a_move_d (lq rfl) rfl)) ?_ | refine sq_a (ag_plain rfl (a_move_row (lq rfl) rfl)) ?_ | refine sq_a (ag_plain rfl (a_move_ptr (lq rfl) rfl)) ?_ | refine sq_a (ag_plain rfl (a_move_ip (lq rfl) rfl)) ?_ | refine sq_a (ag_plain rfl (a_move_tup (lq rfl) rfl)) ?_
            first | refine sq_a (ag_plain rfl (a_move_d (lq rfl) rfl)) ?_ | refine sq_a (ag_plain rfl (a_move_row (lq rfl) rfl)) ?_ | refine sq_a (ag_plain rfl (a_move_ptr (lq rfl) rfl)) ?_ | refine sq_a (ag_plain rfl (a_move_ip (lq rfl) rfl)) ?_ | refine sq_a (ag_plain rfl (a_move_tup (lq rfl) rfl)) ?_
            refine sq_a (ag_plain rfl (a_quo (lq rfl) rfl rfl (by omega) (by omega) (w64 (by omega) (by omega)))) ?_
            refine sq_a (ag_plain rfl (a_add (lq rfl) rfl rfl (w64 (by omega) (by omega)))) ?_
            first | refine sq_a (ag_plain rfl (a_move_d (lq rfl) rfl)) ?_ | refine sq_a (ag_plain rfl (a_move_row (lq rfl) rfl)) ?_ | refine sq_a (ag_plain rfl (a_move_ptr (lq rfl) rfl)) ?_ | refine sq_a (ag_plain rfl (a_move_ip (lq rfl) rfl)) ?_ | refine sq_a (ag_plain rfl (a_move_tup (lq rfl) rfl)) ?_
            refine sq_a (ag_plain rfl (a_rem (lq rfl) rfl rfl (by omega) (by omega))) ?_
            refine sq_a (ag_plain rfl (a_lit (lq rfl) S22 rfl rfl rfl rfl (by decide) rfl)) ?_
            refine sq_b rfl (s_callO (lq rfl) rfl rfl rfl (add_c _ [64 + l.getD k 0 / 256, l.getD k 0 % 256] (by simp only [List.length_cons, List.length_nil]; omega)) rfl rfl) ?_
            first | refine sq_a (ag_plain rfl (a_assign_d (lq rfl) rfl)) ?_ | refine sq_a (ag_plain rfl (a_assign_row (lq rfl) rfl)) ?_ | refine sq_a (ag_plain rfl (a_assign_ptr (lq rfl) rfl)) ?_
            refine sq_nil ?_
            refine avc_sq ?_
            refine sq_a (ag_plain rfl (a_add (lq rfl) rfl rfl (w64 (by omega) (by omega)))) ?_
            first | refine sq_a (ag_plain rfl (a_move_d (lq rfl) rfl)) ?_ | refine sq_a (ag_plain rfl (a_move_row (lq rfl) rfl)) ?_ | refine sq_a (ag_plain rfl (a_move_ptr (lq rfl) rfl)) ?_ | refine sq_a (ag_plain rfl (a_move_ip (lq rfl) rfl)) ?_ | refine sq_a (ag_plain rfl (a_move_tup (lq rfl) rfl)) ?_
            refine sq_nil ?_
            first | refine loop_end  (j := k + 1) ?_ ?_ ?_ | refine loop_end  (K := fun _ _ => True) (j := k + 1) ?_ ?_ ?_
            · omega
            · omega
            · refine weak_cov ⟨?_, ?_, ?_, ?_, trivial⟩ ⟨?_, trivial⟩ <;> (first | rfl | exact cov_int (by omega) | exact cov_row (by rw [vbs_step (by omega), vb2 (by omega) (by omega) (by omega)]; try (first | rfl | (simp [flatDV, dby, List.flatMap]; done) | (simp [flatDV, dby, List.flatMap]; rfl))))
          ·
            try simp only [Bool.and_eq_true, Bool.or_eq_true, Bool.not_eq_true', Bool.and_eq_false_iff, Bool.or_eq_false_iff, Bool.not_eq_false', decide_eq_true_eq, decide_eq_false_iff_not, Int.not_lt, Int.not_le] at hc3
            refine avc_sq ?_
            first | refine sq_a (ag_plain rfl (a_move_d (lq rfl) rfl)) ?_ | refine sq_a (ag_plain rfl (a_move_row (lq rfl) rfl)) ?_ | refine sq_a (ag_plain rfl (a_move_ptr (lq rfl) rfl)) ?_ | refine sq_a (ag_plain rfl (a_move_ip (lq rfl) rfl)) ?_ | refine sq_a (ag_plain rfl (a_move_tup (lq rfl) rfl)) ?_
            first | refine sq_a (ag_plain rfl (a_move_d (lq rfl) rfl)) ?_ | refine sq_a (ag_plain rfl (a_move_row (lq rfl) rfl)) ?_ | refine sq_a (ag_plain rfl (a_move_ptr (lq rfl) rfl)) ?_ | refine sq_a (ag_plain rfl (a_move_ip (lq rfl) rfl)) ?_ | refine sq_a (ag_plain rfl (a_move_tup (lq rfl) rfl)) ?_
            refine sq_a (ag_plain rfl (a_shr (m := 16) (lq rfl) rfl rfl (by decide))) ?_
            first | refine sq_a (ag_plain rfl (a_move_d (lq rfl) rfl)) ?_ | refine sq_a (ag_plain rfl (a_move_row (lq rfl) rfl)) ?_ | refine sq_a (ag_plain rfl (a_move_ptr (lq rfl) rfl)) ?_ | refine sq_a (ag_plain rfl (a_move_ip (lq rfl) rfl)) ?_ | refine sq_a (ag_plain rfl (a_move_tup (lq rfl) rfl)) ?_
            refine sq_a (ag_plain rfl (a_shr (m := 8) (lq rfl) rfl rfl (by decide))) ?_
            refine sq_a (ag_plain rfl (a_rem (lq rfl) rfl rfl (by omega) (by omega))) ?_
            first | refine sq_a (ag_plain rfl (a_move_d (lq rfl) rfl)) ?_ | refine sq_a (ag_plain rfl (a_move_row (lq rfl) rfl)) ?_ | refine sq_a (ag_plain rfl (a_move_ptr (lq rfl) rfl)) ?_ | refine sq_a (ag_plain rfl (a_move_ip (lq rfl) rfl)) ?_ | refine sq_a (ag_plain rfl (a_move_tup (lq rfl) rfl)) ?_
            refine sq_a (ag_plain rfl (a_rem (lq rfl) rfl rfl (by omega) (by omega))) ?_
            refine sq_a (ag_plain rfl (a_lit (lq rfl) S22 rfl rfl rfl rfl (by decide) rfl)) ?_
            refine sq_b rfl (s_callO (lq rfl) rfl rfl rfl (add_c _ [128, l.getD k 0 / 2 ^ 16, l.getD k 0 / 2 ^ 8 % 256, l.getD k 0 % 256] (by simp only [List.length_cons, List.length_nil]; omega)) rfl rfl) ?_
            first | refine sq_a (ag_plain rfl (a_assign_d (lq rfl) rfl)) ?_ | refine sq_a (ag_plain rfl (a_assign_row (lq rfl) rfl)) ?_ | refine sq_a (ag_plain rfl (a_assign_ptr (lq rfl) rfl)) ?_
            refine sq_nil ?_
            refine avc_sq ?_
            refine sq_a (ag_plain rfl (a_add (lq rfl) rfl rfl (w64 (by omega) (by omega)))) ?_
            first | refine sq_a (ag_plain rfl (a_move_d (lq rfl) rfl)) ?_ | refine sq_a (ag_plain rfl (a_move_row (lq rfl) rfl)) ?_ | refine sq_a (ag_plain rfl (a_move_ptr (lq rfl) rfl)) ?_ | refine sq_a (ag_plain rfl (a_move_ip (lq rfl) rfl)) ?_ | refine sq_a (ag_plain rfl (a_move_tup (lq rfl) rfl)) ?_
            refine sq_nil ?_
            first | refine loop_end  (j := k + 1) ?_ ?_ ?_ | refine loop_end  (K := fun _ _ => True) (j := k + 1) ?_ ?_ ?_
            · omega
            · omega
            · refine weak_cov ⟨?_, ?_, ?_, ?_, trivial⟩ ⟨?_, trivial⟩ <;> (first | rfl | exact cov_int (by omega) | exact cov_row (by rw [vbs_step (by omega), vb4 (by omega) (by omega) (by omega)]; try (first | rfl | (simp [flatDV, dby, List.flatMap]; done) | (simp [flatDV, dby, List.flatMap]; rfl))))
    ·
      try simp only [Bool.and_eq_true, Bool.or_eq_true, Bool.not_eq_true', Bool.and_eq_false_iff, Bool.or_eq_false_iff, Bool.not_eq_false', decide_eq_true_eq, decide_eq_false_iff_not, Int.not_lt, Int.not_le] at hc0
      refine avc_exit ?_
      refine avc_sq2 ?_
      refine avc_sq ?_
      first | refine sq_a (ag_plain rfl (a_move_d (lq rfl) rfl)) ?_ | refine sq_a (ag_plain rfl (a_move_row (lq rfl) rfl)) ?_ | refine sq_a (ag_plain rfl (a_move_ptr (lq rfl) rfl)) ?_ | refine sq_a (ag_plain rfl (a_move_ip (lq rfl) rfl)) ?_ | refine sq_a (ag_plain rfl (a_move_tup (lq rfl) rfl)) ?_
      rw [take_all (by omega)]
      first | refine sq_a (ag_plain rfl (a_conv_str_d (lq rfl) Try.underlying42 Try.underlying9 Try.underlying5 rfl)) ?_ | refine sq_a (ag_plain rfl (a_conv_str_row (lq rfl) Try.underlying42 Try.underlying9 Try.underlying5 rfl rfl)) ?_
      first | refine sq_a (ag_plain rfl (a_assign_d (lq rfl) rfl)) ?_ | refine sq_a (ag_plain rfl (a_assign_row (lq rfl) rfl)) ?_ | refine sq_a (ag_plain rfl (a_assign_ptr (lq rfl) rfl)) ?_
      refine sq_nil ?_
      refine avc_ret ?_
      exact ret_d rfl rfl

theorem refVarint_c (l : List Int) (hl : l.length < 268435456) : Contract Try.prog 18 [.ints l] [.v (.string (strOfNums (vbs l)))] := by
  refine contract_of Try.func18 (by kernel_rfl) rfl (lq rfl) (lq rfl) fun w0 I0 => ?_
  refine avc_sq2 ?_
  refine avc_sq ?_
  refine sq_a (ag_plain rfl (a_assign_d (lq rfl) rfl)) ?_
  refine sq_nil ?_
  refine avc_sq2 ?_
  refine avc_sq ?_
  refine sq_a (ag_plain rfl (a_assign_d (lq rfl) rfl)) ?_
  refine sq_nil ?_
  refine avc_sq2 ?_
  refine avc_sq2 ?_
  refine avc_sq ?_
  refine sq_a (ag_plain rfl (a_assign_d (lq rfl) rfl)) ?_
  refine sq_nil ?_
  refine avc_block ?_
  refine avc_weak (weak_nil (t := 3) 99 5 1 (by decide) (lq rfl) rfl rfl) ?_
  refine avc_loop (ι := Nat) (fun k => ⟨[(0, .d (.ints l)), (3, .row 99), (4, .d (di k))], [(99, .row 5 1 false ((vbs (l.take k)).map dby))]⟩) (fun k => k ≤ l.length) (fun k => l.length - k) 0 ?_ ?_ ?_
  · omega
  · refine weak_cov ⟨?_, ?_, ?_, trivial⟩ ⟨?_, trivial⟩ <;> (first | rfl | exact cov_int (by omega) | exact cov_row (by simp [di, flatDV]))
  · rintro k hp
    have hvl := vbs_le (l.take k)
    rw [List.length_take] at hvl
    refine avc_sq2 ?_
    refine avc_sq2 ?_
    refine avc_sq ?_
    first | refine sq_a (ag_plain rfl (a_move_d (lq rfl) rfl)) ?_ | refine sq_a (ag_plain rfl (a_move_row (lq rfl) rfl)) ?_ | refine sq_a (ag_plain rfl (a_move_ptr (lq rfl) rfl)) ?_ | refine sq_a (ag_plain rfl (a_move_ip (lq rfl) rfl)) ?_ | refine sq_a (ag_plain rfl (a_move_tup (lq rfl) rfl)) ?_
    first | refine sq_a (ag_plain rfl (a_move_d (lq rfl) rfl)) ?_ | refine sq_a (ag_plain rfl (a_move_row (lq rfl) rfl)) ?_ | refine sq_a (ag_plain rfl (a_move_ptr (lq rfl) rfl)) ?_ | refine sq_a (ag_plain rfl (a_move_ip (lq rfl) rfl)) ?_ | refine sq_a (ag_plain rfl (a_move_tup (lq rfl) rfl)) ?_
    first | refine sq_a (ag_plain rfl (a_len_d (lq rfl) S22 rfl len_map)) ?_ | refine sq_a (ag_plain rfl (a_len_row (lq rfl) S22 rfl rfl len_map)) ?_ | refine sq_a (ag_plain rfl (a_len_nil (lq rfl) Try.underlying22 rfl)) ?_
    refine sq_a (ag_plain rfl (a_lss (lq rfl) rfl rfl)) ?_
    refine sq_nil ?_
    refine avc_if rfl ⟨fun hc0 => ?_, fun hc0 => ?_⟩
    ·
      try simp only [Bool.and_eq_true, Bool.or_eq_true, Bool.not_eq_true', Bool.and_eq_false_iff, Bool.or_eq_false_iff, Bool.not_eq_false', decide_eq_true_eq, decide_eq_false_iff_not, Int.not_lt, Int.not_le] at hc0
      refine avc_skip ?_
      refine avc_sq2 ?_
      refine avc_block ?_
      refine avc_sq2 ?_
      refine avc_sq ?_
      first | refine sq_a (ag_plain rfl (a_move_d (lq rfl) rfl)) ?_ | refine sq_a (ag_plain rfl (a_move_row (lq rfl) rfl)) ?_ | refine sq_a (ag_plain rfl (a_move_ptr (lq rfl) rfl)) ?_ | refine sq_a (ag_plain rfl (a_move_ip (lq rfl) rfl)) ?_ | refine sq_a (ag_plain rfl (a_move_tup (lq rfl) rfl)) ?_
      first | refine sq_a (ag_plain rfl (a_move_d (lq rfl) rfl)) ?_ | refine sq_a (ag_plain rfl (a_move_row (lq rfl) rfl)) ?_ | refine sq_a (ag_plain rfl (a_move_ptr (lq rfl) rfl)) ?_ | refine sq_a (ag_plain rfl (a_move_ip (lq rfl) rfl)) ?_ | refine sq_a (ag_plain rfl (a_move_tup (lq rfl) rfl)) ?_
      first | refine sq_a (ag_plain rfl (a_index_d (lq rfl) S22 rfl rfl rfl len_map (by omega))) ?_ | refine sq_a (ag_plain rfl (a_index_row (lq rfl) S22 rfl rfl rfl rfl len_map (by omega))) ?_ | refine sq_a (ag_plain rfl (a_index_d (lq rfl) S22 rfl rfl (ix_add1 _) len_map (by omega))) ?_ | refine sq_a (ag_plain rfl (a_index_row (lq rfl) S22 rfl rfl rfl (ix_add1 _) len_map (by omega))) ?_ | refine sq_a (ag_plain rfl (a_index_d (lq rfl) S22 rfl rfl (ix_nat (by omega)) len_map (by omega))) ?_ | refine sq_a (ag_plain rfl (a_index_row (lq rfl) S22 rfl rfl rfl (ix_nat (by omega)) len_map (by omega))) ?_
      first | refine sq_a (ag_plain rfl (a_load_box (lq rfl) O3 rfl rfl rfl)) ?_ | refine sq_a (ag_plain rfl (a_load_pt (lq rfl) O3 rfl rfl)) ?_ | refine sq_a (ag_plain rfl (a_load_ip (lq rfl) O3 rfl (get_map 0 (by omega)))) ?_ | refine sq_a (ag_plain rfl (a_load_row (lq rfl) O3 rfl rfl (get_map 0 (by omega)))) ?_
      first | refine sq_a (ag_plain rfl (a_assign_d (lq rfl) rfl)) ?_ | refine sq_a (ag_plain rfl (a_assign_row (lq rfl) rfl)) ?_ | refine sq_a (ag_plain rfl (a_assign_ptr (lq rfl) rfl)) ?_
      refine sq_nil ?_
      refine avc_sq2 ?_
      refine avc_sq2 ?_
      refine avc_sq ?_
      first | refine sq_a (ag_plain rfl (a_move_d (lq rfl) rfl)) ?_ | refine sq_a (ag_plain rfl (a_move_row (lq rfl) rfl)) ?_ | refine sq_a (ag_plain rfl (a_move_ptr (lq rfl) rfl)) ?_ | refine sq_a (ag_plain rfl (a_move_ip (lq rfl) rfl)) ?_ | refine sq_a (ag_plain rfl (a_move_tup (lq rfl) rfl)) ?_
      refine sq_a (ag_plain rfl (a_lss (lq rfl) rfl rfl)) ?_
      first | refine sq_a (ag_plain rfl (a_move_d (lq rfl) rfl)) ?_ | refine sq_a (ag_plain rfl (a_move_row (lq rfl) rfl)) ?_ | refine sq_a (ag_plain rfl (a_move_ptr (lq rfl) rfl)) ?_ | refine sq_a (ag_plain rfl (a_move_ip (lq rfl) rfl)) ?_ | refine sq_a (ag_plain rfl (a_move_tup (lq rfl) rfl)) ?_
      first | (apply sq_g rfl rfl rfl (lq rfl) (lq rfl) rfl; focus (intro hb; simp only [gd, Bool.not_eq_true'] at hb; (try rw [hb]); (try simp only [decide_eq_true_eq, decide_eq_false_iff_not, Bool.and_eq_true, Bool.or_eq_false_iff, Bool.not_eq_true'] at hb); first | exact a_move_d (lq rfl) rfl | exact a_move_row (lq rfl) rfl | exact a_move_ptr (lq rfl) rfl | exact a_move_ip (lq rfl) rfl | exact a_move_tup (lq rfl) rfl)) | (apply sq_g2 rfl rfl rfl (lq rfl) (lq rfl) rfl; focus (intro hb; simp only [gd, Bool.and_eq_true, Bool.not_eq_true'] at hb; (try rw [hb.1]); (try rw [hb.2]); (try simp only [decide_eq_true_eq, decide_eq_false_iff_not, Bool.and_eq_true, Bool.or_eq_false_iff, Bool.not_eq_true'] at hb); first | exact a_move_d (lq rfl) rfl | exact a_move_row (lq rfl) rfl | exact a_move_ptr (lq rfl) rfl | exact a_move_ip (lq rfl) rfl | exact a_move_tup (lq rfl) rfl))
      first | (apply sq_g rfl rfl rfl (lq rfl) (lq rfl) rfl; focus (intro hb; simp only [gd, Bool.not_eq_true'] at hb; (try rw [hb]); (try simp only [decide_eq_true_eq, decide_eq_false_iff_not, Bool.and_eq_true, Bool.or_eq_false_iff, Bool.not_eq_true'] at hb); exact a_geq (lq rfl) rfl rfl)) | (apply sq_g2 rfl rfl rfl (lq rfl) (lq rfl) rfl; focus (intro hb; simp only [gd, Bool.and_eq_true, Bool.not_eq_true'] at hb; (try rw [hb.1]); (try rw [hb.2]); (try simp only [decide_eq_true_eq, decide_eq_false_iff_not, Bool.and_eq_true, Bool.or_eq_false_iff, Bool.not_eq_true'] at hb); exact a_geq (lq rfl) rfl rfl))
      first | refine sq_a (ag_plain rfl (a_pick_or (lq rfl) rfl rfl)) ?_ | refine sq_a (ag_plain rfl (a_pick_td (lq rfl) rfl rfl)) ?_ | refine sq_a (ag_plain rfl (a_pick_fd (lq rfl) rfl rfl)) ?_
      refine sq_nil ?_
      refine avc_if rfl ⟨fun hc1 => ?_, fun hc1 => ?_⟩
      ·
        try simp only [Bool.and_eq_true, Bool.or_eq_true, Bool.not_eq_true', Bool.and_eq_false_iff, Bool.or_eq_false_iff, Bool.not_eq_false', decide_eq_true_eq, decide_eq_false_iff_not, Int.not_lt, Int.not_le] at hc1
        refine avc_sq ?_
        refine sq_a (ag_plain rfl (a_assign_d (lq rfl) rfl)) ?_
        refine sq_nil ?_
        refine avc_block ?_
        refine avc_sq2 ?_
        refine avc_sq ?_
        first | refine sq_a (ag_plain rfl (a_move_d (lq rfl) rfl)) ?_ | refine sq_a (ag_plain rfl (a_move_row (lq rfl) rfl)) ?_ | refine sq_a (ag_plain rfl (a_move_ptr (lq rfl) rfl)) ?_ | refine sq_a (ag_plain rfl (a_move_ip (lq rfl) rfl)) ?_ | refine sq_a (ag_plain rfl (a_move_tup (lq rfl) rfl)) ?_
        refine sq_a (ag_plain rfl (a_lss (lq rfl) rfl rfl)) ?_
        first | refine sq_a (ag_plain rfl (a_assign_d (lq rfl) rfl)) ?_ | refine sq_a (ag_plain rfl (a_assign_row (lq rfl) rfl)) ?_ | refine sq_a (ag_plain rfl (a_assign_ptr (lq rfl) rfl)) ?_
        refine sq_nil ?_
        refine avc_if rfl ⟨fun hc2 => ?_, fun hc2 => ?_⟩
        ·
          try simp only [Bool.and_eq_true, Bool.or_eq_true, Bool.not_eq_true', Bool.and_eq_false_iff, Bool.or_eq_false_iff, Bool.not_eq_false', decide_eq_true_eq, decide_eq_false_iff_not, Int.not_lt, Int.not_le] at hc2
          refine avc_sq ?_
          first | refine sq_a (ag_plain rfl (a_move_d (lq rfl) rfl)) ?_ | refine sq_a (ag_plain rfl (a_move_row (lq rfl) rfl)) ?_ | refine sq_a (ag_plain rfl (a_move_ptr (lq rfl) rfl)) ?_ | refine sq_a (ag_plain rfl (a_move_ip (lq rfl) rfl)) ?_ | refine sq_a (ag_plain rfl (a_move_tup (lq rfl) rfl)) ?_
          first | refine sq_a (ag_plain rfl (a_move_d (lq rfl) rfl)) ?_ | refine sq_a (ag_plain rfl (a_move_row (lq rfl) rfl)) ?_ | refine sq_a (ag_plain rfl (a_move_ptr (lq rfl) rfl)) ?_ | refine sq_a (ag_plain rfl (a_move_ip (lq rfl) rfl)) ?_ | refine sq_a (ag_plain rfl (a_move_tup (lq rfl) rfl)) ?_
          refine sq_a (ag_plain rfl (a_conv_to (lq rfl) Try.underlying3 Try.underlying5 rfl (u8w _))) ?_
          refine sq_a (ag_plain rfl (a_lit (lq rfl) S42 rfl rfl rfl rfl (by decide) rfl)) ?_
          first | refine sq_b rfl (s_append_d (lq rfl) S42 rfl rfl rfl len_map (rfl : _ = 1 * 1) (by decide) (by omega) rfl rfl) ?_ | refine sq_b rfl (s_append_row (lq rfl) S42 rfl rfl rfl rfl len_map (rfl : _ = 1 * 1) (by decide) (by omega) rfl rfl) ?_
          first | refine sq_a (ag_plain rfl (a_assign_d (lq rfl) rfl)) ?_ | refine sq_a (ag_plain rfl (a_assign_row (lq rfl) rfl)) ?_ | refine sq_a (ag_plain rfl (a_assign_ptr (lq rfl) rfl)) ?_
          refine sq_nil ?_
          refine avc_sq ?_
          first | refine sq_a (ag_plain rfl (a_move_d (lq rfl) rfl)) ?_ | refine sq_a (ag_plain rfl (a_move_row (lq rfl) rfl)) ?_ | refine sq_a (ag_plain rfl (a_move_ptr (lq rfl) rfl)) ?_ | refine sq_a (ag_plain rfl (a_move_ip (lq rfl) rfl)) ?_ | refine sq_a (ag_plain rfl (a_move_tup (lq rfl) rfl)) ?_
          refine sq_a (ag_plain rfl (a_add (lq rfl) rfl rfl (w64 (by omega) (by omega)))) ?_
          first | refine sq_a (ag_plain rfl (a_assign_d (lq rfl) rfl)) ?_ | refine sq_a (ag_plain rfl (a_assign_row (lq rfl) rfl)) ?_ | refine sq_a (ag_plain rfl (a_assign_ptr (lq rfl) rfl)) ?_
          refine sq_nil ?_
          first | refine loop_end  (j := k + 1) ?_ ?_ ?_ | refine loop_end  (K := fun _ _ => True) (j := k + 1) ?_ ?_ ?_
          · omega
          · omega
          · refine weak_cov ⟨?_, ?_, ?_, trivial⟩ ⟨?_, trivial⟩ <;> (first | rfl | exact cov_int (by omega) | exact cov_row (by rw [vbs_step (by omega), vb0 (by omega)]; try (first | rfl | (simp [flatDV, dby, List.flatMap]; done) | (simp [flatDV, dby, List.flatMap]; rfl))))
        ·
          try simp only [Bool.and_eq_true, Bool.or_eq_true, Bool.not_eq_true', Bool.and_eq_false_iff, Bool.or_eq_false_iff, Bool.not_eq_false', decide_eq_true_eq, decide_eq_false_iff_not, Int.not_lt, Int.not_le] at hc2
          exfalso; omega
      ·
        try simp only [Bool.and_eq_true, Bool.or_eq_true, Bool.not_eq_true', Bool.and_eq_false_iff, Bool.or_eq_false_iff, Bool.not_eq_false', decide_eq_true_eq, decide_eq_false_iff_not, Int.not_lt, Int.not_le] at hc1
        refine avc_skip ?_
        refine avc_block ?_
        refine avc_sq2 ?_
        refine avc_sq ?_
        first | refine sq_a (ag_plain rfl (a_move_d (lq rfl) rfl)) ?_ | refine sq_a (ag_plain rfl (a_move_row (lq rfl) rfl)) ?_ | refine sq_a (ag_plain rfl (a_move_ptr (lq rfl) rfl)) ?_ | refine sq_a (ag_plain rfl (a_move_ip (lq rfl) rfl)) ?_ | refine sq_a (ag_plain rfl (a_move_tup (lq rfl) rfl)) ?_
        refine sq_a (ag_plain rfl (a_lss (lq rfl) rfl rfl)) ?_
        first | refine sq_a (ag_plain rfl (a_assign_d (lq rfl) rfl)) ?_ | refine sq_a (ag_plain rfl (a_assign_row (lq rfl) rfl)) ?_ | refine sq_a (ag_plain rfl (a_assign_ptr (lq rfl) rfl)) ?_
        refine sq_nil ?_
        refine avc_if rfl ⟨fun hc2 => ?_, fun hc2 => ?_⟩
        ·
          try simp only [Bool.and_eq_true, Bool.or_eq_true, Bool.not_eq_true', Bool.and_eq_false_iff, Bool.or_eq_false_iff, Bool.not_eq_false', decide_eq_true_eq, decide_eq_false_iff_not, Int.not_lt, Int.not_le] at hc2
          refine avc_sq ?_
          first | refine sq_a (ag_plain rfl (a_move_d (lq rfl) rfl)) ?_ | refine sq_a (ag_plain rfl (a_move_row (lq rfl) rfl)) ?_ | refine sq_a (ag_plain rfl (a_move_ptr (lq rfl) rfl)) ?_ | refine sq_a (ag_plain rfl (a_move_ip (lq rfl) rfl)) ?_ | refine sq_a (ag_plain rfl (a_move_tup (lq rfl) rfl)) ?_
          first | refine sq_a (ag_plain rfl (a_move_d (lq rfl) rfl)) ?_ | refine sq_a (ag_plain rfl (a_move_row (lq rfl) rfl)) ?_ | refine sq_a (ag_plain rfl (a_move_ptr (lq rfl) rfl)) ?_ | refine sq_a (ag_plain rfl (a_move_ip (lq rfl) rfl)) ?_ | refine sq_a (ag_plain rfl (a_move_tup (lq rfl) rfl)) ?_
          refine sq_a (ag_plain rfl (a_conv_to (lq rfl) Try.underlying3 Try.underlying5 rfl (u8w _))) ?_
          refine sq_a (ag_plain rfl (a_lit (lq rfl) S42 rfl rfl rfl rfl (by decide) rfl)) ?_
          first | refine sq_b rfl (s_append_d (lq rfl) S42 rfl rfl rfl len_map (rfl : _ = 1 * 1) (by decide) (by omega) rfl rfl) ?_ | refine sq_b rfl (s_append_row (lq rfl) S42 rfl rfl rfl rfl len_map (rfl : _ = 1 * 1) (by decide) (by omega) rfl rfl) ?_
          first | refine sq_a (ag_plain rfl (a_assign_d (lq rfl) rfl)) ?_ | refine sq_a (ag_plain rfl (a_assign_row (lq rfl) rfl)) ?_ | refine sq_a (ag_plain rfl (a_assign_ptr (lq rfl) rfl)) ?_
          refine sq_nil ?_
          refine avc_sq ?_
          first | refine sq_a (ag_plain rfl (a_move_d (lq rfl) rfl)) ?_ | refine sq_a (ag_plain rfl (a_move_row (lq rfl) rfl)) ?_ | refine sq_a (ag_plain rfl (a_move_ptr (lq rfl) rfl)) ?_ | refine sq_a (ag_plain rfl (a_move_ip (lq rfl) rfl)) ?_ | refine sq_a (ag_plain rfl (a_move_tup (lq rfl) rfl)) ?_
          refine sq_a (ag_plain rfl (a_add (lq rfl) rfl rfl (w64 (by omega) (by omega)))) ?_
          first | refine sq_a (ag_plain rfl (a_assign_d (lq rfl) rfl)) ?_ | refine sq_a (ag_plain rfl (a_assign_row (lq rfl) rfl)) ?_ | refine sq_a (ag_plain rfl (a_assign_ptr (lq rfl) rfl)) ?_
          refine sq_nil ?_
          first | refine loop_end  (j := k + 1) ?_ ?_ ?_ | refine loop_end  (K := fun _ _ => True) (j := k + 1) ?_ ?_ ?_
          · omega
          · omega
          · refine weak_cov ⟨?_, ?_, ?_, trivial⟩ ⟨?_, trivial⟩ <;> (first | rfl | exact cov_int (by omega) | exact cov_row (by rw [vbs_step (by omega), vb1 (by omega) (by omega)]; try (first | rfl | (simp [flatDV, dby, List.flatMap]; done) | (simp [flatDV, dby, List.flatMap]; rfl))))
        ·
          try simp only [Bool.and_eq_true, Bool.or_eq_true, Bool.not_eq_true', Bool.and_eq_false_iff, Bool.or_eq_false_iff, Bool.not_eq_false', decide_eq_true_eq, decide_eq_false_iff_not, Int.not_lt, Int.not_le] at hc2
          refine avc_sq2 ?_
          refine avc_sq ?_
          first | refine sq_a (ag_plain rfl (a_move_d (lq rfl) rfl)) ?_ | refine sq_a (ag_plain rfl (a_move_row (lq rfl) rfl)) ?_ | refine sq_a (ag_plain rfl (a_move_ptr (lq rfl) rfl)) ?_ | refine sq_a (ag_plain rfl (a_move_ip (lq rfl) rfl)) ?_ | refine sq_a (ag_plain rfl (a_move_tup (lq rfl) rfl)) ?_
          refine sq_a (ag_plain rfl (a_lss (lq rfl) rfl rfl)) ?_
          first | refine sq_a (ag_plain rfl (a_assign_d (lq rfl) rfl)) ?_ | refine sq_a (ag_plain rfl (a_assign_row (lq rfl) rfl)) ?_ | refine sq_a (ag_plain rfl (a_assign_ptr (lq rfl) rfl)) ?_
          refine sq_nil ?_
          refine avc_if rfl ⟨fun hc3 => ?_, fun hc3 => ?_⟩
          ·
            try simp only [Bool.and_eq_true, Bool.or_eq_true, Bool.not_eq_true', Bool.and_eq_false_iff, Bool.or_eq_false_iff, Bool.not_eq_false', decide_eq_true_eq, decide_eq_false_iff_not, Int.not_lt, Int.not_le] at hc3
            refine avc_sq ?_
            first | refine sq_a (ag_plain rfl (a_move_d (lq rfl) rfl)) ?_ | refine sq_a (ag_plain rfl (a_move_row (lq rfl) rfl)) ?_ | refine sq_a (ag_plain rfl (a_move_ptr (lq rfl) rfl)) ?_ | refine sq_a (ag_plain rfl (a_move_ip (lq rfl) rfl)) ?_ | refine sq_a (ag_plain rfl (a_move_tup (lq rfl) rfl)) ?_
            first | refine sq_a (ag_plain rfl (a_move_d (lq rfl) rfl)) ?_ | refine sq_a (ag_plain rfl (a_move_row (lq rfl) rfl)) ?_ | refine sq_a (ag_plain rfl (a_move_ptr (lq rfl) rfl)) ?_ | refine sq_a (ag_plain rfl (a_move_ip (lq rfl) rfl)) ?_ | refine sq_a (ag_plain rfl (a_move_tup (lq rfl) rfl)) ?_
            refine sq_a (ag_plain rfl (a_quo (lq rfl) rfl rfl (by omega) (by omega) (w64 (by omega) (by omega)))) ?_
            refine sq_a (ag_plain rfl (a_add (lq rfl) rfl rfl (w64 (by omega) (by omega)))) ?_
            refine sq_a (ag_plain rfl (a_conv_to (lq rfl) Try.underlying3 Try.underlying5 rfl (u8w _))) ?_
            first | refine sq_a (ag_plain rfl (a_move_d (lq rfl) rfl)) ?_ | refine sq_a (ag_plain rfl (a_move_row (lq rfl) rfl)) ?_ | refine sq_a (ag_plain rfl (a_move_ptr (lq rfl) rfl)) ?_ | refine sq_a (ag_plain rfl (a_move_ip (lq rfl) rfl)) ?_ | refine sq_a (ag_plain rfl (a_move_tup (lq rfl) rfl)) ?_
            refine sq_a (ag_plain rfl (a_rem (lq rfl) rfl rfl (by omega) (by omega))) ?_
            refine sq_a (ag_plain rfl (a_conv_to (lq rfl) Try.underlying3 Try.underlying5 rfl (u8w _))) ?_
            refine sq_a (ag_plain rfl (a_lit (lq rfl) S42 rfl rfl rfl rfl (by decide) rfl)) ?_
            first | refine sq_b rfl (s_append_d (lq rfl) S42 rfl rfl rfl len_map (rfl : _ = 2 * 1) (by decide) (by omega) rfl rfl) ?_ | refine sq_b rfl (s_append_row (lq rfl) S42 rfl rfl rfl rfl len_map (rfl : _ = 2 * 1) (by decide) (by omega) rfl rfl) ?_
            first | refine sq_a (ag_plain rfl (a_assign_d (lq rfl) rfl)) ?_ | refine sq_a (ag_plain rfl (a_assign_row (lq rfl) rfl)) ?_ | refine sq_a (ag_plain rfl (a_assign_ptr (lq rfl) rfl)) ?_
            refine sq_nil ?_
            refine avc_sq ?_
            first | refine sq_a (ag_plain rfl (a_move_d (lq rfl) rfl)) ?_ | refine sq_a (ag_plain rfl (a_move_row (lq rfl) rfl)) ?_ | refine sq_a (ag_plain rfl (a_move_ptr (lq rfl) rfl)) ?_ | refine sq_a (ag_plain rfl (a_move_ip (lq rfl) rfl)) ?_ | refine sq_a (ag_plain rfl (a_move_tup (lq rfl) rfl)) ?_
            refine sq_a (ag_plain rfl (a_add (lq rfl) rfl rfl (w64 (by omega) (by omega)))) ?_
            first | refine sq_a (ag_plain rfl (a_assign_d (lq rfl) rfl)) ?_ | refine sq_a (ag_plain rfl (a_assign_row (lq rfl) rfl)) ?_ | refine sq_a (ag_plain rfl (a_assign_ptr (lq rfl) rfl)) ?_
            refine sq_nil ?_
            first | refine loop_end  (j := k + 1) ?_ ?_ ?_ | refine loop_end  (K := fun _ _ => True) (j := k + 1) ?_ ?_ ?_
            · omega
            · omega
            · refine weak_cov ⟨?_, ?_, ?_, trivial⟩ ⟨?_, trivial⟩ <;> (first | rfl | exact cov_int (by omega) | exact cov_row (by rw [vbs_step (by omega), vb2 (by omega) (by omega) (by omega)]; try (first | rfl | (simp [flatDV, dby, List.flatMap]; done) | (simp [flatDV, dby, List.flatMap]; rfl))))
          ·
            try simp only [Bool.and_eq_true, Bool.or_eq_true, Bool.not_eq_true', Bool.and_eq_false_iff, Bool.or_eq_false_iff, Bool.not_eq_false', decide_eq_true_eq, decide_eq_false_iff_not, Int.not_lt, Int.not_le] at hc3
            refine avc_sq ?_
            first | refine sq_a (ag_plain rfl (a_move_d (lq rfl) rfl)) ?_ | refine sq_a (ag_plain rfl (a_move_row (lq rfl) rfl)) ?_ | refine sq_a (ag_plain rfl (a_move_ptr (lq rfl) rfl)) ?_ | refine sq_a (ag_plain rfl (a_move_ip (lq rfl) rfl)) ?_ | refine sq_a (ag_plain rfl (a_move_tup (lq rfl) rfl)) ?_
            first | refine sq_a (ag_plain rfl (a_move_d (lq rfl) rfl)) ?_ | refine sq_a (ag_plain rfl (a_move_row (lq rfl) rfl)) ?_ | refine sq_a (ag_plain rfl (a_move_ptr (lq rfl) rfl)) ?_ | refine sq_a (ag_plain rfl (a_move_ip (lq rfl) rfl)) ?_ | refine sq_a (ag_plain rfl (a_move_tup (lq rfl) rfl)) ?_
            refine sq_a (ag_plain rfl (a_quo (lq rfl) rfl rfl (by omega) (by omega) (w64 (by omega) (by omega)))) ?_
            refine sq_a (ag_plain rfl (a_conv_to (lq rfl) Try.underlying3 Try.underlying5 rfl (u8w _))) ?_
            first | refine sq_a (ag_plain rfl (a_move_d (lq rfl) rfl)) ?_ | refine sq_a (ag_plain rfl (a_move_row (lq rfl) rfl)) ?_ | refine sq_a (ag_plain rfl (a_move_ptr (lq rfl) rfl)) ?_ | refine sq_a (ag_plain rfl (a_move_ip (lq rfl) rfl)) ?_ | refine sq_a (ag_plain rfl (a_move_tup (lq rfl) rfl)) ?_
            refine sq_a (ag_plain rfl (a_quo (lq rfl) rfl rfl (by omega) (by omega) (w64 (by omega) (by omega)))) ?_
            refine sq_a (ag_plain rfl (a_rem (lq rfl) rfl rfl (by omega) (by omega))) ?_
            refine sq_a (ag_plain rfl (a_conv_to (lq rfl) Try.underlying3 Try.underlying5 rfl (u8w _))) ?_
            first | refine sq_a (ag_plain rfl (a_move_d (lq rfl) rfl)) ?_ | refine sq_a (ag_plain rfl (a_move_row (lq rfl) rfl)) ?_ | refine sq_a (ag_plain rfl (a_move_ptr (lq rfl) rfl)) ?_ | refine sq_a (ag_plain rfl (a_move_ip (lq rfl) rfl)) ?_ | refine sq_a (ag_plain rfl (a_move_tup (lq rfl) rfl)) ?_
            refine sq_a (ag_plain rfl (a_rem (lq rfl) rfl rfl (by omega) (by omega))) ?_
            refine sq_a (ag_plain rfl (a_conv_to (lq rfl) Try.underlying3 Try.underlying5 rfl (u8w _))) ?_
            refine sq_a (ag_plain rfl (a_lit (lq rfl) S42 rfl rfl rfl rfl (by decide) rfl)) ?_
            first | refine sq_b rfl (s_append_d (lq rfl) S42 rfl rfl rfl len_map (rfl : _ = 4 * 1) (by decide) (by omega) rfl rfl) ?_ | refine sq_b rfl (s_append_row (lq rfl) S42 rfl rfl rfl rfl len_map (rfl : _ = 4 * 1) (by decide) (by omega) rfl rfl) ?_
            first | refine sq_a (ag_plain rfl (a_assign_d (lq rfl) rfl)) ?_ | refine sq_a (ag_plain rfl (a_assign_row (lq rfl) rfl)) ?_ | refine sq_a (ag_plain rfl (a_assign_ptr (lq rfl) rfl)) ?_
            refine sq_nil ?_
            refine avc_sq ?_
            first | refine sq_a (ag_plain rfl (a_move_d (lq rfl) rfl)) ?_ | refine sq_a (ag_plain rfl (a_move_row (lq rfl) rfl)) ?_ | refine sq_a (ag_plain rfl (a_move_ptr (lq rfl) rfl)) ?_ | refine sq_a (ag_plain rfl (a_move_ip (lq rfl) rfl)) ?_ | refine sq_a (ag_plain rfl (a_move_tup (lq rfl) rfl)) ?_
            refine sq_a (ag_plain rfl (a_add (lq rfl) rfl rfl (w64 (by omega) (by omega)))) ?_
            first | refine sq_a (ag_plain rfl (a_assign_d (lq rfl) rfl)) ?_ | refine sq_a (ag_plain rfl (a_assign_row (lq rfl) rfl)) ?_ | refine sq_a (ag_plain rfl (a_assign_ptr (lq rfl) rfl)) ?_
            refine sq_nil ?_
            first | refine loop_end  (j := k + 1) ?_ ?_ ?_ | refine loop_end  (K := fun _ _ => True) (j := k + 1) ?_ ?_ ?_
            · omega
            · omega
            · refine weak_cov ⟨?_, ?_, ?_, trivial⟩ ⟨?_, trivial⟩ <;> (first | rfl | exact cov_int (by omega) | exact cov_row (by rw [vbs_step (by omega), vb4 (by omega) (by omega) (by omega)]; try (first | rfl | (simp [flatDV, dby, List.flatMap]; done) | (simp [flatDV, dby, List.flatMap]; rfl))))
    ·
      try simp only [Bool.and_eq_true, Bool.or_eq_true, Bool.not_eq_true', Bool.and_eq_false_iff, Bool.or_eq_false_iff, Bool.not_eq_false', decide_eq_true_eq, decide_eq_false_iff_not, Int.not_lt, Int.not_le] at hc0
      refine avc_exit ?_
      refine avc_sq2 ?_
      refine avc_sq ?_
      first | refine sq_a (ag_plain rfl (a_move_d (lq rfl) rfl)) ?_ | refine sq_a (ag_plain rfl (a_move_row (lq rfl) rfl)) ?_ | refine sq_a (ag_plain rfl (a_move_ptr (lq rfl) rfl)) ?_ | refine sq_a (ag_plain rfl (a_move_ip (lq rfl) rfl)) ?_ | refine sq_a (ag_plain rfl (a_move_tup (lq rfl) rfl)) ?_
      rw [take_all (by omega)]
      first | refine sq_a (ag_plain rfl (a_conv_str_d (lq rfl) Try.underlying42 Try.underlying9 Try.underlying5 rfl)) ?_ | refine sq_a (ag_plain rfl (a_conv_str_row (lq rfl) Try.underlying42 Try.underlying9 Try.underlying5 rfl rfl)) ?_
      first | refine sq_a (ag_plain rfl (a_assign_d (lq rfl) rfl)) ?_ | refine sq_a (ag_plain rfl (a_assign_row (lq rfl) rfl)) ?_ | refine sq_a (ag_plain rfl (a_assign_ptr (lq rfl) rfl)) ?_
      refine sq_nil ?_
      refine avc_ret ?_
      exact ret_d rfl rfl

theorem refPlain_c (l : List Int) (hl : l.length < 2147483648) : Contract Try.prog 15 [.ints l] [.ints (plain l)] := by
  refine contract_of Try.func15 (by kernel_rfl) rfl (lq rfl) (lq rfl) fun w0 I0 => ?_
  refine avc_sq2 ?_
  refine avc_sq ?_
  refine sq_a (ag_plain rfl (a_assign_d (lq rfl) rfl)) ?_
  refine sq_nil ?_
  refine avc_sq2 ?_
  refine avc_sq ?_
  refine sq_a (ag_plain rfl (a_assign_d (lq rfl) rfl)) ?_
  refine sq_nil ?_
  refine avc_sq2 ?_
  refine avc_sq2 ?_
  refine avc_sq ?_
  refine sq_a (ag_plain rfl (a_assign_d (lq rfl) rfl)) ?_
  refine sq_nil ?_
  refine avc_block ?_
  refine avc_weak (weak_nil (t := 3) 99 3 1 (by decide) (lq rfl) rfl rfl) ?_
  refine avc_loop (ι := Nat) (fun k => ⟨[(0, .d (.ints l)), (3, .row 99), (4, .d (di k))], [(99, .row 3 1 false ((plain (l.take k)).map di))]⟩) (fun k => k ≤ l.length) (fun k => l.length - k) 0 ?_ ?_ ?_
  · omega
  · refine weak_cov ⟨?_, ?_, ?_, trivial⟩ ⟨?_, trivial⟩ <;> (first | rfl | exact cov_int (by omega) | exact cov_row (by simp [di, flatDV]))
  · rintro k hp
    have hpl : (plain (l.take k)).length ≤ l.length := by simp [plain]; omega
    refine avc_sq2 ?_
    refine avc_sq2 ?_
    refine avc_sq ?_
    first | refine sq_a (ag_plain rfl (a_move_d (lq rfl) rfl)) ?_ | refine sq_a (ag_plain rfl (a_move_row (lq rfl) rfl)) ?_ | refine sq_a (ag_plain rfl (a_move_ptr (lq rfl) rfl)) ?_ | refine sq_a (ag_plain rfl (a_move_ip (lq rfl) rfl)) ?_ | refine sq_a (ag_plain rfl (a_move_tup (lq rfl) rfl)) ?_
    first | refine sq_a (ag_plain rfl (a_move_d (lq rfl) rfl)) ?_ | refine sq_a (ag_plain rfl (a_move_row (lq rfl) rfl)) ?_ | refine sq_a (ag_plain rfl (a_move_ptr (lq rfl) rfl)) ?_ | refine sq_a (ag_plain rfl (a_move_ip (lq rfl) rfl)) ?_ | refine sq_a (ag_plain rfl (a_move_tup (lq rfl) rfl)) ?_
    first | refine sq_a (ag_plain rfl (a_len_d (lq rfl) S22 rfl len_map)) ?_ | refine sq_a (ag_plain rfl (a_len_row (lq rfl) S22 rfl rfl len_map)) ?_ | refine sq_a (ag_plain rfl (a_len_nil (lq rfl) Try.underlying22 rfl)) ?_
    refine sq_a (ag_plain rfl (a_lss (lq rfl) rfl rfl)) ?_
    refine sq_nil ?_
    refine avc_if rfl ⟨fun hc0 => ?_, fun hc0 => ?_⟩
    ·
      try simp only [Bool.and_eq_true, Bool.or_eq_true, Bool.not_eq_true', Bool.and_eq_false_iff, Bool.or_eq_false_iff, Bool.not_eq_false', decide_eq_true_eq, decide_eq_false_iff_not, Int.not_lt, Int.not_le] at hc0
      refine avc_skip ?_
      refine avc_sq2 ?_
      refine avc_block ?_
      refine avc_sq2 ?_
      refine avc_sq ?_
      first | refine sq_a (ag_plain rfl (a_move_d (lq rfl) rfl)) ?_ | refine sq_a (ag_plain rfl (a_move_row (lq rfl) rfl)) ?_ | refine sq_a (ag_plain rfl (a_move_ptr (lq rfl) rfl)) ?_ | refine sq_a (ag_plain rfl (a_move_ip (lq rfl) rfl)) ?_ | refine sq_a (ag_plain rfl (a_move_tup (lq rfl) rfl)) ?_
      first | refine sq_a (ag_plain rfl (a_move_d (lq rfl) rfl)) ?_ | refine sq_a (ag_plain rfl (a_move_row (lq rfl) rfl)) ?_ | refine sq_a (ag_plain rfl (a_move_ptr (lq rfl) rfl)) ?_ | refine sq_a (ag_plain rfl (a_move_ip (lq rfl) rfl)) ?_ | refine sq_a (ag_plain rfl (a_move_tup (lq rfl) rfl)) ?_
      first | refine sq_a (ag_plain rfl (a_index_d (lq rfl) S22 rfl rfl rfl len_map (by omega))) ?_ | refine sq_a (ag_plain rfl (a_index_row (lq rfl) S22 rfl rfl rfl rfl len_map (by omega))) ?_ | refine sq_a (ag_plain rfl (a_index_d (lq rfl) S22 rfl rfl (ix_add1 _) len_map (by omega))) ?_ | refine sq_a (ag_plain rfl (a_index_row (lq rfl) S22 rfl rfl rfl (ix_add1 _) len_map (by omega))) ?_ | refine sq_a (ag_plain rfl (a_index_d (lq rfl) S22 rfl rfl (ix_nat (by omega)) len_map (by omega))) ?_ | refine sq_a (ag_plain rfl (a_index_row (lq rfl) S22 rfl rfl rfl (ix_nat (by omega)) len_map (by omega))) ?_
      first | refine sq_a (ag_plain rfl (a_load_box (lq rfl) O3 rfl rfl rfl)) ?_ | refine sq_a (ag_plain rfl (a_load_pt (lq rfl) O3 rfl rfl)) ?_ | refine sq_a (ag_plain rfl (a_load_ip (lq rfl) O3 rfl (get_map 0 (by omega)))) ?_ | refine sq_a (ag_plain rfl (a_load_row (lq rfl) O3 rfl rfl (get_map 0 (by omega)))) ?_
      refine sq_a (ag_plain rfl (a_lss (lq rfl) rfl rfl)) ?_
      first | refine sq_a (ag_plain rfl (a_move_d (lq rfl) rfl)) ?_ | refine sq_a (ag_plain rfl (a_move_row (lq rfl) rfl)) ?_ | refine sq_a (ag_plain rfl (a_move_ptr (lq rfl) rfl)) ?_ | refine sq_a (ag_plain rfl (a_move_ip (lq rfl) rfl)) ?_ | refine sq_a (ag_plain rfl (a_move_tup (lq rfl) rfl)) ?_
      first | (apply sq_g rfl rfl rfl (lq rfl) (lq rfl) rfl; focus (intro hb; simp only [gd, Bool.not_eq_true'] at hb; (try rw [hb]); (try simp only [decide_eq_true_eq, decide_eq_false_iff_not, Bool.and_eq_true, Bool.or_eq_false_iff, Bool.not_eq_true'] at hb); first | exact a_move_d (lq rfl) rfl | exact a_move_row (lq rfl) rfl | exact a_move_ptr (lq rfl) rfl | exact a_move_ip (lq rfl) rfl | exact a_move_tup (lq rfl) rfl)) | (apply sq_g2 rfl rfl rfl (lq rfl) (lq rfl) rfl; focus (intro hb; simp only [gd, Bool.and_eq_true, Bool.not_eq_true'] at hb; (try rw [hb.1]); (try rw [hb.2]); (try simp only [decide_eq_true_eq, decide_eq_false_iff_not, Bool.and_eq_true, Bool.or_eq_false_iff, Bool.not_eq_true'] at hb); first | exact a_move_d (lq rfl) rfl | exact a_move_row (lq rfl) rfl | exact a_move_ptr (lq rfl) rfl | exact a_move_ip (lq rfl) rfl | exact a_move_tup (lq rfl) rfl))
      first | (apply sq_g rfl rfl rfl (lq rfl) (lq rfl) rfl; focus (intro hb; simp only [gd, Bool.not_eq_true'] at hb; (try rw [hb]); (try simp only [decide_eq_true_eq, decide_eq_false_iff_not, Bool.and_eq_true, Bool.or_eq_false_iff, Bool.not_eq_true'] at hb); first | exact a_move_d (lq rfl) rfl | exact a_move_row (lq rfl) rfl | exact a_move_ptr (lq rfl) rfl | exact a_move_ip (lq rfl) rfl | exact a_move_tup (lq rfl) rfl)) | (apply sq_g2 rfl rfl rfl (lq rfl) (lq rfl) rfl; focus (intro hb; simp only [gd, Bool.and_eq_true, Bool.not_eq_true'] at hb; (try rw [hb.1]); (try rw [hb.2]); (try simp only [decide_eq_true_eq, decide_eq_false_iff_not, Bool.and_eq_true, Bool.or_eq_false_iff, Bool.not_eq_true'] at hb); first | exact a_move_d (lq rfl) rfl | exact a_move_row (lq rfl) rfl | exact a_move_ptr (lq rfl) rfl | exact a_move_ip (lq rfl) rfl | exact a_move_tup (lq rfl) rfl))
      first | (apply sq_g rfl rfl rfl (lq rfl) (lq rfl) rfl; focus (intro hb; simp only [gd, Bool.not_eq_true'] at hb; (try rw [hb]); (try simp only [decide_eq_true_eq, decide_eq_false_iff_not, Bool.and_eq_true, Bool.or_eq_false_iff, Bool.not_eq_true'] at hb); first | exact a_index_d (lq rfl) S22 rfl rfl rfl len_map (by omega) | exact a_index_row (lq rfl) S22 rfl rfl rfl rfl len_map (by omega) | exact a_index_d (lq rfl) S22 rfl rfl (ix_add1 _) len_map (by omega) | exact a_index_row (lq rfl) S22 rfl rfl rfl (ix_add1 _) len_map (by omega) | exact a_index_d (lq rfl) S22 rfl rfl (ix_nat (by omega)) len_map (by omega) | exact a_index_row (lq rfl) S22 rfl rfl rfl (ix_nat (by omega)) len_map (by omega))) | (apply sq_g2 rfl rfl rfl (lq rfl) (lq rfl) rfl; focus (intro hb; simp only [gd, Bool.and_eq_true, Bool.not_eq_true'] at hb; (try rw [hb.1]); (try rw [hb.2]); (try simp only [decide_eq_true_eq, decide_eq_false_iff_not, Bool.and_eq_true, Bool.or_eq_false_iff, Bool.not_eq_true'] at hb); first | exact a_index_d (lq rfl) S22 rfl rfl rfl len_map (by omega) | exact a_index_row (lq rfl) S22 rfl rfl rfl rfl len_map (by omega) | exact a_index_d (lq rfl) S22 rfl rfl (ix_add1 _) len_map (by omega) | exact a_index_row (lq rfl) S22 rfl rfl rfl (ix_add1 _) len_map (by omega) | exact a_index_d (lq rfl) S22 rfl rfl (ix_nat (by omega)) len_map (by omega) | exact a_index_row (lq rfl) S22 rfl rfl rfl (ix_nat (by omega)) len_map (by omega)))
      first | (apply sq_g rfl rfl rfl (lq rfl) (lq rfl) rfl; focus (intro hb; simp only [gd, Bool.not_eq_true'] at hb; (try rw [hb]); (try simp only [decide_eq_true_eq, decide_eq_false_iff_not, Bool.and_eq_true, Bool.or_eq_false_iff, Bool.not_eq_true'] at hb); first | exact a_load_box (lq rfl) O3 rfl rfl rfl | exact a_load_pt (lq rfl) O3 rfl rfl | exact a_load_ip (lq rfl) O3 rfl (get_map 0 (by omega)) | exact a_load_row (lq rfl) O3 rfl rfl (get_map 0 (by omega)))) | (apply sq_g2 rfl rfl rfl (lq rfl) (lq rfl) rfl; focus (intro hb; simp only [gd, Bool.and_eq_true, Bool.not_eq_true'] at hb; (try rw [hb.1]); (try rw [hb.2]); (try simp only [decide_eq_true_eq, decide_eq_false_iff_not, Bool.and_eq_true, Bool.or_eq_false_iff, Bool.not_eq_true'] at hb); first | exact a_load_box (lq rfl) O3 rfl rfl rfl | exact a_load_pt (lq rfl) O3 rfl rfl | exact a_load_ip (lq rfl) O3 rfl (get_map 0 (by omega)) | exact a_load_row (lq rfl) O3 rfl rfl (get_map 0 (by omega))))
      first | (apply sq_g rfl rfl rfl (lq rfl) (lq rfl) rfl; focus (intro hb; simp only [gd, Bool.not_eq_true'] at hb; (try rw [hb]); (try simp only [decide_eq_true_eq, decide_eq_false_iff_not, Bool.and_eq_true, Bool.or_eq_false_iff, Bool.not_eq_true'] at hb); exact a_gtr (lq rfl) rfl rfl)) | (apply sq_g2 rfl rfl rfl (lq rfl) (lq rfl) rfl; focus (intro hb; simp only [gd, Bool.and_eq_true, Bool.not_eq_true'] at hb; (try rw [hb.1]); (try rw [hb.2]); (try simp only [decide_eq_true_eq, decide_eq_false_iff_not, Bool.and_eq_true, Bool.or_eq_false_iff, Bool.not_eq_true'] at hb); exact a_gtr (lq rfl) rfl rfl))
      first | refine sq_a (ag_plain rfl (a_pick_or (lq rfl) rfl rfl)) ?_ | refine sq_a (ag_plain rfl (a_pick_td (lq rfl) rfl rfl)) ?_ | refine sq_a (ag_plain rfl (a_pick_fd (lq rfl) rfl rfl)) ?_
      refine sq_nil ?_
      refine avc_if rfl ⟨fun hc1 => ?_, fun hc1 => ?_⟩
      ·
        try simp only [Bool.and_eq_true, Bool.or_eq_true, Bool.not_eq_true', Bool.and_eq_false_iff, Bool.or_eq_false_iff, Bool.not_eq_false', decide_eq_true_eq, decide_eq_false_iff_not, Int.not_lt, Int.not_le] at hc1
        refine avc_sq ?_
        first | refine sq_a (ag_plain rfl (a_move_d (lq rfl) rfl)) ?_ | refine sq_a (ag_plain rfl (a_move_row (lq rfl) rfl)) ?_ | refine sq_a (ag_plain rfl (a_move_ptr (lq rfl) rfl)) ?_ | refine sq_a (ag_plain rfl (a_move_ip (lq rfl) rfl)) ?_ | refine sq_a (ag_plain rfl (a_move_tup (lq rfl) rfl)) ?_
        refine sq_a (ag_plain rfl (a_lit (lq rfl) S22 rfl rfl rfl rfl (by decide) rfl)) ?_
        first | refine sq_b rfl (s_append_d (lq rfl) S22 rfl rfl rfl len_map (rfl : _ = 1 * 1) (by decide) (by omega) rfl rfl) ?_ | refine sq_b rfl (s_append_row (lq rfl) S22 rfl rfl rfl rfl len_map (rfl : _ = 1 * 1) (by decide) (by omega) rfl rfl) ?_
        first | refine sq_a (ag_plain rfl (a_assign_d (lq rfl) rfl)) ?_ | refine sq_a (ag_plain rfl (a_assign_row (lq rfl) rfl)) ?_ | refine sq_a (ag_plain rfl (a_assign_ptr (lq rfl) rfl)) ?_
        refine sq_nil ?_
        refine avc_sq ?_
        first | refine sq_a (ag_plain rfl (a_move_d (lq rfl) rfl)) ?_ | refine sq_a (ag_plain rfl (a_move_row (lq rfl) rfl)) ?_ | refine sq_a (ag_plain rfl (a_move_ptr (lq rfl) rfl)) ?_ | refine sq_a (ag_plain rfl (a_move_ip (lq rfl) rfl)) ?_ | refine sq_a (ag_plain rfl (a_move_tup (lq rfl) rfl)) ?_
        refine sq_a (ag_plain rfl (a_add (lq rfl) rfl rfl (w64 (by omega) (by omega)))) ?_
        first | refine sq_a (ag_plain rfl (a_assign_d (lq rfl) rfl)) ?_ | refine sq_a (ag_plain rfl (a_assign_row (lq rfl) rfl)) ?_ | refine sq_a (ag_plain rfl (a_assign_ptr (lq rfl) rfl)) ?_
        refine sq_nil ?_
        first | refine loop_end  (j := k + 1) ?_ ?_ ?_ | refine loop_end  (K := fun _ _ => True) (j := k + 1) ?_ ?_ ?_
        · omega
        · omega
        · refine weak_cov ⟨?_, ?_, ?_, trivial⟩ ⟨?_, trivial⟩ <;> (first | rfl | exact cov_int (by omega) | exact cov_row (by rw [plain_step (by omega), cl, if_neg (by omega)]; simp; rfl))
      ·
        try simp only [Bool.and_eq_true, Bool.or_eq_true, Bool.not_eq_true', Bool.and_eq_false_iff, Bool.or_eq_false_iff, Bool.not_eq_false', decide_eq_true_eq, decide_eq_false_iff_not, Int.not_lt, Int.not_le] at hc1
        refine avc_sq ?_
        first | refine sq_a (ag_plain rfl (a_move_d (lq rfl) rfl)) ?_ | refine sq_a (ag_plain rfl (a_move_row (lq rfl) rfl)) ?_ | refine sq_a (ag_plain rfl (a_move_ptr (lq rfl) rfl)) ?_ | refine sq_a (ag_plain rfl (a_move_ip (lq rfl) rfl)) ?_ | refine sq_a (ag_plain rfl (a_move_tup (lq rfl) rfl)) ?_
        first | refine sq_a (ag_plain rfl (a_move_d (lq rfl) rfl)) ?_ | refine sq_a (ag_plain rfl (a_move_row (lq rfl) rfl)) ?_ | refine sq_a (ag_plain rfl (a_move_ptr (lq rfl) rfl)) ?_ | refine sq_a (ag_plain rfl (a_move_ip (lq rfl) rfl)) ?_ | refine sq_a (ag_plain rfl (a_move_tup (lq rfl) rfl)) ?_
        first | refine sq_a (ag_plain rfl (a_move_d (lq rfl) rfl)) ?_ | refine sq_a (ag_plain rfl (a_move_row (lq rfl) rfl)) ?_ | refine sq_a (ag_plain rfl (a_move_ptr (lq rfl) rfl)) ?_ | refine sq_a (ag_plain rfl (a_move_ip (lq rfl) rfl)) ?_ | refine sq_a (ag_plain rfl (a_move_tup (lq rfl) rfl)) ?_
        first | refine sq_a (ag_plain rfl (a_index_d (lq rfl) S22 rfl rfl rfl len_map (by omega))) ?_ | refine sq_a (ag_plain rfl (a_index_row (lq rfl) S22 rfl rfl rfl rfl len_map (by omega))) ?_ | refine sq_a (ag_plain rfl (a_index_d (lq rfl) S22 rfl rfl (ix_add1 _) len_map (by omega))) ?_ | refine sq_a (ag_plain rfl (a_index_row (lq rfl) S22 rfl rfl rfl (ix_add1 _) len_map (by omega))) ?_ | refine sq_a (ag_plain rfl (a_index_d (lq rfl) S22 rfl rfl (ix_nat (by omega)) len_map (by omega))) ?_ | refine sq_a (ag_plain rfl (a_index_row (lq rfl) S22 rfl rfl rfl (ix_nat (by omega)) len_map (by omega))) ?_
        first | refine sq_a (ag_plain rfl (a_load_box (lq rfl) O3 rfl rfl rfl)) ?_ | refine sq_a (ag_plain rfl (a_load_pt (lq rfl) O3 rfl rfl)) ?_ | refine sq_a (ag_plain rfl (a_load_ip (lq rfl) O3 rfl (get_map 0 (by omega)))) ?_ | refine sq_a (ag_plain rfl (a_load_row (lq rfl) O3 rfl rfl (get_map 0 (by omega)))) ?_
        refine sq_a (ag_plain rfl (a_lit (lq rfl) S22 rfl rfl rfl rfl (by decide) rfl)) ?_
        first | refine sq_b rfl (s_append_d (lq rfl) S22 rfl rfl rfl len_map (rfl : _ = 1 * 1) (by decide) (by omega) rfl rfl) ?_ | refine sq_b rfl (s_append_row (lq rfl) S22 rfl rfl rfl rfl len_map (rfl : _ = 1 * 1) (by decide) (by omega) rfl rfl) ?_
        first | refine sq_a (ag_plain rfl (a_assign_d (lq rfl) rfl)) ?_ | refine sq_a (ag_plain rfl (a_assign_row (lq rfl) rfl)) ?_ | refine sq_a (ag_plain rfl (a_assign_ptr (lq rfl) rfl)) ?_
        refine sq_nil ?_
        refine avc_sq ?_
        first | refine sq_a (ag_plain rfl (a_move_d (lq rfl) rfl)) ?_ | refine sq_a (ag_plain rfl (a_move_row (lq rfl) rfl)) ?_ | refine sq_a (ag_plain rfl (a_move_ptr (lq rfl) rfl)) ?_ | refine sq_a (ag_plain rfl (a_move_ip (lq rfl) rfl)) ?_ | refine sq_a (ag_plain rfl (a_move_tup (lq rfl) rfl)) ?_
        refine sq_a (ag_plain rfl (a_add (lq rfl) rfl rfl (w64 (by omega) (by omega)))) ?_
        first | refine sq_a (ag_plain rfl (a_assign_d (lq rfl) rfl)) ?_ | refine sq_a (ag_plain rfl (a_assign_row (lq rfl) rfl)) ?_ | refine sq_a (ag_plain rfl (a_assign_ptr (lq rfl) rfl)) ?_
        refine sq_nil ?_
        first | refine loop_end  (j := k + 1) ?_ ?_ ?_ | refine loop_end  (K := fun _ _ => True) (j := k + 1) ?_ ?_ ?_
        · omega
        · omega
        · refine weak_cov ⟨?_, ?_, ?_, trivial⟩ ⟨?_, trivial⟩ <;> (first | rfl | exact cov_int (by omega) | exact cov_row (by rw [plain_step (by omega), cl, if_pos (by omega)]; simp; rfl))
    ·
      try simp only [Bool.and_eq_true, Bool.or_eq_true, Bool.not_eq_true', Bool.and_eq_false_iff, Bool.or_eq_false_iff, Bool.not_eq_false', decide_eq_true_eq, decide_eq_false_iff_not, Int.not_lt, Int.not_le] at hc0
      refine avc_exit ?_
      refine avc_sq2 ?_
      refine avc_sq ?_
      first | refine sq_a (ag_plain rfl (a_move_d (lq rfl) rfl)) ?_ | refine sq_a (ag_plain rfl (a_move_row (lq rfl) rfl)) ?_ | refine sq_a (ag_plain rfl (a_move_ptr (lq rfl) rfl)) ?_ | refine sq_a (ag_plain rfl (a_move_ip (lq rfl) rfl)) ?_ | refine sq_a (ag_plain rfl (a_move_tup (lq rfl) rfl)) ?_
      first | refine sq_a (ag_plain rfl (a_assign_d (lq rfl) rfl)) ?_ | refine sq_a (ag_plain rfl (a_assign_row (lq rfl) rfl)) ?_ | refine sq_a (ag_plain rfl (a_assign_ptr (lq rfl) rfl)) ?_
      refine sq_nil ?_
      refine avc_ret ?_
      exact ret_row rfl rfl (by rw [take_all (by omega)])

theorem unpack_c (l : List Int) (c : Int) (hl : l.length < 134217728) : Contract Try.prog 14 [.ints l, di c] [.ints (unpR c l).1, di (unpR c l).2] := by
  have hm := common_in c
  refine contract_of Try.func14 (by kernel_rfl) rfl (lq rfl) (lq rfl) fun w0 I0 => ?_
  refine avc_sq2 ?_
  refine avc_sq ?_
  refine sq_a (ag_plain rfl (a_assign_d (lq rfl) rfl)) ?_
  refine sq_a (ag_plain rfl (a_assign_d (lq rfl) rfl)) ?_
  refine sq_nil ?_
  refine avc_sq2 ?_
  refine avc_sq ?_
  first | refine sq_a (ag_plain rfl (a_move_d (lq rfl) rfl)) ?_ | refine sq_a (ag_plain rfl (a_move_row (lq rfl) rfl)) ?_ | refine sq_a (ag_plain rfl (a_move_ptr (lq rfl) rfl)) ?_ | refine sq_a (ag_plain rfl (a_move_ip (lq rfl) rfl)) ?_ | refine sq_a (ag_plain rfl (a_move_tup (lq rfl) rfl)) ?_
  refine sq_a (ag_plain rfl (a_call (lq rfl) rfl (common_c _))) ?_
  first | refine sq_a (ag_plain rfl (a_assign_d (lq rfl) rfl)) ?_ | refine sq_a (ag_plain rfl (a_assign_row (lq rfl) rfl)) ?_ | refine sq_a (ag_plain rfl (a_assign_ptr (lq rfl) rfl)) ?_
  refine sq_nil ?_
  refine avc_sq2 ?_
  refine avc_sq ?_
  refine sq_a (ag_plain rfl (a_assign_d (lq rfl) rfl)) ?_
  refine sq_nil ?_
  refine avc_sq2 ?_
  refine avc_sq2 ?_
  refine avc_sq ?_
  first | refine sq_a (ag_plain rfl (a_move_d (lq rfl) rfl)) ?_ | refine sq_a (ag_plain rfl (a_move_row (lq rfl) rfl)) ?_ | refine sq_a (ag_plain rfl (a_move_ptr (lq rfl) rfl)) ?_ | refine sq_a (ag_plain rfl (a_move_ip (lq rfl) rfl)) ?_ | refine sq_a (ag_plain rfl (a_move_tup (lq rfl) rfl)) ?_
  first | refine sq_a (ag_plain rfl (a_len_d (lq rfl) S22 rfl len_rep)) ?_ | refine sq_a (ag_plain rfl (a_len_d (lq rfl) S22 rfl len_map)) ?_ | refine sq_a (ag_plain rfl (a_len_row (lq rfl) S22 rfl rfl len_rep)) ?_ | refine sq_a (ag_plain rfl (a_len_row (lq rfl) S22 rfl rfl len_map)) ?_ | refine sq_a (ag_plain rfl (a_len_nil (lq rfl) Try.underlying22 rfl)) ?_
  refine sq_a (ag_plain rfl (a_move_d (lq rfl) rfl)) ?_
  refine sq_nil ?_
  refine avc_block ?_
  refine avc_weak (weak_nil (t := 7) 99 3 1 (by decide) (lq rfl) rfl rfl) ?_
  refine avc_loop (ι := Nat) (fun k => ⟨[(0, .d (.ints l)), (6, .d (di (common c))), (7, .row 99), (15, .d (.ints l)), (16, .d (di l.length)), (17, .d (di k))], [(99, .row 3 1 false ((unpV (common c) (l.take k)).map di))]⟩) (fun k => k ≤ l.length ∧ (l.take k).all exOk = true) (fun k => l.length - k) 0 ?_ ?_ ?_
  · exact ⟨by omega, rfl⟩
  · refine weak_cov ⟨?_, ?_, ?_, ?_, ?_, ?_, trivial⟩ ⟨?_, trivial⟩ <;> (first | rfl | exact cov_int (by omega) | exact cov_row (by simp [di, flatDV]))
  · rintro k hp
    obtain ⟨hp, hall⟩ := hp
    have hul := unpV_le (common c) (l.take k)
    rw [List.length_take] at hul
    have hex := exN_in (x := l.getD k 0) (m := common c)
    refine avc_sq2 ?_
    refine avc_sq ?_
    refine sq_a (ag_plain rfl (a_lss (lq rfl) rfl rfl)) ?_
    refine sq_nil ?_
    refine avc_sq2 ?_
    refine avc_if rfl ⟨fun hc0 => ?_, fun hc0 => ?_⟩
    ·
      try simp only [Bool.and_eq_true, Bool.or_eq_true, Bool.not_eq_true', Bool.and_eq_false_iff, Bool.or_eq_false_iff, Bool.not_eq_false', decide_eq_true_eq, decide_eq_false_iff_not, Int.not_lt, Int.not_le] at hc0
      refine avc_skip ?_
      refine avc_sq2 ?_
      refine avc_block ?_
      refine avc_sq2 ?_
      refine avc_sq ?_
      first | refine sq_a (ag_plain rfl (a_index_d (lq rfl) S22 rfl rfl rfl len_rep (by omega))) ?_ | refine sq_a (ag_plain rfl (a_index_d (lq rfl) S22 rfl rfl rfl len_map (by omega))) ?_ | refine sq_a (ag_plain rfl (a_index_row (lq rfl) S22 rfl rfl rfl rfl len_rep (by omega))) ?_ | refine sq_a (ag_plain rfl (a_index_row (lq rfl) S22 rfl rfl rfl rfl len_map (by omega))) ?_ | refine sq_a (ag_plain rfl (a_index_d (lq rfl) S22 rfl rfl (ix_add1 _) len_rep (by omega))) ?_ | refine sq_a (ag_plain rfl (a_index_d (lq rfl) S22 rfl rfl (ix_add1 _) len_map (by omega))) ?_ | refine sq_a (ag_plain rfl (a_index_row (lq rfl) S22 rfl rfl rfl (ix_add1 _) len_rep (by omega))) ?_ | refine sq_a (ag_plain rfl (a_index_row (lq rfl) S22 rfl rfl rfl (ix_add1 _) len_map (by omega))) ?_ | refine sq_a (ag_plain rfl (a_index_d (lq rfl) S22 rfl rfl (ix_nat (by omega)) len_rep (by omega))) ?_ | refine sq_a (ag_plain rfl (a_index_d (lq rfl) S22 rfl rfl (ix_nat (by omega)) len_map (by omega))) ?_ | refine sq_a (ag_plain rfl (a_index_row (lq rfl) S22 rfl rfl rfl (ix_nat (by omega)) len_rep (by omega))) ?_ | refine sq_a (ag_plain rfl (a_index_row (lq rfl) S22 rfl rfl rfl (ix_nat (by omega)) len_map (by omega))) ?_
      first | refine sq_a (ag_plain rfl (a_load_box (lq rfl) O3 rfl rfl rfl)) ?_ | refine sq_a (ag_plain rfl (a_load_pt (lq rfl) O3 rfl rfl)) ?_ | refine sq_a (ag_plain rfl (a_load_ip (lq rfl) O3 rfl (get_map 0 (by omega)))) ?_ | refine sq_a (ag_plain rfl (a_load_row (lq rfl) O3 rfl rfl (get_map 0 (by omega)))) ?_
      first | refine sq_a (ag_plain rfl (a_assign_d (lq rfl) rfl)) ?_ | refine sq_a (ag_plain rfl (a_assign_row (lq rfl) rfl)) ?_ | refine sq_a (ag_plain rfl (a_assign_ptr (lq rfl) rfl)) ?_
      refine sq_nil ?_
      refine avc_sq2 ?_
      refine avc_sq ?_
      first | refine sq_a (ag_plain rfl (a_move_d (lq rfl) rfl)) ?_ | refine sq_a (ag_plain rfl (a_move_row (lq rfl) rfl)) ?_ | refine sq_a (ag_plain rfl (a_move_ptr (lq rfl) rfl)) ?_ | refine sq_a (ag_plain rfl (a_move_ip (lq rfl) rfl)) ?_ | refine sq_a (ag_plain rfl (a_move_tup (lq rfl) rfl)) ?_
      first | refine sq_a (ag_plain rfl (a_move_d (lq rfl) rfl)) ?_ | refine sq_a (ag_plain rfl (a_move_row (lq rfl) rfl)) ?_ | refine sq_a (ag_plain rfl (a_move_ptr (lq rfl) rfl)) ?_ | refine sq_a (ag_plain rfl (a_move_ip (lq rfl) rfl)) ?_ | refine sq_a (ag_plain rfl (a_move_tup (lq rfl) rfl)) ?_
      refine sq_a (ag_plain rfl (a_call (lq rfl) rfl (expand_c _ _ (by omega) (by omega)))) ?_
      first | refine sq_a (ag_plain rfl (a_move_d (lq rfl) rfl)) ?_ | refine sq_a (ag_plain rfl (a_move_row (lq rfl) rfl)) ?_ | refine sq_a (ag_plain rfl (a_move_ptr (lq rfl) rfl)) ?_ | refine sq_a (ag_plain rfl (a_move_ip (lq rfl) rfl)) ?_ | refine sq_a (ag_plain rfl (a_move_tup (lq rfl) rfl)) ?_
      refine sq_a (ag_plain rfl (a_extract (lq rfl) rfl rfl)) ?_
      refine sq_a (ag_plain rfl (a_extract (lq rfl) rfl rfl)) ?_
      refine sq_a (ag_plain rfl (a_extract (lq rfl) rfl rfl)) ?_
      first | refine sq_a (ag_plain rfl (a_assign_d (lq rfl) rfl)) ?_ | refine sq_a (ag_plain rfl (a_assign_row (lq rfl) rfl)) ?_ | refine sq_a (ag_plain rfl (a_assign_ptr (lq rfl) rfl)) ?_
      first | refine sq_a (ag_plain rfl (a_assign_d (lq rfl) rfl)) ?_ | refine sq_a (ag_plain rfl (a_assign_row (lq rfl) rfl)) ?_ | refine sq_a (ag_plain rfl (a_assign_ptr (lq rfl) rfl)) ?_
      first | refine sq_a (ag_plain rfl (a_assign_d (lq rfl) rfl)) ?_ | refine sq_a (ag_plain rfl (a_assign_row (lq rfl) rfl)) ?_ | refine sq_a (ag_plain rfl (a_assign_ptr (lq rfl) rfl)) ?_
      refine sq_nil ?_
      refine avc_sq2 ?_
      refine avc_sq2 ?_
      refine avc_sq ?_
      first | refine sq_a (ag_plain rfl (a_move_d (lq rfl) rfl)) ?_ | refine sq_a (ag_plain rfl (a_move_row (lq rfl) rfl)) ?_ | refine sq_a (ag_plain rfl (a_move_ptr (lq rfl) rfl)) ?_ | refine sq_a (ag_plain rfl (a_move_ip (lq rfl) rfl)) ?_ | refine sq_a (ag_plain rfl (a_move_tup (lq rfl) rfl)) ?_
      refine sq_a (ag_plain rfl (a_not (lq rfl) rfl)) ?_
      refine sq_nil ?_
      refine avc_if rfl ⟨fun hc1 => ?_, fun hc1 => ?_⟩
      ·
        try simp only [Bool.and_eq_true, Bool.or_eq_true, Bool.not_eq_true', Bool.and_eq_false_iff, Bool.or_eq_false_iff, Bool.not_eq_false', decide_eq_true_eq, decide_eq_false_iff_not, Int.not_lt, Int.not_le] at hc1
        refine avc_sq2 ?_
        refine avc_sq ?_
        refine sq_a (ag_plain rfl (a_assign_d (lq rfl) rfl)) ?_
        refine sq_a (ag_plain rfl (a_assign_d (lq rfl) rfl)) ?_
        refine sq_nil ?_
        refine avc_weak (weak_nil_d (t := 4) 1 (lq rfl) rfl) ?_
        refine avc_ret ?_
        rw [unp_bad1 (by omega) hc1]
        exact ret_two rfl rfl
      ·
        try simp only [Bool.and_eq_true, Bool.or_eq_true, Bool.not_eq_true', Bool.and_eq_false_iff, Bool.or_eq_false_iff, Bool.not_eq_false', decide_eq_true_eq, decide_eq_false_iff_not, Int.not_lt, Int.not_le] at hc1
        refine avc_skip ?_
        refine avc_sq ?_
        first | refine sq_a (ag_plain rfl (a_move_d (lq rfl) rfl)) ?_ | refine sq_a (ag_plain rfl (a_move_row (lq rfl) rfl)) ?_ | refine sq_a (ag_plain rfl (a_move_ptr (lq rfl) rfl)) ?_ | refine sq_a (ag_plain rfl (a_move_ip (lq rfl) rfl)) ?_ | refine sq_a (ag_plain rfl (a_move_tup (lq rfl) rfl)) ?_
        first | refine sq_a (ag_plain rfl (a_move_d (lq rfl) rfl)) ?_ | refine sq_a (ag_plain rfl (a_move_row (lq rfl) rfl)) ?_ | refine sq_a (ag_plain rfl (a_move_ptr (lq rfl) rfl)) ?_ | refine sq_a (ag_plain rfl (a_move_ip (lq rfl) rfl)) ?_ | refine sq_a (ag_plain rfl (a_move_tup (lq rfl) rfl)) ?_
        refine sq_a (ag_plain rfl (a_lit (lq rfl) S22 rfl rfl rfl rfl (by decide) rfl)) ?_
        refine sq_a (ag_plain rfl ((a_move_d (lq rfl) rfl).data (b := di (((exN (l.getD k 0) (common c)).toNat : Nat) : Int)) (congrArg di (ix_nat exN_in.1)))) ?_
        refine sq_a (ag_plain rfl (a_call (lq rfl) rfl (repeat_c _ _ (by omega)))) ?_
        first | refine sq_b rfl (s_append_d (lq rfl) S22 rfl rfl rfl len_rep len_rep (by decide) (by omega) rfl rfl) ?_ | refine sq_b rfl (s_append_row (lq rfl) S22 rfl rfl rfl rfl len_rep len_rep (by decide) (by omega) rfl rfl) ?_ | refine sq_b rfl (s_append_d (lq rfl) S22 rfl rfl rfl len_rep len_map (by decide) (by omega) rfl rfl) ?_ | refine sq_b rfl (s_append_row (lq rfl) S22 rfl rfl rfl rfl len_rep len_map (by decide) (by omega) rfl rfl) ?_ | refine sq_b rfl (s_append_d (lq rfl) S22 rfl rfl rfl len_rep rfl (by decide) (by omega) rfl rfl) ?_ | refine sq_b rfl (s_append_row (lq rfl) S22 rfl rfl rfl rfl len_rep rfl (by decide) (by omega) rfl rfl) ?_ | refine sq_b rfl (s_append_d (lq rfl) S22 rfl rfl rfl len_map len_rep (by decide) (by omega) rfl rfl) ?_ | refine sq_b rfl (s_append_row (lq rfl) S22 rfl rfl rfl rfl len_map len_rep (by decide) (by omega) rfl rfl) ?_ | refine sq_b rfl (s_append_d (lq rfl) S22 rfl rfl rfl len_map len_map (by decide) (by omega) rfl rfl) ?_ | refine sq_b rfl (s_append_row (lq rfl) S22 rfl rfl rfl rfl len_map len_map (by decide) (by omega) rfl rfl) ?_ | refine sq_b rfl (s_append_d (lq rfl) S22 rfl rfl rfl len_map rfl (by decide) (by omega) rfl rfl) ?_ | refine sq_b rfl (s_append_row (lq rfl) S22 rfl rfl rfl rfl len_map rfl (by decide) (by omega) rfl rfl) ?_
        first | refine sq_a (ag_plain rfl (a_assign_d (lq rfl) rfl)) ?_ | refine sq_a (ag_plain rfl (a_assign_row (lq rfl) rfl)) ?_ | refine sq_a (ag_plain rfl (a_assign_ptr (lq rfl) rfl)) ?_
        refine sq_nil ?_
        refine avc_sq ?_
        refine sq_a (ag_plain rfl (a_add (lq rfl) rfl rfl (w64 (by omega) (by omega)))) ?_
        first | refine sq_a (ag_plain rfl (a_move_d (lq rfl) rfl)) ?_ | refine sq_a (ag_plain rfl (a_move_row (lq rfl) rfl)) ?_ | refine sq_a (ag_plain rfl (a_move_ptr (lq rfl) rfl)) ?_ | refine sq_a (ag_plain rfl (a_move_ip (lq rfl) rfl)) ?_ | refine sq_a (ag_plain rfl (a_move_tup (lq rfl) rfl)) ?_
        refine sq_nil ?_
        first | refine loop_end  (j := k + 1) ?_ ?_ ?_ | refine loop_end  (K := fun _ _ => True) (j := k + 1) ?_ ?_ ?_
        · exact ⟨by omega, all_step (by omega) hall hc1⟩
        · omega
        · refine weak_cov ⟨?_, ?_, ?_, ?_, ?_, ?_, trivial⟩ ⟨?_, trivial⟩ <;> (first | rfl | exact cov_int (by omega) | exact cov_row (by rw [unpV_step (by omega), List.map_append]))
    ·
      try simp only [Bool.and_eq_true, Bool.or_eq_true, Bool.not_eq_true', Bool.and_eq_false_iff, Bool.or_eq_false_iff, Bool.not_eq_false', decide_eq_true_eq, decide_eq_false_iff_not, Int.not_lt, Int.not_le] at hc0
      refine avc_exit ?_
      refine avc_sq2 ?_
      refine avc_sq2 ?_
      refine avc_sq ?_
      rw [take_all (l := l) (by omega)] at hall ⊢
      have hul2 := unpV_le (common c) l
      first | refine sq_a (ag_plain rfl (a_move_d (lq rfl) rfl)) ?_ | refine sq_a (ag_plain rfl (a_move_row (lq rfl) rfl)) ?_ | refine sq_a (ag_plain rfl (a_move_ptr (lq rfl) rfl)) ?_ | refine sq_a (ag_plain rfl (a_move_ip (lq rfl) rfl)) ?_ | refine sq_a (ag_plain rfl (a_move_tup (lq rfl) rfl)) ?_
      first | refine sq_a (ag_plain rfl (a_move_d (lq rfl) rfl)) ?_ | refine sq_a (ag_plain rfl (a_move_row (lq rfl) rfl)) ?_ | refine sq_a (ag_plain rfl (a_move_ptr (lq rfl) rfl)) ?_ | refine sq_a (ag_plain rfl (a_move_ip (lq rfl) rfl)) ?_ | refine sq_a (ag_plain rfl (a_move_tup (lq rfl) rfl)) ?_
      refine sq_b rfl (s_call (lq rfl) rfl rfl (pack_c _ _ (by omega))) ?_
      first | refine sq_a (ag_plain rfl (a_move_d (lq rfl) rfl)) ?_ | refine sq_a (ag_plain rfl (a_move_row (lq rfl) rfl)) ?_ | refine sq_a (ag_plain rfl (a_move_ptr (lq rfl) rfl)) ?_ | refine sq_a (ag_plain rfl (a_move_ip (lq rfl) rfl)) ?_ | refine sq_a (ag_plain rfl (a_move_tup (lq rfl) rfl)) ?_
      have hpk := pk_le (common (common c)) (plain (unpV (common c) l))
      rw [show (plain (unpV (common c) l)).length = (unpV (common c) l).length by simp [plain]] at hpk
      refine sq_a (ag_plain rfl (a_call (lq rfl) rfl (cpEqual_c _ _ (by omega) (by omega)))) ?_
      refine sq_a (ag_plain rfl (a_not (lq rfl) rfl)) ?_
      refine sq_nil ?_
      refine avc_if rfl ⟨fun hc2 => ?_, fun hc2 => ?_⟩
      ·
        try simp only [Bool.and_eq_true, Bool.or_eq_true, Bool.not_eq_true', Bool.and_eq_false_iff, Bool.or_eq_false_iff, Bool.not_eq_false', decide_eq_true_eq, decide_eq_false_iff_not, Int.not_lt, Int.not_le] at hc2
        refine avc_sq2 ?_
        refine avc_sq ?_
        refine sq_a (ag_plain rfl (a_assign_d (lq rfl) rfl)) ?_
        refine sq_a (ag_plain rfl (a_assign_d (lq rfl) rfl)) ?_
        refine sq_nil ?_
        refine avc_weak (weak_nil_d (t := 4) 1 (lq rfl) rfl) ?_
        refine avc_ret ?_
        rw [unp_bad2 (by rw [common_idem] at hc2; exact hc2)]
        exact ret_two rfl rfl
      ·
        try simp only [Bool.and_eq_true, Bool.or_eq_true, Bool.not_eq_true', Bool.and_eq_false_iff, Bool.or_eq_false_iff, Bool.not_eq_false', decide_eq_true_eq, decide_eq_false_iff_not, Int.not_lt, Int.not_le] at hc2
        refine avc_skip ?_
        refine avc_sq2 ?_
        refine avc_sq ?_
        first | refine sq_a (ag_plain rfl (a_move_d (lq rfl) rfl)) ?_ | refine sq_a (ag_plain rfl (a_move_row (lq rfl) rfl)) ?_ | refine sq_a (ag_plain rfl (a_move_ptr (lq rfl) rfl)) ?_ | refine sq_a (ag_plain rfl (a_move_ip (lq rfl) rfl)) ?_ | refine sq_a (ag_plain rfl (a_move_tup (lq rfl) rfl)) ?_
        first | refine sq_a (ag_plain rfl (a_assign_d (lq rfl) rfl)) ?_ | refine sq_a (ag_plain rfl (a_assign_row (lq rfl) rfl)) ?_ | refine sq_a (ag_plain rfl (a_assign_ptr (lq rfl) rfl)) ?_
        refine sq_a (ag_plain rfl (a_assign_d (lq rfl) rfl)) ?_
        refine sq_nil ?_
        refine avc_ret ?_
        rw [unp_good hall (by rw [common_idem] at hc2; exact hc2)]
        exact ret_two rfl rfl

theorem bytes_c (l : List Int) (c : Int) (hl : l.length < 134217728) : Contract Try.prog 12 [.ints l, di c] [di ((strOfNums (vbs (pk (common c) (plain l)))).size : Nat)] := by
  have hpk := pk_le (common c) (plain l)
  have hpl : (plain l).length = l.length := by simp [plain]
  refine contract_of Try.func12 (by kernel_rfl) rfl (lq rfl) (lq rfl) fun w0 I0 => ?_
  refine avc_sq2 ?_
  refine avc_sq ?_
  refine sq_a (ag_plain rfl (a_assign_d (lq rfl) rfl)) ?_
  refine sq_nil ?_
  refine avc_sq2 ?_
  refine avc_sq ?_
  first | refine sq_a (ag_plain rfl (a_move_d (lq rfl) rfl)) ?_ | refine sq_a (ag_plain rfl (a_move_row (lq rfl) rfl)) ?_ | refine sq_a (ag_plain rfl (a_move_ptr (lq rfl) rfl)) ?_ | refine sq_a (ag_plain rfl (a_move_ip (lq rfl) rfl)) ?_ | refine sq_a (ag_plain rfl (a_move_tup (lq rfl) rfl)) ?_
  first | refine sq_a (ag_plain rfl (a_move_d (lq rfl) rfl)) ?_ | refine sq_a (ag_plain rfl (a_move_row (lq rfl) rfl)) ?_ | refine sq_a (ag_plain rfl (a_move_ptr (lq rfl) rfl)) ?_ | refine sq_a (ag_plain rfl (a_move_ip (lq rfl) rfl)) ?_ | refine sq_a (ag_plain rfl (a_move_tup (lq rfl) rfl)) ?_
  refine sq_a (ag_plain rfl (a_call (lq rfl) rfl (pack_c _ _ (by omega)))) ?_
  refine sq_a (ag_plain rfl (a_call (lq rfl) rfl (varint_c _ (by omega)))) ?_
  refine sq_a (ag_plain rfl (a_len_str (lq rfl) Try.underlying9 rfl)) ?_
  first | refine sq_a (ag_plain rfl (a_assign_d (lq rfl) rfl)) ?_ | refine sq_a (ag_plain rfl (a_assign_row (lq rfl) rfl)) ?_ | refine sq_a (ag_plain rfl (a_assign_ptr (lq rfl) rfl)) ?_
  refine sq_nil ?_
  refine avc_ret ?_
  exact ret_int rfl rfl

theorem refPack_c (l : List Int) (c : Int) (hl : l.length < 2147483648) : Contract Try.prog 11 [.ints l, di c] [.ints (pk (common c) (plain l))] := by
  have hm := common_in c
  have hpl : (plain l).length = l.length := by simp [plain]
  refine contract_of Try.func11 (by kernel_rfl) rfl (lq rfl) (lq rfl) fun w0 I0 => ?_
  refine avc_sq2 ?_
  refine avc_sq ?_
  refine sq_a (ag_plain rfl (a_assign_d (lq rfl) rfl)) ?_
  refine sq_nil ?_
  refine avc_sq2 ?_
  refine avc_sq ?_
  first | refine sq_a (ag_plain rfl (a_move_d (lq rfl) rfl)) ?_ | refine sq_a (ag_plain rfl (a_move_row (lq rfl) rfl)) ?_ | refine sq_a (ag_plain rfl (a_move_ptr (lq rfl) rfl)) ?_ | refine sq_a (ag_plain rfl (a_move_ip (lq rfl) rfl)) ?_ | refine sq_a (ag_plain rfl (a_move_tup (lq rfl) rfl)) ?_
  refine sq_a (ag_plain rfl (a_call (lq rfl) rfl (refCommon_c _))) ?_
  first | refine sq_a (ag_plain rfl (a_assign_d (lq rfl) rfl)) ?_ | refine sq_a (ag_plain rfl (a_assign_row (lq rfl) rfl)) ?_ | refine sq_a (ag_plain rfl (a_assign_ptr (lq rfl) rfl)) ?_
  refine sq_nil ?_
  refine avc_sq2 ?_
  refine avc_sq ?_
  first | refine sq_a (ag_plain rfl (a_move_d (lq rfl) rfl)) ?_ | refine sq_a (ag_plain rfl (a_move_row (lq rfl) rfl)) ?_ | refine sq_a (ag_plain rfl (a_move_ptr (lq rfl) rfl)) ?_ | refine sq_a (ag_plain rfl (a_move_ip (lq rfl) rfl)) ?_ | refine sq_a (ag_plain rfl (a_move_tup (lq rfl) rfl)) ?_
  refine sq_a (ag_plain rfl (a_call (lq rfl) rfl (refPlain_c _ (by omega)))) ?_
  first | refine sq_a (ag_plain rfl (a_assign_d (lq rfl) rfl)) ?_ | refine sq_a (ag_plain rfl (a_assign_row (lq rfl) rfl)) ?_ | refine sq_a (ag_plain rfl (a_assign_ptr (lq rfl) rfl)) ?_
  refine sq_nil ?_
  refine avc_sq2 ?_
  refine avc_sq ?_
  refine sq_a (ag_plain rfl (a_assign_d (lq rfl) rfl)) ?_
  refine sq_nil ?_
  refine avc_sq2 ?_
  refine avc_sq2 ?_
  refine avc_sq ?_
  refine sq_a (ag_plain rfl (a_assign_d (lq rfl) rfl)) ?_
  refine sq_nil ?_
  refine avc_block ?_
  refine avc_weak (weak_nil (t := 5) 99 3 1 (by decide) (lq rfl) rfl rfl) ?_
  refine avc_loop (ι := Nat × List Int) (fun x => ⟨[(0, .d (.ints (plain l))), (1, .d (di (common c))), (5, .row 99), (6, .d (di x.1))], [(99, .row 3 1 false ((x.2).map di))]⟩) (fun x => x.1 ≤ (plain l).length ∧ x.2 ++ pkc (common c) 0 ((plain l).drop x.1) = pk (common c) (plain l) ∧ x.2.length ≤ x.1) (fun x => (plain l).length - x.1) ((0, []) : Nat × List Int) ?_ ?_ ?_
  · exact ⟨by omega, rfl, by simp⟩
  · refine weak_cov ⟨?_, ?_, ?_, ?_, trivial⟩ ⟨?_, trivial⟩ <;> (first | rfl | exact cov_int (by omega) | exact cov_row (by simp [di, flatDV]))
  · rintro x hp
    obtain ⟨i, o⟩ := x
    dsimp only at hp ⊢
    obtain ⟨h1, h2, h3⟩ := hp
    refine avc_sq2 ?_
    refine avc_sq2 ?_
    refine avc_sq ?_
    first | refine sq_a (ag_plain rfl (a_move_d (lq rfl) rfl)) ?_ | refine sq_a (ag_plain rfl (a_move_row (lq rfl) rfl)) ?_ | refine sq_a (ag_plain rfl (a_move_ptr (lq rfl) rfl)) ?_ | refine sq_a (ag_plain rfl (a_move_ip (lq rfl) rfl)) ?_ | refine sq_a (ag_plain rfl (a_move_tup (lq rfl) rfl)) ?_
    first | refine sq_a (ag_plain rfl (a_move_d (lq rfl) rfl)) ?_ | refine sq_a (ag_plain rfl (a_move_row (lq rfl) rfl)) ?_ | refine sq_a (ag_plain rfl (a_move_ptr (lq rfl) rfl)) ?_ | refine sq_a (ag_plain rfl (a_move_ip (lq rfl) rfl)) ?_ | refine sq_a (ag_plain rfl (a_move_tup (lq rfl) rfl)) ?_
    first | refine sq_a (ag_plain rfl (a_len_d (lq rfl) S22 rfl len_app2)) ?_ | refine sq_a (ag_plain rfl (a_len_d (lq rfl) S22 rfl len_map)) ?_ | refine sq_a (ag_plain rfl (a_len_row (lq rfl) S22 rfl rfl len_app2)) ?_ | refine sq_a (ag_plain rfl (a_len_row (lq rfl) S22 rfl rfl len_map)) ?_ | refine sq_a (ag_plain rfl (a_len_nil (lq rfl) Try.underlying22 rfl)) ?_
    refine sq_a (ag_plain rfl (a_lss (lq rfl) rfl rfl)) ?_
    refine sq_nil ?_
    refine avc_if rfl ⟨fun hc0 => ?_, fun hc0 => ?_⟩
    ·
      try simp only [Bool.and_eq_true, Bool.or_eq_true, Bool.not_eq_true', Bool.and_eq_false_iff, Bool.or_eq_false_iff, Bool.not_eq_false', decide_eq_true_eq, decide_eq_false_iff_not, Int.not_lt, Int.not_le] at hc0
      refine avc_skip ?_
      refine avc_block ?_
      refine avc_sq2 ?_
      refine avc_sq ?_
      refine sq_a (ag_plain rfl (a_assign_d (lq rfl) rfl)) ?_
      refine sq_nil ?_
      refine avc_sq2 ?_
      refine avc_block ?_
      refine avc_loop (ι := Nat) (fun k => ⟨[(0, .d (.ints (plain l))), (1, .d (di (common c))), (5, .row 99), (6, .d (di i)), (7, .d (di k))], [(99, .row 3 1 false ((o).map di))]⟩) (fun k => i + k ≤ (plain l).length ∧ pkc (common c) 0 ((plain l).drop i) = pkc (common c) k ((plain l).drop (i + k))) (fun k => (plain l).length - (i + k)) 0 ?_ ?_ ?_
      · exact ⟨by omega, rfl⟩
      · refine weak_cov ⟨?_, ?_, ?_, ?_, ?_, trivial⟩ ⟨?_, trivial⟩ <;> (first | rfl | exact cov_int (by dsimp only; omega) | exact cov_row (by simp [flatDV, di]))
      · rintro k hp
        obtain ⟨h4, h5⟩ := hp
        refine avc_sq2 ?_
        refine avc_sq2 ?_
        refine avc_sq ?_
        first | refine sq_a (ag_plain rfl (a_move_d (lq rfl) rfl)) ?_ | refine sq_a (ag_plain rfl (a_move_row (lq rfl) rfl)) ?_ | refine sq_a (ag_plain rfl (a_move_ptr (lq rfl) rfl)) ?_ | refine sq_a (ag_plain rfl (a_move_ip (lq rfl) rfl)) ?_ | refine sq_a (ag_plain rfl (a_move_tup (lq rfl) rfl)) ?_
        first | refine sq_a (ag_plain rfl (a_move_d (lq rfl) rfl)) ?_ | refine sq_a (ag_plain rfl (a_move_row (lq rfl) rfl)) ?_ | refine sq_a (ag_plain rfl (a_move_ptr (lq rfl) rfl)) ?_ | refine sq_a (ag_plain rfl (a_move_ip (lq rfl) rfl)) ?_ | refine sq_a (ag_plain rfl (a_move_tup (lq rfl) rfl)) ?_
        refine sq_a (ag_plain rfl (a_add (lq rfl) rfl rfl (w64 (by omega) (by omega)))) ?_
        first | refine sq_a (ag_plain rfl (a_move_d (lq rfl) rfl)) ?_ | refine sq_a (ag_plain rfl (a_move_row (lq rfl) rfl)) ?_ | refine sq_a (ag_plain rfl (a_move_ptr (lq rfl) rfl)) ?_ | refine sq_a (ag_plain rfl (a_move_ip (lq rfl) rfl)) ?_ | refine sq_a (ag_plain rfl (a_move_tup (lq rfl) rfl)) ?_
        first | refine sq_a (ag_plain rfl (a_len_d (lq rfl) S22 rfl len_app2)) ?_ | refine sq_a (ag_plain rfl (a_len_d (lq rfl) S22 rfl len_map)) ?_ | refine sq_a (ag_plain rfl (a_len_row (lq rfl) S22 rfl rfl len_app2)) ?_ | refine sq_a (ag_plain rfl (a_len_row (lq rfl) S22 rfl rfl len_map)) ?_ | refine sq_a (ag_plain rfl (a_len_nil (lq rfl) Try.underlying22 rfl)) ?_
        refine sq_a (ag_plain rfl (a_lss (lq rfl) rfl rfl)) ?_
        first | refine sq_a (ag_plain rfl (a_move_d (lq rfl) rfl)) ?_ | refine sq_a (ag_plain rfl (a_move_row (lq rfl) rfl)) ?_ | refine sq_a (ag_plain rfl (a_move_ptr (lq rfl) rfl)) ?_ | refine sq_a (ag_plain rfl (a_move_ip (lq rfl) rfl)) ?_ | refine sq_a (ag_plain rfl (a_move_tup (lq rfl) rfl)) ?_
        first | (apply sq_g rfl rfl rfl (lq rfl) (lq rfl) rfl; focus (intro hb; simp only [gd, Bool.not_eq_true'] at hb; (try rw [hb]); (try simp only [decide_eq_true_eq, decide_eq_false_iff_not, Bool.and_eq_true, Bool.or_eq_false_iff, Bool.not_eq_true'] at hb); first | exact a_move_d (lq rfl) rfl | exact a_move_row (lq rfl) rfl | exact a_move_ptr (lq rfl) rfl | exact a_move_ip (lq rfl) rfl | exact a_move_tup (lq rfl) rfl)) | (apply sq_g2 rfl rfl rfl (lq rfl) (lq rfl) rfl; focus (intro hb; simp only [gd, Bool.and_eq_true, Bool.not_eq_true'] at hb; (try rw [hb.1]); (try rw [hb.2]); (try simp only [decide_eq_true_eq, decide_eq_false_iff_not, Bool.and_eq_true, Bool.or_eq_false_iff, Bool.not_eq_true'] at hb); first | exact a_move_d (lq rfl) rfl | exact a_move_row (lq rfl) rfl | exact a_move_ptr (lq rfl) rfl | exact a_move_ip (lq rfl) rfl | exact a_move_tup (lq rfl) rfl))
        first | (apply sq_g rfl rfl rfl (lq rfl) (lq rfl) rfl; focus (intro hb; simp only [gd, Bool.not_eq_true'] at hb; (try rw [hb]); (try simp only [decide_eq_true_eq, decide_eq_false_iff_not, Bool.and_eq_true, Bool.or_eq_false_iff, Bool.not_eq_true'] at hb); first | exact a_move_d (lq rfl) rfl | exact a_move_row (lq rfl) rfl | exact a_move_ptr (lq rfl) rfl | exact a_move_ip (lq rfl) rfl | exact a_move_tup (lq rfl) rfl)) | (apply sq_g2 rfl rfl rfl (lq rfl) (lq rfl) rfl; focus (intro hb; simp only [gd, Bool.and_eq_true, Bool.not_eq_true'] at hb; (try rw [hb.1]); (try rw [hb.2]); (try simp only [decide_eq_true_eq, decide_eq_false_iff_not, Bool.and_eq_true, Bool.or_eq_false_iff, Bool.not_eq_true'] at hb); first | exact a_move_d (lq rfl) rfl | exact a_move_row (lq rfl) rfl | exact a_move_ptr (lq rfl) rfl | exact a_move_ip (lq rfl) rfl | exact a_move_tup (lq rfl) rfl))
        first | (apply sq_g rfl rfl rfl (lq rfl) (lq rfl) rfl; focus (intro hb; simp only [gd, Bool.not_eq_true'] at hb; (try rw [hb]); (try simp only [decide_eq_true_eq, decide_eq_false_iff_not, Bool.and_eq_true, Bool.or_eq_false_iff, Bool.not_eq_true'] at hb); first | exact a_move_d (lq rfl) rfl | exact a_move_row (lq rfl) rfl | exact a_move_ptr (lq rfl) rfl | exact a_move_ip (lq rfl) rfl | exact a_move_tup (lq rfl) rfl)) | (apply sq_g2 rfl rfl rfl (lq rfl) (lq rfl) rfl; focus (intro hb; simp only [gd, Bool.and_eq_true, Bool.not_eq_true'] at hb; (try rw [hb.1]); (try rw [hb.2]); (try simp only [decide_eq_true_eq, decide_eq_false_iff_not, Bool.and_eq_true, Bool.or_eq_false_iff, Bool.not_eq_true'] at hb); first | exact a_move_d (lq rfl) rfl | exact a_move_row (lq rfl) rfl | exact a_move_ptr (lq rfl) rfl | exact a_move_ip (lq rfl) rfl | exact a_move_tup (lq rfl) rfl))
        first | (apply sq_g rfl rfl rfl (lq rfl) (lq rfl) rfl; focus (intro hb; simp only [gd, Bool.not_eq_true'] at hb; (try rw [hb]); (try simp only [decide_eq_true_eq, decide_eq_false_iff_not, Bool.and_eq_true, Bool.or_eq_false_iff, Bool.not_eq_true'] at hb); exact a_add (lq rfl) rfl rfl (w64 (by omega) (by omega)))) | (apply sq_g2 rfl rfl rfl (lq rfl) (lq rfl) rfl; focus (intro hb; simp only [gd, Bool.and_eq_true, Bool.not_eq_true'] at hb; (try rw [hb.1]); (try rw [hb.2]); (try simp only [decide_eq_true_eq, decide_eq_false_iff_not, Bool.and_eq_true, Bool.or_eq_false_iff, Bool.not_eq_true'] at hb); exact a_add (lq rfl) rfl rfl (w64 (by omega) (by omega))))
        first | (apply sq_g rfl rfl rfl (lq rfl) (lq rfl) rfl; focus (intro hb; simp only [gd, Bool.not_eq_true'] at hb; (try rw [hb]); (try simp only [decide_eq_true_eq, decide_eq_false_iff_not, Bool.and_eq_true, Bool.or_eq_false_iff, Bool.not_eq_true'] at hb); first | exact a_index_d (lq rfl) S22 rfl rfl rfl len_app2 (by omega) | exact a_index_d (lq rfl) S22 rfl rfl rfl len_map (by omega) | exact a_index_row (lq rfl) S22 rfl rfl rfl rfl len_app2 (by omega) | exact a_index_row (lq rfl) S22 rfl rfl rfl rfl len_map (by omega) | exact a_index_d (lq rfl) S22 rfl rfl (ix_add1 _) len_app2 (by omega) | exact a_index_d (lq rfl) S22 rfl rfl (ix_add1 _) len_map (by omega) | exact a_index_row (lq rfl) S22 rfl rfl rfl (ix_add1 _) len_app2 (by omega) | exact a_index_row (lq rfl) S22 rfl rfl rfl (ix_add1 _) len_map (by omega) | exact a_index_d (lq rfl) S22 rfl rfl (ix_nat (by omega)) len_app2 (by omega) | exact a_index_d (lq rfl) S22 rfl rfl (ix_nat (by omega)) len_map (by omega) | exact a_index_row (lq rfl) S22 rfl rfl rfl (ix_nat (by omega)) len_app2 (by omega) | exact a_index_row (lq rfl) S22 rfl rfl rfl (ix_nat (by omega)) len_map (by omega))) | (apply sq_g2 rfl rfl rfl (lq rfl) (lq rfl) rfl; focus (intro hb; simp only [gd, Bool.and_eq_true, Bool.not_eq_true'] at hb; (try rw [hb.1]); (try rw [hb.2]); (try simp only [decide_eq_true_eq, decide_eq_false_iff_not, Bool.and_eq_true, Bool.or_eq_false_iff, Bool.not_eq_true'] at hb); first | exact a_index_d (lq rfl) S22 rfl rfl rfl len_app2 (by omega) | exact a_index_d (lq rfl) S22 rfl rfl rfl len_map (by omega) | exact a_index_row (lq rfl) S22 rfl rfl rfl rfl len_app2 (by omega) | exact a_index_row (lq rfl) S22 rfl rfl rfl rfl len_map (by omega) | exact a_index_d (lq rfl) S22 rfl rfl (ix_add1 _) len_app2 (by omega) | exact a_index_d (lq rfl) S22 rfl rfl (ix_add1 _) len_map (by omega) | exact a_index_row (lq rfl) S22 rfl rfl rfl (ix_add1 _) len_app2 (by omega) | exact a_index_row (lq rfl) S22 rfl rfl rfl (ix_add1 _) len_map (by omega) | exact a_index_d (lq rfl) S22 rfl rfl (ix_nat (by omega)) len_app2 (by omega) | exact a_index_d (lq rfl) S22 rfl rfl (ix_nat (by omega)) len_map (by omega) | exact a_index_row (lq rfl) S22 rfl rfl rfl (ix_nat (by omega)) len_app2 (by omega) | exact a_index_row (lq rfl) S22 rfl rfl rfl (ix_nat (by omega)) len_map (by omega)))
        first | (apply sq_g rfl rfl rfl (lq rfl) (lq rfl) rfl; focus (intro hb; simp only [gd, Bool.not_eq_true'] at hb; (try rw [hb]); (try simp only [decide_eq_true_eq, decide_eq_false_iff_not, Bool.and_eq_true, Bool.or_eq_false_iff, Bool.not_eq_true'] at hb); first | exact a_load_box (lq rfl) O3 rfl rfl rfl | exact a_load_pt (lq rfl) O3 rfl rfl | exact a_load_ip (lq rfl) O3 rfl (get_map 0 (by omega)) | exact a_load_row (lq rfl) O3 rfl rfl (get_map 0 (by omega)))) | (apply sq_g2 rfl rfl rfl (lq rfl) (lq rfl) rfl; focus (intro hb; simp only [gd, Bool.and_eq_true, Bool.not_eq_true'] at hb; (try rw [hb.1]); (try rw [hb.2]); (try simp only [decide_eq_true_eq, decide_eq_false_iff_not, Bool.and_eq_true, Bool.or_eq_false_iff, Bool.not_eq_true'] at hb); first | exact a_load_box (lq rfl) O3 rfl rfl rfl | exact a_load_pt (lq rfl) O3 rfl rfl | exact a_load_ip (lq rfl) O3 rfl (get_map 0 (by omega)) | exact a_load_row (lq rfl) O3 rfl rfl (get_map 0 (by omega))))
        first | (apply sq_g rfl rfl rfl (lq rfl) (lq rfl) rfl; focus (intro hb; simp only [gd, Bool.not_eq_true'] at hb; (try rw [hb]); (try simp only [decide_eq_true_eq, decide_eq_false_iff_not, Bool.and_eq_true, Bool.or_eq_false_iff, Bool.not_eq_true'] at hb); first | exact a_move_d (lq rfl) rfl | exact a_move_row (lq rfl) rfl | exact a_move_ptr (lq rfl) rfl | exact a_move_ip (lq rfl) rfl | exact a_move_tup (lq rfl) rfl)) | (apply sq_g2 rfl rfl rfl (lq rfl) (lq rfl) rfl; focus (intro hb; simp only [gd, Bool.and_eq_true, Bool.not_eq_true'] at hb; (try rw [hb.1]); (try rw [hb.2]); (try simp only [decide_eq_true_eq, decide_eq_false_iff_not, Bool.and_eq_true, Bool.or_eq_false_iff, Bool.not_eq_true'] at hb); first | exact a_move_d (lq rfl) rfl | exact a_move_row (lq rfl) rfl | exact a_move_ptr (lq rfl) rfl | exact a_move_ip (lq rfl) rfl | exact a_move_tup (lq rfl) rfl))
        first | (apply sq_g rfl rfl rfl (lq rfl) (lq rfl) rfl; focus (intro hb; simp only [gd, Bool.not_eq_true'] at hb; (try rw [hb]); (try simp only [decide_eq_true_eq, decide_eq_false_iff_not, Bool.and_eq_true, Bool.or_eq_false_iff, Bool.not_eq_true'] at hb); exact a_eql (lq rfl) rfl rfl)) | (apply sq_g2 rfl rfl rfl (lq rfl) (lq rfl) rfl; focus (intro hb; simp only [gd, Bool.and_eq_true, Bool.not_eq_true'] at hb; (try rw [hb.1]); (try rw [hb.2]); (try simp only [decide_eq_true_eq, decide_eq_false_iff_not, Bool.and_eq_true, Bool.or_eq_false_iff, Bool.not_eq_true'] at hb); exact a_eql (lq rfl) rfl rfl))
        first | refine sq_a (ag_plain rfl (a_pick_and (lq rfl) rfl rfl)) ?_ | refine sq_a (ag_plain rfl (a_pick_td (lq rfl) rfl rfl)) ?_ | refine sq_a (ag_plain rfl (a_pick_fd (lq rfl) rfl rfl)) ?_
        refine sq_nil ?_
        refine avc_if rfl ⟨fun hc1 => ?_, fun hc1 => ?_⟩
        ·
          try simp only [Bool.and_eq_true, Bool.or_eq_true, Bool.not_eq_true', Bool.and_eq_false_iff, Bool.or_eq_false_iff, Bool.not_eq_false', decide_eq_true_eq, decide_eq_false_iff_not, Int.not_lt, Int.not_le] at hc1
          refine avc_skip ?_
          refine avc_block ?_
          refine avc_sq ?_
          first | refine sq_a (ag_plain rfl (a_move_d (lq rfl) rfl)) ?_ | refine sq_a (ag_plain rfl (a_move_row (lq rfl) rfl)) ?_ | refine sq_a (ag_plain rfl (a_move_ptr (lq rfl) rfl)) ?_ | refine sq_a (ag_plain rfl (a_move_ip (lq rfl) rfl)) ?_ | refine sq_a (ag_plain rfl (a_move_tup (lq rfl) rfl)) ?_
          refine sq_a (ag_plain rfl (a_add (lq rfl) rfl rfl (w64 (by omega) (by omega)))) ?_
          first | refine sq_a (ag_plain rfl (a_assign_d (lq rfl) rfl)) ?_ | refine sq_a (ag_plain rfl (a_assign_row (lq rfl) rfl)) ?_ | refine sq_a (ag_plain rfl (a_assign_ptr (lq rfl) rfl)) ?_
          refine sq_nil ?_
          first | refine loop_end  (j := k + 1) ?_ ?_ ?_ | refine loop_end  (K := fun _ _ => True) (j := k + 1) ?_ ?_ ?_
          · exact ⟨by omega, ref_in (by omega) hc1.2 h5⟩
          · omega
          · refine weak_cov ⟨?_, ?_, ?_, ?_, ?_, trivial⟩ ⟨?_, trivial⟩ <;> (first | rfl | exact cov_int (by dsimp only; omega) | exact cov_row (by simp [flatDV, di]))
        ·
          try simp only [Bool.and_eq_true, Bool.or_eq_true, Bool.not_eq_true', Bool.and_eq_false_iff, Bool.or_eq_false_iff, Bool.not_eq_false', decide_eq_true_eq, decide_eq_false_iff_not, Int.not_lt, Int.not_le] at hc1
          refine avc_exit ?_
          refine avc_sq2 ?_
          refine avc_block ?_
          refine avc_sq2 ?_
          refine avc_sq ?_
          first | refine sq_a (ag_plain rfl (a_move_d (lq rfl) rfl)) ?_ | refine sq_a (ag_plain rfl (a_move_row (lq rfl) rfl)) ?_ | refine sq_a (ag_plain rfl (a_move_ptr (lq rfl) rfl)) ?_ | refine sq_a (ag_plain rfl (a_move_ip (lq rfl) rfl)) ?_ | refine sq_a (ag_plain rfl (a_move_tup (lq rfl) rfl)) ?_
          refine sq_a (ag_plain rfl (a_gtr (lq rfl) rfl rfl)) ?_
          first | refine sq_a (ag_plain rfl (a_assign_d (lq rfl) rfl)) ?_ | refine sq_a (ag_plain rfl (a_assign_row (lq rfl) rfl)) ?_ | refine sq_a (ag_plain rfl (a_assign_ptr (lq rfl) rfl)) ?_
          refine sq_nil ?_
          refine avc_if rfl ⟨fun hc2 => ?_, fun hc2 => ?_⟩
          ·
            try simp only [Bool.and_eq_true, Bool.or_eq_true, Bool.not_eq_true', Bool.and_eq_false_iff, Bool.or_eq_false_iff, Bool.not_eq_false', decide_eq_true_eq, decide_eq_false_iff_not, Int.not_lt, Int.not_le] at hc2
            refine avc_sq2 ?_
            refine avc_sq2 ?_
            refine avc_sq ?_
            refine sq_a (ag_plain rfl (a_assign_d (lq rfl) rfl)) ?_
            refine sq_nil ?_
            refine avc_block ?_
            refine avc_loop (ι := Nat) (fun b => ⟨[(0, .d (.ints (plain l))), (1, .d (di (common c))), (5, .row 99), (6, .d (di i)), (7, .d (di k)), (8, .d (di b))], [(99, .row 3 1 false ((o ++ List.replicate b (common c + 7)).map di))]⟩) (fun b => b ≤ k / 8) (fun b => k / 8 - b) 0 ?_ ?_ ?_
            · omega
            · refine weak_cov ⟨?_, ?_, ?_, ?_, ?_, ?_, trivial⟩ ⟨?_, trivial⟩ <;> (first | rfl | exact cov_int (by dsimp only; omega) | exact cov_row (by simp [flatDV, di]))
            · rintro b hp
              have hbl : (o ++ List.replicate b (common c + 7)).length = o.length + b := by simp
              refine avc_sq2 ?_
              refine avc_sq2 ?_
              refine avc_sq ?_
              first | refine sq_a (ag_plain rfl (a_move_d (lq rfl) rfl)) ?_ | refine sq_a (ag_plain rfl (a_move_row (lq rfl) rfl)) ?_ | refine sq_a (ag_plain rfl (a_move_ptr (lq rfl) rfl)) ?_ | refine sq_a (ag_plain rfl (a_move_ip (lq rfl) rfl)) ?_ | refine sq_a (ag_plain rfl (a_move_tup (lq rfl) rfl)) ?_
              first | refine sq_a (ag_plain rfl (a_move_d (lq rfl) rfl)) ?_ | refine sq_a (ag_plain rfl (a_move_row (lq rfl) rfl)) ?_ | refine sq_a (ag_plain rfl (a_move_ptr (lq rfl) rfl)) ?_ | refine sq_a (ag_plain rfl (a_move_ip (lq rfl) rfl)) ?_ | refine sq_a (ag_plain rfl (a_move_tup (lq rfl) rfl)) ?_
              refine sq_a (ag_plain rfl (a_quo (lq rfl) rfl rfl (by omega) (by omega) (w64 (by omega) (by omega)))) ?_
              refine sq_a (ag_plain rfl (a_lss (lq rfl) rfl rfl)) ?_
              refine sq_nil ?_
              refine avc_if rfl ⟨fun hc3 => ?_, fun hc3 => ?_⟩
              ·
                try simp only [Bool.and_eq_true, Bool.or_eq_true, Bool.not_eq_true', Bool.and_eq_false_iff, Bool.or_eq_false_iff, Bool.not_eq_false', decide_eq_true_eq, decide_eq_false_iff_not, Int.not_lt, Int.not_le] at hc3
                refine avc_skip ?_
                refine avc_sq2 ?_
                refine avc_block ?_
                refine avc_sq ?_
                first | refine sq_a (ag_plain rfl (a_move_d (lq rfl) rfl)) ?_ | refine sq_a (ag_plain rfl (a_move_row (lq rfl) rfl)) ?_ | refine sq_a (ag_plain rfl (a_move_ptr (lq rfl) rfl)) ?_ | refine sq_a (ag_plain rfl (a_move_ip (lq rfl) rfl)) ?_ | refine sq_a (ag_plain rfl (a_move_tup (lq rfl) rfl)) ?_
                first | refine sq_a (ag_plain rfl (a_move_d (lq rfl) rfl)) ?_ | refine sq_a (ag_plain rfl (a_move_row (lq rfl) rfl)) ?_ | refine sq_a (ag_plain rfl (a_move_ptr (lq rfl) rfl)) ?_ | refine sq_a (ag_plain rfl (a_move_ip (lq rfl) rfl)) ?_ | refine sq_a (ag_plain rfl (a_move_tup (lq rfl) rfl)) ?_
                refine sq_a (ag_plain rfl (a_add (lq rfl) rfl rfl (w64 (by omega) (by omega)))) ?_
                refine sq_a (ag_plain rfl (a_lit (lq rfl) S22 rfl rfl rfl rfl (by decide) rfl)) ?_
                first | refine sq_b rfl (s_append_d (lq rfl) S22 rfl rfl rfl len_app2 (rfl : _ = 1 * 1) (by decide) (by omega) rfl rfl) ?_ | refine sq_b rfl (s_append_row (lq rfl) S22 rfl rfl rfl rfl len_app2 (rfl : _ = 1 * 1) (by decide) (by omega) rfl rfl) ?_ | refine sq_b rfl (s_append_d (lq rfl) S22 rfl rfl rfl len_map (rfl : _ = 1 * 1) (by decide) (by omega) rfl rfl) ?_ | refine sq_b rfl (s_append_row (lq rfl) S22 rfl rfl rfl rfl len_map (rfl : _ = 1 * 1) (by decide) (by omega) rfl rfl) ?_
                first | refine sq_a (ag_plain rfl (a_assign_d (lq rfl) rfl)) ?_ | refine sq_a (ag_plain rfl (a_assign_row (lq rfl) rfl)) ?_ | refine sq_a (ag_plain rfl (a_assign_ptr (lq rfl) rfl)) ?_
                refine sq_nil ?_
                refine avc_sq ?_
                first | refine sq_a (ag_plain rfl (a_move_d (lq rfl) rfl)) ?_ | refine sq_a (ag_plain rfl (a_move_row (lq rfl) rfl)) ?_ | refine sq_a (ag_plain rfl (a_move_ptr (lq rfl) rfl)) ?_ | refine sq_a (ag_plain rfl (a_move_ip (lq rfl) rfl)) ?_ | refine sq_a (ag_plain rfl (a_move_tup (lq rfl) rfl)) ?_
                refine sq_a (ag_plain rfl (a_add (lq rfl) rfl rfl (w64 (by omega) (by omega)))) ?_
                first | refine sq_a (ag_plain rfl (a_assign_d (lq rfl) rfl)) ?_ | refine sq_a (ag_plain rfl (a_assign_row (lq rfl) rfl)) ?_ | refine sq_a (ag_plain rfl (a_assign_ptr (lq rfl) rfl)) ?_
                refine sq_nil ?_
                first | refine loop_end  (j := b + 1) ?_ ?_ ?_ | refine loop_end  (K := fun _ _ => True) (j := b + 1) ?_ ?_ ?_
                · omega
                · omega
                · refine weak_cov ⟨?_, ?_, ?_, ?_, ?_, ?_, trivial⟩ ⟨?_, trivial⟩ <;> (first | rfl | exact cov_int (by omega) | exact cov_row (by rw [List.replicate_succ']; simp [flatDV, di]))
              ·
                try simp only [Bool.and_eq_true, Bool.or_eq_true, Bool.not_eq_true', Bool.and_eq_false_iff, Bool.or_eq_false_iff, Bool.not_eq_false', decide_eq_true_eq, decide_eq_false_iff_not, Int.not_lt, Int.not_le] at hc3
                have hbk : b = k / 8 := by omega
                subst hbk
                refine avc_exit ?_
                refine avc_sq2 ?_
                refine avc_sq ?_
                first | refine sq_a (ag_plain rfl (a_move_d (lq rfl) rfl)) ?_ | refine sq_a (ag_plain rfl (a_move_row (lq rfl) rfl)) ?_ | refine sq_a (ag_plain rfl (a_move_ptr (lq rfl) rfl)) ?_ | refine sq_a (ag_plain rfl (a_move_ip (lq rfl) rfl)) ?_ | refine sq_a (ag_plain rfl (a_move_tup (lq rfl) rfl)) ?_
                first | refine sq_a (ag_plain rfl (a_move_d (lq rfl) rfl)) ?_ | refine sq_a (ag_plain rfl (a_move_row (lq rfl) rfl)) ?_ | refine sq_a (ag_plain rfl (a_move_ptr (lq rfl) rfl)) ?_ | refine sq_a (ag_plain rfl (a_move_ip (lq rfl) rfl)) ?_ | refine sq_a (ag_plain rfl (a_move_tup (lq rfl) rfl)) ?_
                refine sq_a (ag_plain rfl (a_add (lq rfl) rfl rfl (w64 (by omega) (by omega)))) ?_
                first | refine sq_a (ag_plain rfl (a_assign_d (lq rfl) rfl)) ?_ | refine sq_a (ag_plain rfl (a_assign_row (lq rfl) rfl)) ?_ | refine sq_a (ag_plain rfl (a_assign_ptr (lq rfl) rfl)) ?_
                refine sq_nil ?_
                refine avc_sq2 ?_
                refine avc_sq2 ?_
                refine avc_sq ?_
                first | refine sq_a (ag_plain rfl (a_move_d (lq rfl) rfl)) ?_ | refine sq_a (ag_plain rfl (a_move_row (lq rfl) rfl)) ?_ | refine sq_a (ag_plain rfl (a_move_ptr (lq rfl) rfl)) ?_ | refine sq_a (ag_plain rfl (a_move_ip (lq rfl) rfl)) ?_ | refine sq_a (ag_plain rfl (a_move_tup (lq rfl) rfl)) ?_
                refine sq_a (ag_plain rfl (a_rem (lq rfl) rfl rfl (by omega) (by omega))) ?_
                refine sq_a (ag_plain rfl (a_gtr (lq rfl) rfl rfl)) ?_
                first | refine sq_a (ag_plain rfl (a_move_d (lq rfl) rfl)) ?_ | refine sq_a (ag_plain rfl (a_move_row (lq rfl) rfl)) ?_ | refine sq_a (ag_plain rfl (a_move_ptr (lq rfl) rfl)) ?_ | refine sq_a (ag_plain rfl (a_move_ip (lq rfl) rfl)) ?_ | refine sq_a (ag_plain rfl (a_move_tup (lq rfl) rfl)) ?_
                first | (apply sq_g rfl rfl rfl (lq rfl) (lq rfl) rfl; focus (intro hb; simp only [gd, Bool.not_eq_true'] at hb; (try rw [hb]); (try simp only [decide_eq_true_eq, decide_eq_false_iff_not, Bool.and_eq_true, Bool.or_eq_false_iff, Bool.not_eq_true'] at hb); first | exact a_move_d (lq rfl) rfl | exact a_move_row (lq rfl) rfl | exact a_move_ptr (lq rfl) rfl | exact a_move_ip (lq rfl) rfl | exact a_move_tup (lq rfl) rfl)) | (apply sq_g2 rfl rfl rfl (lq rfl) (lq rfl) rfl; focus (intro hb; simp only [gd, Bool.and_eq_true, Bool.not_eq_true'] at hb; (try rw [hb.1]); (try rw [hb.2]); (try simp only [decide_eq_true_eq, decide_eq_false_iff_not, Bool.and_eq_true, Bool.or_eq_false_iff, Bool.not_eq_true'] at hb); first | exact a_move_d (lq rfl) rfl | exact a_move_row (lq rfl) rfl | exact a_move_ptr (lq rfl) rfl | exact a_move_ip (lq rfl) rfl | exact a_move_tup (lq rfl) rfl))
                first | (apply sq_g rfl rfl rfl (lq rfl) (lq rfl) rfl; focus (intro hb; simp only [gd, Bool.not_eq_true'] at hb; (try rw [hb]); (try simp only [decide_eq_true_eq, decide_eq_false_iff_not, Bool.and_eq_true, Bool.or_eq_false_iff, Bool.not_eq_true'] at hb); first | exact a_move_d (lq rfl) rfl | exact a_move_row (lq rfl) rfl | exact a_move_ptr (lq rfl) rfl | exact a_move_ip (lq rfl) rfl | exact a_move_tup (lq rfl) rfl)) | (apply sq_g2 rfl rfl rfl (lq rfl) (lq rfl) rfl; focus (intro hb; simp only [gd, Bool.and_eq_true, Bool.not_eq_true'] at hb; (try rw [hb.1]); (try rw [hb.2]); (try simp only [decide_eq_true_eq, decide_eq_false_iff_not, Bool.and_eq_true, Bool.or_eq_false_iff, Bool.not_eq_true'] at hb); first | exact a_move_d (lq rfl) rfl | exact a_move_row (lq rfl) rfl | exact a_move_ptr (lq rfl) rfl | exact a_move_ip (lq rfl) rfl | exact a_move_tup (lq rfl) rfl))
                first | (apply sq_g rfl rfl rfl (lq rfl) (lq rfl) rfl; focus (intro hb; simp only [gd, Bool.not_eq_true'] at hb; (try rw [hb]); (try simp only [decide_eq_true_eq, decide_eq_false_iff_not, Bool.and_eq_true, Bool.or_eq_false_iff, Bool.not_eq_true'] at hb); first | exact a_len_d (lq rfl) S22 rfl len_app2 | exact a_len_d (lq rfl) S22 rfl len_map | exact a_len_row (lq rfl) S22 rfl rfl len_app2 | exact a_len_row (lq rfl) S22 rfl rfl len_map | exact a_len_nil (lq rfl) Try.underlying22 rfl)) | (apply sq_g2 rfl rfl rfl (lq rfl) (lq rfl) rfl; focus (intro hb; simp only [gd, Bool.and_eq_true, Bool.not_eq_true'] at hb; (try rw [hb.1]); (try rw [hb.2]); (try simp only [decide_eq_true_eq, decide_eq_false_iff_not, Bool.and_eq_true, Bool.or_eq_false_iff, Bool.not_eq_true'] at hb); first | exact a_len_d (lq rfl) S22 rfl len_app2 | exact a_len_d (lq rfl) S22 rfl len_map | exact a_len_row (lq rfl) S22 rfl rfl len_app2 | exact a_len_row (lq rfl) S22 rfl rfl len_map | exact a_len_nil (lq rfl) Try.underlying22 rfl))
                first | (apply sq_g rfl rfl rfl (lq rfl) (lq rfl) rfl; focus (intro hb; simp only [gd, Bool.not_eq_true'] at hb; (try rw [hb]); (try simp only [decide_eq_true_eq, decide_eq_false_iff_not, Bool.and_eq_true, Bool.or_eq_false_iff, Bool.not_eq_true'] at hb); exact a_eql (lq rfl) rfl rfl)) | (apply sq_g2 rfl rfl rfl (lq rfl) (lq rfl) rfl; focus (intro hb; simp only [gd, Bool.and_eq_true, Bool.not_eq_true'] at hb; (try rw [hb.1]); (try rw [hb.2]); (try simp only [decide_eq_true_eq, decide_eq_false_iff_not, Bool.and_eq_true, Bool.or_eq_false_iff, Bool.not_eq_true'] at hb); exact a_eql (lq rfl) rfl rfl))
                first | (apply sq_g rfl rfl rfl (lq rfl) (lq rfl) rfl; focus (intro hb; simp only [gd, Bool.not_eq_true'] at hb; (try rw [hb]); (try simp only [decide_eq_true_eq, decide_eq_false_iff_not, Bool.and_eq_true, Bool.or_eq_false_iff, Bool.not_eq_true'] at hb); first | exact a_move_d (lq rfl) rfl | exact a_move_row (lq rfl) rfl | exact a_move_ptr (lq rfl) rfl | exact a_move_ip (lq rfl) rfl | exact a_move_tup (lq rfl) rfl)) | (apply sq_g2 rfl rfl rfl (lq rfl) (lq rfl) rfl; focus (intro hb; simp only [gd, Bool.and_eq_true, Bool.not_eq_true'] at hb; (try rw [hb.1]); (try rw [hb.2]); (try simp only [decide_eq_true_eq, decide_eq_false_iff_not, Bool.and_eq_true, Bool.or_eq_false_iff, Bool.not_eq_true'] at hb); first | exact a_move_d (lq rfl) rfl | exact a_move_row (lq rfl) rfl | exact a_move_ptr (lq rfl) rfl | exact a_move_ip (lq rfl) rfl | exact a_move_tup (lq rfl) rfl))
                first | (apply sq_g rfl rfl rfl (lq rfl) (lq rfl) rfl; focus (intro hb; simp only [gd, Bool.not_eq_true'] at hb; (try rw [hb]); (try simp only [decide_eq_true_eq, decide_eq_false_iff_not, Bool.and_eq_true, Bool.or_eq_false_iff, Bool.not_eq_true'] at hb); first | exact a_move_d (lq rfl) rfl | exact a_move_row (lq rfl) rfl | exact a_move_ptr (lq rfl) rfl | exact a_move_ip (lq rfl) rfl | exact a_move_tup (lq rfl) rfl)) | (apply sq_g2 rfl rfl rfl (lq rfl) (lq rfl) rfl; focus (intro hb; simp only [gd, Bool.and_eq_true, Bool.not_eq_true'] at hb; (try rw [hb.1]); (try rw [hb.2]); (try simp only [decide_eq_true_eq, decide_eq_false_iff_not, Bool.and_eq_true, Bool.or_eq_false_iff, Bool.not_eq_true'] at hb); first | exact a_move_d (lq rfl) rfl | exact a_move_row (lq rfl) rfl | exact a_move_ptr (lq rfl) rfl | exact a_move_ip (lq rfl) rfl | exact a_move_tup (lq rfl) rfl))
                first | (apply sq_g rfl rfl rfl (lq rfl) (lq rfl) rfl; focus (intro hb; simp only [gd, Bool.not_eq_true'] at hb; (try rw [hb]); (try simp only [decide_eq_true_eq, decide_eq_false_iff_not, Bool.and_eq_true, Bool.or_eq_false_iff, Bool.not_eq_true'] at hb); first | exact a_move_d (lq rfl) rfl | exact a_move_row (lq rfl) rfl | exact a_move_ptr (lq rfl) rfl | exact a_move_ip (lq rfl) rfl | exact a_move_tup (lq rfl) rfl)) | (apply sq_g2 rfl rfl rfl (lq rfl) (lq rfl) rfl; focus (intro hb; simp only [gd, Bool.and_eq_true, Bool.not_eq_true'] at hb; (try rw [hb.1]); (try rw [hb.2]); (try simp only [decide_eq_true_eq, decide_eq_false_iff_not, Bool.and_eq_true, Bool.or_eq_false_iff, Bool.not_eq_true'] at hb); first | exact a_move_d (lq rfl) rfl | exact a_move_row (lq rfl) rfl | exact a_move_ptr (lq rfl) rfl | exact a_move_ip (lq rfl) rfl | exact a_move_tup (lq rfl) rfl))
                first | (apply sq_g rfl rfl rfl (lq rfl) (lq rfl) rfl; focus (intro hb; simp only [gd, Bool.not_eq_true'] at hb; (try rw [hb]); (try simp only [decide_eq_true_eq, decide_eq_false_iff_not, Bool.and_eq_true, Bool.or_eq_false_iff, Bool.not_eq_true'] at hb); first | exact a_index_d (lq rfl) S22 rfl rfl rfl len_app2 (by omega) | exact a_index_d (lq rfl) S22 rfl rfl rfl len_map (by omega) | exact a_index_row (lq rfl) S22 rfl rfl rfl rfl len_app2 (by omega) | exact a_index_row (lq rfl) S22 rfl rfl rfl rfl len_map (by omega) | exact a_index_d (lq rfl) S22 rfl rfl (ix_add1 _) len_app2 (by omega) | exact a_index_d (lq rfl) S22 rfl rfl (ix_add1 _) len_map (by omega) | exact a_index_row (lq rfl) S22 rfl rfl rfl (ix_add1 _) len_app2 (by omega) | exact a_index_row (lq rfl) S22 rfl rfl rfl (ix_add1 _) len_map (by omega) | exact a_index_d (lq rfl) S22 rfl rfl (ix_nat (by omega)) len_app2 (by omega) | exact a_index_d (lq rfl) S22 rfl rfl (ix_nat (by omega)) len_map (by omega) | exact a_index_row (lq rfl) S22 rfl rfl rfl (ix_nat (by omega)) len_app2 (by omega) | exact a_index_row (lq rfl) S22 rfl rfl rfl (ix_nat (by omega)) len_map (by omega))) | (apply sq_g2 rfl rfl rfl (lq rfl) (lq rfl) rfl; focus (intro hb; simp only [gd, Bool.and_eq_true, Bool.not_eq_true'] at hb; (try rw [hb.1]); (try rw [hb.2]); (try simp only [decide_eq_true_eq, decide_eq_false_iff_not, Bool.and_eq_true, Bool.or_eq_false_iff, Bool.not_eq_true'] at hb); first | exact a_index_d (lq rfl) S22 rfl rfl rfl len_app2 (by omega) | exact a_index_d (lq rfl) S22 rfl rfl rfl len_map (by omega) | exact a_index_row (lq rfl) S22 rfl rfl rfl rfl len_app2 (by omega) | exact a_index_row (lq rfl) S22 rfl rfl rfl rfl len_map (by omega) | exact a_index_d (lq rfl) S22 rfl rfl (ix_add1 _) len_app2 (by omega) | exact a_index_d (lq rfl) S22 rfl rfl (ix_add1 _) len_map (by omega) | exact a_index_row (lq rfl) S22 rfl rfl rfl (ix_add1 _) len_app2 (by omega) | exact a_index_row (lq rfl) S22 rfl rfl rfl (ix_add1 _) len_map (by omega) | exact a_index_d (lq rfl) S22 rfl rfl (ix_nat (by omega)) len_app2 (by omega) | exact a_index_d (lq rfl) S22 rfl rfl (ix_nat (by omega)) len_map (by omega) | exact a_index_row (lq rfl) S22 rfl rfl rfl (ix_nat (by omega)) len_app2 (by omega) | exact a_index_row (lq rfl) S22 rfl rfl rfl (ix_nat (by omega)) len_map (by omega)))
                first | (apply sq_g rfl rfl rfl (lq rfl) (lq rfl) rfl; focus (intro hb; simp only [gd, Bool.not_eq_true'] at hb; (try rw [hb]); (try simp only [decide_eq_true_eq, decide_eq_false_iff_not, Bool.and_eq_true, Bool.or_eq_false_iff, Bool.not_eq_true'] at hb); first | exact a_load_box (lq rfl) O3 rfl rfl rfl | exact a_load_pt (lq rfl) O3 rfl rfl | exact a_load_ip (lq rfl) O3 rfl (get_map 0 (by omega)) | exact a_load_row (lq rfl) O3 rfl rfl (get_map 0 (by omega)))) | (apply sq_g2 rfl rfl rfl (lq rfl) (lq rfl) rfl; focus (intro hb; simp only [gd, Bool.and_eq_true, Bool.not_eq_true'] at hb; (try rw [hb.1]); (try rw [hb.2]); (try simp only [decide_eq_true_eq, decide_eq_false_iff_not, Bool.and_eq_true, Bool.or_eq_false_iff, Bool.not_eq_true'] at hb); first | exact a_load_box (lq rfl) O3 rfl rfl rfl | exact a_load_pt (lq rfl) O3 rfl rfl | exact a_load_ip (lq rfl) O3 rfl (get_map 0 (by omega)) | exact a_load_row (lq rfl) O3 rfl rfl (get_map 0 (by omega))))
                first | (apply sq_g rfl rfl rfl (lq rfl) (lq rfl) rfl; focus (intro hb; simp only [gd, Bool.not_eq_true'] at hb; (try rw [hb]); (try simp only [decide_eq_true_eq, decide_eq_false_iff_not, Bool.and_eq_true, Bool.or_eq_false_iff, Bool.not_eq_true'] at hb); first | exact a_move_d (lq rfl) rfl | exact a_move_row (lq rfl) rfl | exact a_move_ptr (lq rfl) rfl | exact a_move_ip (lq rfl) rfl | exact a_move_tup (lq rfl) rfl)) | (apply sq_g2 rfl rfl rfl (lq rfl) (lq rfl) rfl; focus (intro hb; simp only [gd, Bool.and_eq_true, Bool.not_eq_true'] at hb; (try rw [hb.1]); (try rw [hb.2]); (try simp only [decide_eq_true_eq, decide_eq_false_iff_not, Bool.and_eq_true, Bool.or_eq_false_iff, Bool.not_eq_true'] at hb); first | exact a_move_d (lq rfl) rfl | exact a_move_row (lq rfl) rfl | exact a_move_ptr (lq rfl) rfl | exact a_move_ip (lq rfl) rfl | exact a_move_tup (lq rfl) rfl))
                first | (apply sq_g rfl rfl rfl (lq rfl) (lq rfl) rfl; focus (intro hb; simp only [gd, Bool.not_eq_true'] at hb; (try rw [hb]); (try simp only [decide_eq_true_eq, decide_eq_false_iff_not, Bool.and_eq_true, Bool.or_eq_false_iff, Bool.not_eq_true'] at hb); exact a_lss (lq rfl) rfl rfl)) | (apply sq_g2 rfl rfl rfl (lq rfl) (lq rfl) rfl; focus (intro hb; simp only [gd, Bool.and_eq_true, Bool.not_eq_true'] at hb; (try rw [hb.1]); (try rw [hb.2]); (try simp only [decide_eq_true_eq, decide_eq_false_iff_not, Bool.and_eq_true, Bool.or_eq_false_iff, Bool.not_eq_true'] at hb); exact a_lss (lq rfl) rfl rfl))
                first | (apply sq_g rfl rfl rfl (lq rfl) (lq rfl) rfl; focus (intro hb; simp only [gd, Bool.not_eq_true'] at hb; (try rw [hb]); (try simp only [decide_eq_true_eq, decide_eq_false_iff_not, Bool.and_eq_true, Bool.or_eq_false_iff, Bool.not_eq_true'] at hb); first | exact a_pick_or (lq rfl) rfl rfl | exact a_pick_td (lq rfl) rfl rfl | exact a_pick_fd (lq rfl) rfl rfl)) | (apply sq_g2 rfl rfl rfl (lq rfl) (lq rfl) rfl; focus (intro hb; simp only [gd, Bool.and_eq_true, Bool.not_eq_true'] at hb; (try rw [hb.1]); (try rw [hb.2]); (try simp only [decide_eq_true_eq, decide_eq_false_iff_not, Bool.and_eq_true, Bool.or_eq_false_iff, Bool.not_eq_true'] at hb); first | exact a_pick_or (lq rfl) rfl rfl | exact a_pick_td (lq rfl) rfl rfl | exact a_pick_fd (lq rfl) rfl rfl))
                first | refine sq_a (ag_plain rfl (a_pick_and (lq rfl) rfl rfl)) ?_ | refine sq_a (ag_plain rfl (a_pick_td (lq rfl) rfl rfl)) ?_ | refine sq_a (ag_plain rfl (a_pick_fd (lq rfl) rfl rfl)) ?_
                refine sq_nil ?_
                refine avc_if rfl ⟨fun hc4 => ?_, fun hc4 => ?_⟩
                ·
                  try simp only [Bool.and_eq_true, Bool.or_eq_true, Bool.not_eq_true', Bool.and_eq_false_iff, Bool.or_eq_false_iff, Bool.not_eq_false', decide_eq_true_eq, decide_eq_false_iff_not, Int.not_lt, Int.not_le] at hc4
                  refine avc_sq ?_
                  first | refine sq_a (ag_plain rfl (a_move_d (lq rfl) rfl)) ?_ | refine sq_a (ag_plain rfl (a_move_row (lq rfl) rfl)) ?_ | refine sq_a (ag_plain rfl (a_move_ptr (lq rfl) rfl)) ?_ | refine sq_a (ag_plain rfl (a_move_ip (lq rfl) rfl)) ?_ | refine sq_a (ag_plain rfl (a_move_tup (lq rfl) rfl)) ?_
                  first | refine sq_a (ag_plain rfl (a_move_d (lq rfl) rfl)) ?_ | refine sq_a (ag_plain rfl (a_move_row (lq rfl) rfl)) ?_ | refine sq_a (ag_plain rfl (a_move_ptr (lq rfl) rfl)) ?_ | refine sq_a (ag_plain rfl (a_move_ip (lq rfl) rfl)) ?_ | refine sq_a (ag_plain rfl (a_move_tup (lq rfl) rfl)) ?_
                  first | refine sq_a (ag_plain rfl (a_move_d (lq rfl) rfl)) ?_ | refine sq_a (ag_plain rfl (a_move_row (lq rfl) rfl)) ?_ | refine sq_a (ag_plain rfl (a_move_ptr (lq rfl) rfl)) ?_ | refine sq_a (ag_plain rfl (a_move_ip (lq rfl) rfl)) ?_ | refine sq_a (ag_plain rfl (a_move_tup (lq rfl) rfl)) ?_
                  refine sq_a (ag_plain rfl (a_rem (lq rfl) rfl rfl (by omega) (by omega))) ?_
                  refine sq_a (ag_plain rfl (a_add (lq rfl) rfl rfl (w64 (by omega) (by omega)))) ?_
                  refine sq_a (ag_plain rfl (a_sub (lq rfl) rfl rfl (w64 (by omega) (by omega)))) ?_
                  refine sq_a (ag_plain rfl (a_lit (lq rfl) S22 rfl rfl rfl rfl (by decide) rfl)) ?_
                  first | refine sq_b rfl (s_append_d (lq rfl) S22 rfl rfl rfl len_app2 (rfl : _ = 1 * 1) (by decide) (by omega) rfl rfl) ?_ | refine sq_b rfl (s_append_row (lq rfl) S22 rfl rfl rfl rfl len_app2 (rfl : _ = 1 * 1) (by decide) (by omega) rfl rfl) ?_ | refine sq_b rfl (s_append_d (lq rfl) S22 rfl rfl rfl len_map (rfl : _ = 1 * 1) (by decide) (by omega) rfl rfl) ?_ | refine sq_b rfl (s_append_row (lq rfl) S22 rfl rfl rfl rfl len_map (rfl : _ = 1 * 1) (by decide) (by omega) rfl rfl) ?_
                  first | refine sq_a (ag_plain rfl (a_assign_d (lq rfl) rfl)) ?_ | refine sq_a (ag_plain rfl (a_assign_row (lq rfl) rfl)) ?_ | refine sq_a (ag_plain rfl (a_assign_ptr (lq rfl) rfl)) ?_
                  refine sq_nil ?_
                  refine avc_exit ?_
                  first | refine loop_end (i := (i, o)) (j := ((i + k, o ++ List.replicate (k / 8) (common c + 7) ++ [common c + (k % 8 : Nat) - 1]) : Nat × List Int)) ?_ ?_ ?_ | refine loop_end (i := (i, o)) (K := fun _ _ => True) (j := ((i + k, o ++ List.replicate (k / 8) (common c + 7) ++ [common c + (k % 8 : Nat) - 1]) : Nat × List Int)) ?_ ?_ ?_
                  · exact ⟨by dsimp only; omega, ref_lo h2 h5 (fun hh => by rcases hc1 with h | h; omega; exact h) (by omega) (by omega) rfl, by dsimp only; simp; omega⟩
                  · show (plain l).length - _ < (plain l).length - i; dsimp only; omega
                  · refine weak_cov ⟨?_, ?_, ?_, ?_, trivial⟩ ⟨?_, trivial⟩ <;> (first | rfl | exact cov_int (by dsimp only; omega) | exact cov_row (by simp [flatDV, di]))
                ·
                  try simp only [Bool.and_eq_true, Bool.or_eq_true, Bool.not_eq_true', Bool.and_eq_false_iff, Bool.or_eq_false_iff, Bool.not_eq_false', decide_eq_true_eq, decide_eq_false_iff_not, Int.not_lt, Int.not_le] at hc4
                  refine avc_sq2 ?_
                  refine avc_sq ?_
                  first | refine sq_a (ag_plain rfl (a_move_d (lq rfl) rfl)) ?_ | refine sq_a (ag_plain rfl (a_move_row (lq rfl) rfl)) ?_ | refine sq_a (ag_plain rfl (a_move_ptr (lq rfl) rfl)) ?_ | refine sq_a (ag_plain rfl (a_move_ip (lq rfl) rfl)) ?_ | refine sq_a (ag_plain rfl (a_move_tup (lq rfl) rfl)) ?_
                  refine sq_a (ag_plain rfl (a_rem (lq rfl) rfl rfl (by omega) (by omega))) ?_
                  refine sq_a (ag_plain rfl (a_gtr (lq rfl) rfl rfl)) ?_
                  refine sq_nil ?_
                  refine avc_if rfl ⟨fun hc5 => ?_, fun hc5 => ?_⟩
                  ·
                    try simp only [Bool.and_eq_true, Bool.or_eq_true, Bool.not_eq_true', Bool.and_eq_false_iff, Bool.or_eq_false_iff, Bool.not_eq_false', decide_eq_true_eq, decide_eq_false_iff_not, Int.not_lt, Int.not_le] at hc5
                    refine avc_sq ?_
                    first | refine sq_a (ag_plain rfl (a_move_d (lq rfl) rfl)) ?_ | refine sq_a (ag_plain rfl (a_move_row (lq rfl) rfl)) ?_ | refine sq_a (ag_plain rfl (a_move_ptr (lq rfl) rfl)) ?_ | refine sq_a (ag_plain rfl (a_move_ip (lq rfl) rfl)) ?_ | refine sq_a (ag_plain rfl (a_move_tup (lq rfl) rfl)) ?_
                    first | refine sq_a (ag_plain rfl (a_move_d (lq rfl) rfl)) ?_ | refine sq_a (ag_plain rfl (a_move_row (lq rfl) rfl)) ?_ | refine sq_a (ag_plain rfl (a_move_ptr (lq rfl) rfl)) ?_ | refine sq_a (ag_plain rfl (a_move_ip (lq rfl) rfl)) ?_ | refine sq_a (ag_plain rfl (a_move_tup (lq rfl) rfl)) ?_
                    refine sq_a (ag_plain rfl (a_add (lq rfl) rfl rfl (w64 (by omega) (by omega)))) ?_
                    first | refine sq_a (ag_plain rfl (a_move_d (lq rfl) rfl)) ?_ | refine sq_a (ag_plain rfl (a_move_row (lq rfl) rfl)) ?_ | refine sq_a (ag_plain rfl (a_move_ptr (lq rfl) rfl)) ?_ | refine sq_a (ag_plain rfl (a_move_ip (lq rfl) rfl)) ?_ | refine sq_a (ag_plain rfl (a_move_tup (lq rfl) rfl)) ?_
                    refine sq_a (ag_plain rfl (a_rem (lq rfl) rfl rfl (by omega) (by omega))) ?_
                    refine sq_a (ag_plain rfl (a_sub (lq rfl) rfl rfl (w64 (by omega) (by omega)))) ?_
                    refine sq_a (ag_plain rfl (a_lit (lq rfl) S22 rfl rfl rfl rfl (by decide) rfl)) ?_
                    first | refine sq_b rfl (s_append_d (lq rfl) S22 rfl rfl rfl len_app2 (rfl : _ = 1 * 1) (by decide) (by omega) rfl rfl) ?_ | refine sq_b rfl (s_append_row (lq rfl) S22 rfl rfl rfl rfl len_app2 (rfl : _ = 1 * 1) (by decide) (by omega) rfl rfl) ?_ | refine sq_b rfl (s_append_d (lq rfl) S22 rfl rfl rfl len_map (rfl : _ = 1 * 1) (by decide) (by omega) rfl rfl) ?_ | refine sq_b rfl (s_append_row (lq rfl) S22 rfl rfl rfl rfl len_map (rfl : _ = 1 * 1) (by decide) (by omega) rfl rfl) ?_
                    first | refine sq_a (ag_plain rfl (a_assign_d (lq rfl) rfl)) ?_ | refine sq_a (ag_plain rfl (a_assign_row (lq rfl) rfl)) ?_ | refine sq_a (ag_plain rfl (a_assign_ptr (lq rfl) rfl)) ?_
                    refine sq_nil ?_
                    refine avc_exit ?_
                    first | refine loop_end (i := (i, o)) (j := ((i + k, o ++ List.replicate (k / 8) (common c + 7) ++ [common c + 15 - (k % 8 : Nat)]) : Nat × List Int)) ?_ ?_ ?_ | refine loop_end (i := (i, o)) (K := fun _ _ => True) (j := ((i + k, o ++ List.replicate (k / 8) (common c + 7) ++ [common c + 15 - (k % 8 : Nat)]) : Nat × List Int)) ?_ ?_ ?_
                    · exact ⟨by dsimp only; omega, ref_hi h2 h5 (fun hh => by rcases hc1 with h | h; omega; exact h) (by omega) (by omega) rfl, by dsimp only; simp; omega⟩
                    · show (plain l).length - _ < (plain l).length - i; dsimp only; omega
                    · refine weak_cov ⟨?_, ?_, ?_, ?_, trivial⟩ ⟨?_, trivial⟩ <;> (first | rfl | exact cov_int (by dsimp only; omega) | exact cov_row (by simp [flatDV, di]))
                  ·
                    try simp only [Bool.and_eq_true, Bool.or_eq_true, Bool.not_eq_true', Bool.and_eq_false_iff, Bool.or_eq_false_iff, Bool.not_eq_false', decide_eq_true_eq, decide_eq_false_iff_not, Int.not_lt, Int.not_le] at hc5
                    refine avc_skip ?_
                    refine avc_exit ?_
                    first | refine loop_end (i := (i, o)) (j := ((i + k, o ++ List.replicate (k / 8) (common c + 7)) : Nat × List Int)) ?_ ?_ ?_ | refine loop_end (i := (i, o)) (K := fun _ _ => True) (j := ((i + k, o ++ List.replicate (k / 8) (common c + 7)) : Nat × List Int)) ?_ ?_ ?_
                    · exact ⟨by dsimp only; omega, ref_z h2 h5 (fun hh => by rcases hc1 with h | h; omega; exact h) (by omega), by dsimp only; simp; omega⟩
                    · show (plain l).length - _ < (plain l).length - i; dsimp only; omega
                    · refine weak_cov ⟨?_, ?_, ?_, ?_, trivial⟩ ⟨?_, trivial⟩ <;> (first | rfl | exact cov_int (by dsimp only; omega) | exact cov_row (by simp [flatDV, di]))
          ·
            try simp only [Bool.and_eq_true, Bool.or_eq_true, Bool.not_eq_true', Bool.and_eq_false_iff, Bool.or_eq_false_iff, Bool.not_eq_false', decide_eq_true_eq, decide_eq_false_iff_not, Int.not_lt, Int.not_le] at hc2
            have hk0 : k = 0 := by omega
            subst hk0
            have hne : (plain l).getD i 0 ≠ common c := by rcases hc1 with h | h; omega; exact h
            have hpi := plain_in (getD_mem (l := plain l) (k := i) (by omega))
            refine avc_sq2 ?_
            refine avc_sq ?_
            first | refine sq_a (ag_plain rfl (a_move_d (lq rfl) rfl)) ?_ | refine sq_a (ag_plain rfl (a_move_row (lq rfl) rfl)) ?_ | refine sq_a (ag_plain rfl (a_move_ptr (lq rfl) rfl)) ?_ | refine sq_a (ag_plain rfl (a_move_ip (lq rfl) rfl)) ?_ | refine sq_a (ag_plain rfl (a_move_tup (lq rfl) rfl)) ?_
            first | refine sq_a (ag_plain rfl (a_move_d (lq rfl) rfl)) ?_ | refine sq_a (ag_plain rfl (a_move_row (lq rfl) rfl)) ?_ | refine sq_a (ag_plain rfl (a_move_ptr (lq rfl) rfl)) ?_ | refine sq_a (ag_plain rfl (a_move_ip (lq rfl) rfl)) ?_ | refine sq_a (ag_plain rfl (a_move_tup (lq rfl) rfl)) ?_
            first | refine sq_a (ag_plain rfl (a_index_d (lq rfl) S22 rfl rfl rfl len_app2 (by omega))) ?_ | refine sq_a (ag_plain rfl (a_index_d (lq rfl) S22 rfl rfl rfl len_map (by omega))) ?_ | refine sq_a (ag_plain rfl (a_index_row (lq rfl) S22 rfl rfl rfl rfl len_app2 (by omega))) ?_ | refine sq_a (ag_plain rfl (a_index_row (lq rfl) S22 rfl rfl rfl rfl len_map (by omega))) ?_ | refine sq_a (ag_plain rfl (a_index_d (lq rfl) S22 rfl rfl (ix_add1 _) len_app2 (by omega))) ?_ | refine sq_a (ag_plain rfl (a_index_d (lq rfl) S22 rfl rfl (ix_add1 _) len_map (by omega))) ?_ | refine sq_a (ag_plain rfl (a_index_row (lq rfl) S22 rfl rfl rfl (ix_add1 _) len_app2 (by omega))) ?_ | refine sq_a (ag_plain rfl (a_index_row (lq rfl) S22 rfl rfl rfl (ix_add1 _) len_map (by omega))) ?_ | refine sq_a (ag_plain rfl (a_index_d (lq rfl) S22 rfl rfl (ix_nat (by omega)) len_app2 (by omega))) ?_ | refine sq_a (ag_plain rfl (a_index_d (lq rfl) S22 rfl rfl (ix_nat (by omega)) len_map (by omega))) ?_ | refine sq_a (ag_plain rfl (a_index_row (lq rfl) S22 rfl rfl rfl (ix_nat (by omega)) len_app2 (by omega))) ?_ | refine sq_a (ag_plain rfl (a_index_row (lq rfl) S22 rfl rfl rfl (ix_nat (by omega)) len_map (by omega))) ?_
            first | refine sq_a (ag_plain rfl (a_load_box (lq rfl) O3 rfl rfl rfl)) ?_ | refine sq_a (ag_plain rfl (a_load_pt (lq rfl) O3 rfl rfl)) ?_ | refine sq_a (ag_plain rfl (a_load_ip (lq rfl) O3 rfl (get_map 0 (by omega)))) ?_ | refine sq_a (ag_plain rfl (a_load_row (lq rfl) O3 rfl rfl (get_map 0 (by omega)))) ?_
            first | refine sq_a (ag_plain rfl (a_move_d (lq rfl) rfl)) ?_ | refine sq_a (ag_plain rfl (a_move_row (lq rfl) rfl)) ?_ | refine sq_a (ag_plain rfl (a_move_ptr (lq rfl) rfl)) ?_ | refine sq_a (ag_plain rfl (a_move_ip (lq rfl) rfl)) ?_ | refine sq_a (ag_plain rfl (a_move_tup (lq rfl) rfl)) ?_
            refine sq_a (ag_plain rfl (a_lss (lq rfl) rfl rfl)) ?_
            first | refine sq_a (ag_plain rfl (a_assign_d (lq rfl) rfl)) ?_ | refine sq_a (ag_plain rfl (a_assign_row (lq rfl) rfl)) ?_ | refine sq_a (ag_plain rfl (a_assign_ptr (lq rfl) rfl)) ?_
            refine sq_nil ?_
            refine avc_if rfl ⟨fun hc6 => ?_, fun hc6 => ?_⟩
            ·
              try simp only [Bool.and_eq_true, Bool.or_eq_true, Bool.not_eq_true', Bool.and_eq_false_iff, Bool.or_eq_false_iff, Bool.not_eq_false', decide_eq_true_eq, decide_eq_false_iff_not, Int.not_lt, Int.not_le] at hc6
              refine avc_sq ?_
              first | refine sq_a (ag_plain rfl (a_move_d (lq rfl) rfl)) ?_ | refine sq_a (ag_plain rfl (a_move_row (lq rfl) rfl)) ?_ | refine sq_a (ag_plain rfl (a_move_ptr (lq rfl) rfl)) ?_ | refine sq_a (ag_plain rfl (a_move_ip (lq rfl) rfl)) ?_ | refine sq_a (ag_plain rfl (a_move_tup (lq rfl) rfl)) ?_
              first | refine sq_a (ag_plain rfl (a_move_d (lq rfl) rfl)) ?_ | refine sq_a (ag_plain rfl (a_move_row (lq rfl) rfl)) ?_ | refine sq_a (ag_plain rfl (a_move_ptr (lq rfl) rfl)) ?_ | refine sq_a (ag_plain rfl (a_move_ip (lq rfl) rfl)) ?_ | refine sq_a (ag_plain rfl (a_move_tup (lq rfl) rfl)) ?_
              first | refine sq_a (ag_plain rfl (a_move_d (lq rfl) rfl)) ?_ | refine sq_a (ag_plain rfl (a_move_row (lq rfl) rfl)) ?_ | refine sq_a (ag_plain rfl (a_move_ptr (lq rfl) rfl)) ?_ | refine sq_a (ag_plain rfl (a_move_ip (lq rfl) rfl)) ?_ | refine sq_a (ag_plain rfl (a_move_tup (lq rfl) rfl)) ?_
              first | refine sq_a (ag_plain rfl (a_index_d (lq rfl) S22 rfl rfl rfl len_app2 (by omega))) ?_ | refine sq_a (ag_plain rfl (a_index_d (lq rfl) S22 rfl rfl rfl len_map (by omega))) ?_ | refine sq_a (ag_plain rfl (a_index_row (lq rfl) S22 rfl rfl rfl rfl len_app2 (by omega))) ?_ | refine sq_a (ag_plain rfl (a_index_row (lq rfl) S22 rfl rfl rfl rfl len_map (by omega))) ?_ | refine sq_a (ag_plain rfl (a_index_d (lq rfl) S22 rfl rfl (ix_add1 _) len_app2 (by omega))) ?_ | refine sq_a (ag_plain rfl (a_index_d (lq rfl) S22 rfl rfl (ix_add1 _) len_map (by omega))) ?_ | refine sq_a (ag_plain rfl (a_index_row (lq rfl) S22 rfl rfl rfl (ix_add1 _) len_app2 (by omega))) ?_ | refine sq_a (ag_plain rfl (a_index_row (lq rfl) S22 rfl rfl rfl (ix_add1 _) len_map (by omega))) ?_ | refine sq_a (ag_plain rfl (a_index_d (lq rfl) S22 rfl rfl (ix_nat (by omega)) len_app2 (by omega))) ?_ | refine sq_a (ag_plain rfl (a_index_d (lq rfl) S22 rfl rfl (ix_nat (by omega)) len_map (by omega))) ?_ | refine sq_a (ag_plain rfl (a_index_row (lq rfl) S22 rfl rfl rfl (ix_nat (by omega)) len_app2 (by omega))) ?_ | refine sq_a (ag_plain rfl (a_index_row (lq rfl) S22 rfl rfl rfl (ix_nat (by omega)) len_map (by omega))) ?_
              first | refine sq_a (ag_plain rfl (a_load_box (lq rfl) O3 rfl rfl rfl)) ?_ | refine sq_a (ag_plain rfl (a_load_pt (lq rfl) O3 rfl rfl)) ?_ | refine sq_a (ag_plain rfl (a_load_ip (lq rfl) O3 rfl (get_map 0 (by omega)))) ?_ | refine sq_a (ag_plain rfl (a_load_row (lq rfl) O3 rfl rfl (get_map 0 (by omega)))) ?_
              refine sq_a (ag_plain rfl (a_lit (lq rfl) S22 rfl rfl rfl rfl (by decide) rfl)) ?_
              first | refine sq_b rfl (s_append_d (lq rfl) S22 rfl rfl rfl len_app2 (rfl : _ = 1 * 1) (by decide) (by omega) rfl rfl) ?_ | refine sq_b rfl (s_append_row (lq rfl) S22 rfl rfl rfl rfl len_app2 (rfl : _ = 1 * 1) (by decide) (by omega) rfl rfl) ?_ | refine sq_b rfl (s_append_d (lq rfl) S22 rfl rfl rfl len_map (rfl : _ = 1 * 1) (by decide) (by omega) rfl rfl) ?_ | refine sq_b rfl (s_append_row (lq rfl) S22 rfl rfl rfl rfl len_map (rfl : _ = 1 * 1) (by decide) (by omega) rfl rfl) ?_
              first | refine sq_a (ag_plain rfl (a_assign_d (lq rfl) rfl)) ?_ | refine sq_a (ag_plain rfl (a_assign_row (lq rfl) rfl)) ?_ | refine sq_a (ag_plain rfl (a_assign_ptr (lq rfl) rfl)) ?_
              refine sq_nil ?_
              refine avc_sq ?_
              first | refine sq_a (ag_plain rfl (a_move_d (lq rfl) rfl)) ?_ | refine sq_a (ag_plain rfl (a_move_row (lq rfl) rfl)) ?_ | refine sq_a (ag_plain rfl (a_move_ptr (lq rfl) rfl)) ?_ | refine sq_a (ag_plain rfl (a_move_ip (lq rfl) rfl)) ?_ | refine sq_a (ag_plain rfl (a_move_tup (lq rfl) rfl)) ?_
              refine sq_a (ag_plain rfl (a_add (lq rfl) rfl rfl (w64 (by omega) (by omega)))) ?_
              first | refine sq_a (ag_plain rfl (a_assign_d (lq rfl) rfl)) ?_ | refine sq_a (ag_plain rfl (a_assign_row (lq rfl) rfl)) ?_ | refine sq_a (ag_plain rfl (a_assign_ptr (lq rfl) rfl)) ?_
              refine sq_nil ?_
              first | refine loop_end (i := (i, o)) (j := ((i + 1, o ++ [(plain l).getD i 0]) : Nat × List Int)) ?_ ?_ ?_ | refine loop_end (i := (i, o)) (K := fun _ _ => True) (j := ((i + 1, o ++ [(plain l).getD i 0]) : Nat × List Int)) ?_ ?_ ?_
              · exact ⟨by dsimp only; omega, ref_one h2 (by omega) hne (by rw [if_pos (by omega)]), by dsimp only; simp; omega⟩
              · show (plain l).length - _ < (plain l).length - i; dsimp only; omega
              · refine weak_cov ⟨?_, ?_, ?_, ?_, trivial⟩ ⟨?_, trivial⟩ <;> (first | rfl | exact cov_int (by dsimp only; omega) | exact cov_row (by simp [flatDV, di]))
            ·
              try simp only [Bool.and_eq_true, Bool.or_eq_true, Bool.not_eq_true', Bool.and_eq_false_iff, Bool.or_eq_false_iff, Bool.not_eq_false', decide_eq_true_eq, decide_eq_false_iff_not, Int.not_lt, Int.not_le] at hc6
              refine avc_sq ?_
              first | refine sq_a (ag_plain rfl (a_move_d (lq rfl) rfl)) ?_ | refine sq_a (ag_plain rfl (a_move_row (lq rfl) rfl)) ?_ | refine sq_a (ag_plain rfl (a_move_ptr (lq rfl) rfl)) ?_ | refine sq_a (ag_plain rfl (a_move_ip (lq rfl) rfl)) ?_ | refine sq_a (ag_plain rfl (a_move_tup (lq rfl) rfl)) ?_
              first | refine sq_a (ag_plain rfl (a_move_d (lq rfl) rfl)) ?_ | refine sq_a (ag_plain rfl (a_move_row (lq rfl) rfl)) ?_ | refine sq_a (ag_plain rfl (a_move_ptr (lq rfl) rfl)) ?_ | refine sq_a (ag_plain rfl (a_move_ip (lq rfl) rfl)) ?_ | refine sq_a (ag_plain rfl (a_move_tup (lq rfl) rfl)) ?_
              first | refine sq_a (ag_plain rfl (a_move_d (lq rfl) rfl)) ?_ | refine sq_a (ag_plain rfl (a_move_row (lq rfl) rfl)) ?_ | refine sq_a (ag_plain rfl (a_move_ptr (lq rfl) rfl)) ?_ | refine sq_a (ag_plain rfl (a_move_ip (lq rfl) rfl)) ?_ | refine sq_a (ag_plain rfl (a_move_tup (lq rfl) rfl)) ?_
              first | refine sq_a (ag_plain rfl (a_index_d (lq rfl) S22 rfl rfl rfl len_app2 (by omega))) ?_ | refine sq_a (ag_plain rfl (a_index_d (lq rfl) S22 rfl rfl rfl len_map (by omega))) ?_ | refine sq_a (ag_plain rfl (a_index_row (lq rfl) S22 rfl rfl rfl rfl len_app2 (by omega))) ?_ | refine sq_a (ag_plain rfl (a_index_row (lq rfl) S22 rfl rfl rfl rfl len_map (by omega))) ?_ | refine sq_a (ag_plain rfl (a_index_d (lq rfl) S22 rfl rfl (ix_add1 _) len_app2 (by omega))) ?_ | refine sq_a (ag_plain rfl (a_index_d (lq rfl) S22 rfl rfl (ix_add1 _) len_map (by omega))) ?_ | refine sq_a (ag_plain rfl (a_index_row (lq rfl) S22 rfl rfl rfl (ix_add1 _) len_app2 (by omega))) ?_ | refine sq_a (ag_plain rfl (a_index_row (lq rfl) S22 rfl rfl rfl (ix_add1 _) len_map (by omega))) ?_ | refine sq_a (ag_plain rfl (a_index_d (lq rfl) S22 rfl rfl (ix_nat (by omega)) len_app2 (by omega))) ?_ | refine sq_a (ag_plain rfl (a_index_d (lq rfl) S22 rfl rfl (ix_nat (by omega)) len_map (by omega))) ?_ | refine sq_a (ag_plain rfl (a_index_row (lq rfl) S22 rfl rfl rfl (ix_nat (by omega)) len_app2 (by omega))) ?_ | refine sq_a (ag_plain rfl (a_index_row (lq rfl) S22 rfl rfl rfl (ix_nat (by omega)) len_map (by omega))) ?_
              first | refine sq_a (ag_plain rfl (a_load_box (lq rfl) O3 rfl rfl rfl)) ?_ | refine sq_a (ag_plain rfl (a_load_pt (lq rfl) O3 rfl rfl)) ?_ | refine sq_a (ag_plain rfl (a_load_ip (lq rfl) O3 rfl (get_map 0 (by omega)))) ?_ | refine sq_a (ag_plain rfl (a_load_row (lq rfl) O3 rfl rfl (get_map 0 (by omega)))) ?_
              refine sq_a (ag_plain rfl (a_add (lq rfl) rfl rfl (w64 (by omega) (by omega)))) ?_
              refine sq_a (ag_plain rfl (a_lit (lq rfl) S22 rfl rfl rfl rfl (by decide) rfl)) ?_
              first | refine sq_b rfl (s_append_d (lq rfl) S22 rfl rfl rfl len_app2 (rfl : _ = 1 * 1) (by decide) (by omega) rfl rfl) ?_ | refine sq_b rfl (s_append_row (lq rfl) S22 rfl rfl rfl rfl len_app2 (rfl : _ = 1 * 1) (by decide) (by omega) rfl rfl) ?_ | refine sq_b rfl (s_append_d (lq rfl) S22 rfl rfl rfl len_map (rfl : _ = 1 * 1) (by decide) (by omega) rfl rfl) ?_ | refine sq_b rfl (s_append_row (lq rfl) S22 rfl rfl rfl rfl len_map (rfl : _ = 1 * 1) (by decide) (by omega) rfl rfl) ?_
              first | refine sq_a (ag_plain rfl (a_assign_d (lq rfl) rfl)) ?_ | refine sq_a (ag_plain rfl (a_assign_row (lq rfl) rfl)) ?_ | refine sq_a (ag_plain rfl (a_assign_ptr (lq rfl) rfl)) ?_
              refine sq_nil ?_
              refine avc_sq ?_
              first | refine sq_a (ag_plain rfl (a_move_d (lq rfl) rfl)) ?_ | refine sq_a (ag_plain rfl (a_move_row (lq rfl) rfl)) ?_ | refine sq_a (ag_plain rfl (a_move_ptr (lq rfl) rfl)) ?_ | refine sq_a (ag_plain rfl (a_move_ip (lq rfl) rfl)) ?_ | refine sq_a (ag_plain rfl (a_move_tup (lq rfl) rfl)) ?_
              refine sq_a (ag_plain rfl (a_add (lq rfl) rfl rfl (w64 (by omega) (by omega)))) ?_
              first | refine sq_a (ag_plain rfl (a_assign_d (lq rfl) rfl)) ?_ | refine sq_a (ag_plain rfl (a_assign_row (lq rfl) rfl)) ?_ | refine sq_a (ag_plain rfl (a_assign_ptr (lq rfl) rfl)) ?_
              refine sq_nil ?_
              first | refine loop_end (i := (i, o)) (j := ((i + 1, o ++ [(plain l).getD i 0 + 14]) : Nat × List Int)) ?_ ?_ ?_ | refine loop_end (i := (i, o)) (K := fun _ _ => True) (j := ((i + 1, o ++ [(plain l).getD i 0 + 14]) : Nat × List Int)) ?_ ?_ ?_
              · exact ⟨by dsimp only; omega, ref_one h2 (by omega) hne (by rw [if_neg (by omega)]), by dsimp only; simp; omega⟩
              · show (plain l).length - _ < (plain l).length - i; dsimp only; omega
              · refine weak_cov ⟨?_, ?_, ?_, ?_, trivial⟩ ⟨?_, trivial⟩ <;> (first | rfl | exact cov_int (by dsimp only; omega) | exact cov_row (by simp [flatDV, di]))
    ·
      try simp only [Bool.and_eq_true, Bool.or_eq_true, Bool.not_eq_true', Bool.and_eq_false_iff, Bool.or_eq_false_iff, Bool.not_eq_false', decide_eq_true_eq, decide_eq_false_iff_not, Int.not_lt, Int.not_le] at hc0
      refine avc_exit ?_
      refine avc_sq2 ?_
      refine avc_sq ?_
      first | refine sq_a (ag_plain rfl (a_move_d (lq rfl) rfl)) ?_ | refine sq_a (ag_plain rfl (a_move_row (lq rfl) rfl)) ?_ | refine sq_a (ag_plain rfl (a_move_ptr (lq rfl) rfl)) ?_ | refine sq_a (ag_plain rfl (a_move_ip (lq rfl) rfl)) ?_ | refine sq_a (ag_plain rfl (a_move_tup (lq rfl) rfl)) ?_
      first | refine sq_a (ag_plain rfl (a_assign_d (lq rfl) rfl)) ?_ | refine sq_a (ag_plain rfl (a_assign_row (lq rfl) rfl)) ?_ | refine sq_a (ag_plain rfl (a_assign_ptr (lq rfl) rfl)) ?_
      refine sq_nil ?_
      refine avc_ret ?_
      exact ret_row rfl rfl (by rw [ref_end h2 (by omega)])

theorem refBytes_c (l : List Int) (c : Int) (hl : l.length < 134217728) : Contract Try.prog 13 [.ints l, di c] [di ((strOfNums (vbs (pk (common c) (plain l)))).size : Nat)] := by
  have hpk := pk_le (common c) (plain l)
  have hpl : (plain l).length = l.length := by simp [plain]
  refine contract_of Try.func13 (by kernel_rfl) rfl (lq rfl) (lq rfl) fun w0 I0 => ?_
  refine avc_sq2 ?_
  refine avc_sq ?_
  refine sq_a (ag_plain rfl (a_assign_d (lq rfl) rfl)) ?_
  refine sq_nil ?_
  refine avc_sq2 ?_
  refine avc_sq ?_
  first | refine sq_a (ag_plain rfl (a_move_d (lq rfl) rfl)) ?_ | refine sq_a (ag_plain rfl (a_move_row (lq rfl) rfl)) ?_ | refine sq_a (ag_plain rfl (a_move_ptr (lq rfl) rfl)) ?_ | refine sq_a (ag_plain rfl (a_move_ip (lq rfl) rfl)) ?_ | refine sq_a (ag_plain rfl (a_move_tup (lq rfl) rfl)) ?_
  first | refine sq_a (ag_plain rfl (a_move_d (lq rfl) rfl)) ?_ | refine sq_a (ag_plain rfl (a_move_row (lq rfl) rfl)) ?_ | refine sq_a (ag_plain rfl (a_move_ptr (lq rfl) rfl)) ?_ | refine sq_a (ag_plain rfl (a_move_ip (lq rfl) rfl)) ?_ | refine sq_a (ag_plain rfl (a_move_tup (lq rfl) rfl)) ?_
  refine sq_a (ag_plain rfl (a_call (lq rfl) rfl (refPack_c _ _ (by omega)))) ?_
  refine sq_a (ag_plain rfl (a_call (lq rfl) rfl (refVarint_c _ (by omega)))) ?_
  refine sq_a (ag_plain rfl (a_len_str (lq rfl) Try.underlying9 rfl)) ?_
  first | refine sq_a (ag_plain rfl (a_assign_d (lq rfl) rfl)) ?_ | refine sq_a (ag_plain rfl (a_assign_row (lq rfl) rfl)) ?_ | refine sq_a (ag_plain rfl (a_assign_ptr (lq rfl) rfl)) ?_
  refine sq_nil ?_
  refine avc_ret ?_
  exact ret_int rfl rfl
end Go.Proofs.Ytdelglnpgpaaiaa.Walk

/- The layer of abstract values: what a temporary holds, said once; every rule of it is proved from the model. Conditions: none. -/
import Derived.Test.YtdelglnpgpaaiaaKpOrd
import Derived.Test.YtdelglnpgpaaiaaAv15
import Derived.Test.YtdelglnpgpaaiaaTop
import Derived.Test.YtdelglnpgpaaiaaProg
set_option linter.unusedSimpArgs false
set_option linter.unusedVariables false
set_option linter.unnecessarySimpa false
namespace Go.Proofs.Ytdelglnpgpaaiaa.Walk
open Go.AV Go.RowKit Go.Proofs Go.Plain
theorem O3 : OneTy Try.prog 3 := OneTy.of Try.underlying3 rfl (by kernel_rfl)
theorem O22 : OneTy Try.prog 22 := OneTy.of Try.underlying22 rfl (by kernel_rfl)
theorem S22 : SlTy Try.prog 22 3 1 8 (.int IntKind.i64 (0)) := SlTy.of Try.underlying22 (by kernel_rfl) rfl (by decide) rfl
theorem S42 : SlTy Try.prog 42 5 1 1 (.int IntKind.u8 (0)) := SlTy.of Try.underlying42 (by kernel_rfl) rfl (by decide) rfl
theorem MX : Try.prog.follows .mixedOrders = true := by kernel_rfl
def du (n : Int) : DV := .v (.int .u64 n)
theorem refCompare_c (a b : List Int) (ha : a.length ≤ 1152921504606846976) (hb : b.length ≤ 1152921504606846976) : Contract Try.prog 16 [.ints a, .ints b] [di (cmpL a b)] := by
  refine contract_of Try.func16 (by kernel_rfl) rfl (lq rfl) (lq rfl) fun w0 I0 => ?_
  refine avc_sq2 ?_
  refine avc_sq ?_
  refine sq_a (ag_plain rfl (a_assign_d (lq rfl) rfl)) ?_
  refine sq_nil ?_
  refine avc_sq2 ?_
  refine avc_sq2 ?_
  refine avc_sq ?_
  refine sq_a (ag_plain rfl (a_assign_d (lq rfl) rfl)) ?_
  refine sq_nil ?_
  refine avc_block ?_
  refine avc_loop (ι := Nat) (fun k => ⟨[(0, .d (.ints a)), (1, .d (.ints b)), (5, .d (di k))], []⟩) (fun k => k ≤ a.length ∧ k ≤ b.length ∧ cmpL a b = cmpL (a.drop k) (b.drop k)) (fun k => a.length - k) 0 ?_ ?_ ?_
  · exact ⟨by omega, by omega, rfl⟩
  · refine weak_cov ⟨?_, ?_, ?_, trivial⟩ trivial <;> (first | rfl | exact cov_int (by omega) | exact cov_row (by simp [di, flatDV]))
  · rintro k hp
    obtain ⟨h1, h2, h3⟩ := hp
    refine avc_sq2 ?_
    refine avc_sq2 ?_
    refine avc_sq ?_
    first | refine sq_a (ag_plain rfl (a_move_d (lq rfl) rfl)) ?_ | refine sq_a (ag_plain rfl (a_move_row (lq rfl) rfl)) ?_ | refine sq_a (ag_plain rfl (a_move_ptr (lq rfl) rfl)) ?_ | refine sq_a (ag_plain rfl (a_move_ip (lq rfl) rfl)) ?_ | refine sq_a (ag_plain rfl (a_move_tup (lq rfl) rfl)) ?_
    first | refine sq_a (ag_plain rfl (a_move_d (lq rfl) rfl)) ?_ | refine sq_a (ag_plain rfl (a_move_row (lq rfl) rfl)) ?_ | refine sq_a (ag_plain rfl (a_move_ptr (lq rfl) rfl)) ?_ | refine sq_a (ag_plain rfl (a_move_ip (lq rfl) rfl)) ?_ | refine sq_a (ag_plain rfl (a_move_tup (lq rfl) rfl)) ?_
    first | refine sq_a (ag_plain rfl (a_len_d (lq rfl) S22 rfl len_map)) ?_ | refine sq_a (ag_plain rfl (a_len_row (lq rfl) S22 rfl rfl len_map)) ?_ | refine sq_a (ag_plain rfl (a_len_nil (lq rfl) Try.underlying22 rfl)) ?_
    refine sq_a (ag_plain rfl (a_lss (lq rfl) rfl rfl)) ?_
    first | refine sq_a (ag_plain rfl (a_move_d (lq rfl) rfl)) ?_ | refine sq_a (ag_plain rfl (a_move_row (lq rfl) rfl)) ?_ | refine sq_a (ag_plain rfl (a_move_ptr (lq rfl) rfl)) ?_ | refine sq_a (ag_plain rfl (a_move_ip (lq rfl) rfl)) ?_ | refine sq_a (ag_plain rfl (a_move_tup (lq rfl) rfl)) ?_
    first | (apply sq_g rfl rfl rfl (lq rfl) (lq rfl) rfl; focus (intro hb; simp only [gd, Bool.not_eq_true'] at hb; (try rw [hb]); (try simp only [decide_eq_true_eq, decide_eq_false_iff_not, Bool.and_eq_true, Bool.or_eq_false_iff, Bool.not_eq_true'] at hb); first | exact a_move_d (lq rfl) rfl | exact a_move_row (lq rfl) rfl | exact a_move_ptr (lq rfl) rfl | exact a_move_ip (lq rfl) rfl | exact a_move_tup (lq rfl) rfl)) | (apply sq_g2 rfl rfl rfl (lq rfl) (lq rfl) rfl; focus (intro hb; simp only [gd, Bool.and_eq_true, Bool.not_eq_true'] at hb; (try rw [hb.1]); (try rw [hb.2]); (try simp only [decide_eq_true_eq, decide_eq_false_iff_not, Bool.and_eq_true, Bool.or_eq_false_iff, Bool.not_eq_true'] at hb); first | exact a_move_d (lq rfl) rfl | exact a_move_row (lq rfl) rfl | exact a_move_ptr (lq rfl) rfl | exact a_move_ip (lq rfl) rfl | exact a_move_tup (lq rfl) rfl))
    first | (apply sq_g rfl rfl rfl (lq rfl) (lq rfl) rfl; focus (intro hb; simp only [gd, Bool.not_eq_true'] at hb; (try rw [hb]); (try simp only [decide_eq_true_eq, decide_eq_false_iff_not, Bool.and_eq_true, Bool.or_eq_false_iff, Bool.not_eq_true'] at hb); first | exact a_move_d (lq rfl) rfl | exact a_move_row (lq rfl) rfl | exact a_move_ptr (lq rfl) rfl | exact a_move_ip (lq rfl) rfl | exact a_move_tup (lq rfl) rfl)) | (apply sq_g2 rfl rfl rfl (lq rfl) (lq rfl) rfl; focus (intro hb; simp only [gd, Bool.and_eq_true, Bool.not_eq_true'] at hb; (try rw [hb.1]); (try rw [hb.2]); (try simp only [decide_eq_true_eq, decide_eq_false_iff_not, Bool.and_eq_true, Bool.or_eq_false_iff, Bool.not_eq_true'] at hb); first | exact a_move_d (lq rfl) rfl | exact a_move_row (lq rfl) rfl | exact a_move_ptr (lq rfl) rfl | exact a_move_ip (lq rfl) rfl | exact a_move_tup (lq rfl) rfl))
    first | (apply sq_g rfl rfl rfl (lq rfl) (lq rfl) rfl; focus (intro hb; simp only [gd, Bool.not_eq_true'] at hb; (try rw [hb]); (try simp only [decide_eq_true_eq, decide_eq_false_iff_not, Bool.and_eq_true, Bool.or_eq_false_iff, Bool.not_eq_true'] at hb); first | exact a_len_d (lq rfl) S22 rfl len_map | exact a_len_row (lq rfl) S22 rfl rfl len_map | exact a_len_nil (lq rfl) Try.underlying22 rfl)) | (apply sq_g2 rfl rfl rfl (lq rfl) (lq rfl) rfl; focus (intro hb; simp only [gd, Bool.and_eq_true, Bool.not_eq_true'] at hb; (try rw [hb.1]); (try rw [hb.2]); (try simp only [decide_eq_true_eq, decide_eq_false_iff_not, Bool.and_eq_true, Bool.or_eq_false_iff, Bool.not_eq_true'] at hb); first | exact a_len_d (lq rfl) S22 rfl len_map | exact a_len_row (lq rfl) S22 rfl rfl len_map | exact a_len_nil (lq rfl) Try.underlying22 rfl))
    first | (apply sq_g rfl rfl rfl (lq rfl) (lq rfl) rfl; focus (intro hb; simp only [gd, Bool.not_eq_true'] at hb; (try rw [hb]); (try simp only [decide_eq_true_eq, decide_eq_false_iff_not, Bool.and_eq_true, Bool.or_eq_false_iff, Bool.not_eq_true'] at hb); exact a_lss (lq rfl) rfl rfl)) | (apply sq_g2 rfl rfl rfl (lq rfl) (lq rfl) rfl; focus (intro hb; simp only [gd, Bool.and_eq_true, Bool.not_eq_true'] at hb; (try rw [hb.1]); (try rw [hb.2]); (try simp only [decide_eq_true_eq, decide_eq_false_iff_not, Bool.and_eq_true, Bool.or_eq_false_iff, Bool.not_eq_true'] at hb); exact a_lss (lq rfl) rfl rfl))
    first | refine sq_a (ag_plain rfl (a_pick_and (lq rfl) rfl rfl)) ?_ | refine sq_a (ag_plain rfl (a_pick_td (lq rfl) rfl rfl)) ?_ | refine sq_a (ag_plain rfl (a_pick_fd (lq rfl) rfl rfl)) ?_
    refine sq_nil ?_
    refine avc_if rfl ⟨fun hc0 => ?_, fun hc0 => ?_⟩
    ·
      try simp only [Bool.and_eq_true, Bool.or_eq_true, Bool.not_eq_true', Bool.and_eq_false_iff, Bool.or_eq_false_iff, Bool.not_eq_false', decide_eq_true_eq, decide_eq_false_iff_not, Int.not_lt, Int.not_le] at hc0
      refine avc_skip ?_
      refine avc_sq2 ?_
      refine avc_block ?_
      refine avc_sq2 ?_
      refine avc_sq2 ?_
      refine avc_drawA MX rfl ?_
      first | refine da_a (ag_plain rfl (a_move_d (lq rfl) rfl)) ?_ | refine da_a (ag_plain rfl (a_move_row (lq rfl) rfl)) ?_ | refine da_a (ag_plain rfl (a_move_ptr (lq rfl) rfl)) ?_ | refine da_a (ag_plain rfl (a_move_ip (lq rfl) rfl)) ?_ | refine da_a (ag_plain rfl (a_move_tup (lq rfl) rfl)) ?_
      first | refine da_a (ag_plain rfl (a_move_d (lq rfl) rfl)) ?_ | refine da_a (ag_plain rfl (a_move_row (lq rfl) rfl)) ?_ | refine da_a (ag_plain rfl (a_move_ptr (lq rfl) rfl)) ?_ | refine da_a (ag_plain rfl (a_move_ip (lq rfl) rfl)) ?_ | refine da_a (ag_plain rfl (a_move_tup (lq rfl) rfl)) ?_
      first | refine da_a (ag_plain rfl (a_index_d (lq rfl) S22 rfl rfl rfl len_map (by omega))) ?_ | refine da_a (ag_plain rfl (a_index_row (lq rfl) S22 rfl rfl rfl rfl len_map (by omega))) ?_ | refine da_a (ag_plain rfl (a_index_d (lq rfl) S22 rfl rfl (ix_add1 _) len_map (by omega))) ?_ | refine da_a (ag_plain rfl (a_index_row (lq rfl) S22 rfl rfl rfl (ix_add1 _) len_map (by omega))) ?_ | refine da_a (ag_plain rfl (a_index_d (lq rfl) S22 rfl rfl (ix_nat (by omega)) len_map (by omega))) ?_ | refine da_a (ag_plain rfl (a_index_row (lq rfl) S22 rfl rfl rfl (ix_nat (by omega)) len_map (by omega))) ?_
      first | refine da_a (ag_plain rfl (a_load_box (lq rfl) O3 rfl rfl rfl)) ?_ | refine da_a (ag_plain rfl (a_load_pt (lq rfl) O3 rfl rfl)) ?_ | refine da_a (ag_plain rfl (a_load_ip (lq rfl) O3 rfl (get_map 0 (by omega)))) ?_ | refine da_a (ag_plain rfl (a_load_row (lq rfl) O3 rfl rfl (get_map 0 (by omega)))) ?_
      first | refine da_a (ag_plain rfl (a_move_d (lq rfl) rfl)) ?_ | refine da_a (ag_plain rfl (a_move_row (lq rfl) rfl)) ?_ | refine da_a (ag_plain rfl (a_move_ptr (lq rfl) rfl)) ?_ | refine da_a (ag_plain rfl (a_move_ip (lq rfl) rfl)) ?_ | refine da_a (ag_plain rfl (a_move_tup (lq rfl) rfl)) ?_
      first | refine da_a (ag_plain rfl (a_move_d (lq rfl) rfl)) ?_ | refine da_a (ag_plain rfl (a_move_row (lq rfl) rfl)) ?_ | refine da_a (ag_plain rfl (a_move_ptr (lq rfl) rfl)) ?_ | refine da_a (ag_plain rfl (a_move_ip (lq rfl) rfl)) ?_ | refine da_a (ag_plain rfl (a_move_tup (lq rfl) rfl)) ?_
      first | refine da_a (ag_plain rfl (a_index_d (lq rfl) S22 rfl rfl rfl len_map (by omega))) ?_ | refine da_a (ag_plain rfl (a_index_row (lq rfl) S22 rfl rfl rfl rfl len_map (by omega))) ?_ | refine da_a (ag_plain rfl (a_index_d (lq rfl) S22 rfl rfl (ix_add1 _) len_map (by omega))) ?_ | refine da_a (ag_plain rfl (a_index_row (lq rfl) S22 rfl rfl rfl (ix_add1 _) len_map (by omega))) ?_ | refine da_a (ag_plain rfl (a_index_d (lq rfl) S22 rfl rfl (ix_nat (by omega)) len_map (by omega))) ?_ | refine da_a (ag_plain rfl (a_index_row (lq rfl) S22 rfl rfl rfl (ix_nat (by omega)) len_map (by omega))) ?_
      first | refine da_a (ag_plain rfl (a_load_box (lq rfl) O3 rfl rfl rfl)) ?_ | refine da_a (ag_plain rfl (a_load_pt (lq rfl) O3 rfl rfl)) ?_ | refine da_a (ag_plain rfl (a_load_ip (lq rfl) O3 rfl (get_map 0 (by omega)))) ?_ | refine da_a (ag_plain rfl (a_load_row (lq rfl) O3 rfl rfl (get_map 0 (by omega)))) ?_
      refine da_a (ag_plain rfl (a_lss (lq rfl) rfl rfl)) ?_
      refine da_nil ?_
      refine avc_if rfl ⟨fun hc1 => ?_, fun hc1 => ?_⟩
      ·
        try simp only [Bool.and_eq_true, Bool.or_eq_true, Bool.not_eq_true', Bool.and_eq_false_iff, Bool.or_eq_false_iff, Bool.not_eq_false', decide_eq_true_eq, decide_eq_false_iff_not, Int.not_lt, Int.not_le] at hc1
        refine avc_sq2 ?_
        refine avc_sq ?_
        refine sq_a (ag_plain rfl (a_assign_d (lq rfl) rfl)) ?_
        refine sq_nil ?_
        refine avc_ret ?_
        exact ret_int rfl (by rw [h3, cmp_step (by omega) (by omega), if_pos (by omega)])
      ·
        try simp only [Bool.and_eq_true, Bool.or_eq_true, Bool.not_eq_true', Bool.and_eq_false_iff, Bool.or_eq_false_iff, Bool.not_eq_false', decide_eq_true_eq, decide_eq_false_iff_not, Int.not_lt, Int.not_le] at hc1
        refine avc_skip ?_
        refine avc_sq2 ?_
        refine avc_drawA MX rfl ?_
        first | refine da_a (ag_plain rfl (a_move_d (lq rfl) rfl)) ?_ | refine da_a (ag_plain rfl (a_move_row (lq rfl) rfl)) ?_ | refine da_a (ag_plain rfl (a_move_ptr (lq rfl) rfl)) ?_ | refine da_a (ag_plain rfl (a_move_ip (lq rfl) rfl)) ?_ | refine da_a (ag_plain rfl (a_move_tup (lq rfl) rfl)) ?_
        first | refine da_a (ag_plain rfl (a_move_d (lq rfl) rfl)) ?_ | refine da_a (ag_plain rfl (a_move_row (lq rfl) rfl)) ?_ | refine da_a (ag_plain rfl (a_move_ptr (lq rfl) rfl)) ?_ | refine da_a (ag_plain rfl (a_move_ip (lq rfl) rfl)) ?_ | refine da_a (ag_plain rfl (a_move_tup (lq rfl) rfl)) ?_
        first | refine da_a (ag_plain rfl (a_index_d (lq rfl) S22 rfl rfl rfl len_map (by omega))) ?_ | refine da_a (ag_plain rfl (a_index_row (lq rfl) S22 rfl rfl rfl rfl len_map (by omega))) ?_ | refine da_a (ag_plain rfl (a_index_d (lq rfl) S22 rfl rfl (ix_add1 _) len_map (by omega))) ?_ | refine da_a (ag_plain rfl (a_index_row (lq rfl) S22 rfl rfl rfl (ix_add1 _) len_map (by omega))) ?_ | refine da_a (ag_plain rfl (a_index_d (lq rfl) S22 rfl rfl (ix_nat (by omega)) len_map (by omega))) ?_ | refine da_a (ag_plain rfl (a_index_row (lq rfl) S22 rfl rfl rfl (ix_nat (by omega)) len_map (by omega))) ?_
        first | refine da_a (ag_plain rfl (a_load_box (lq rfl) O3 rfl rfl rfl)) ?_ | refine da_a (ag_plain rfl (a_load_pt (lq rfl) O3 rfl rfl)) ?_ | refine da_a (ag_plain rfl (a_load_ip (lq rfl) O3 rfl (get_map 0 (by omega)))) ?_ | refine da_a (ag_plain rfl (a_load_row (lq rfl) O3 rfl rfl (get_map 0 (by omega)))) ?_
        first | refine da_a (ag_plain rfl (a_move_d (lq rfl) rfl)) ?_ | refine da_a (ag_plain rfl (a_move_row (lq rfl) rfl)) ?_ | refine da_a (ag_plain rfl (a_move_ptr (lq rfl) rfl)) ?_ | refine da_a (ag_plain rfl (a_move_ip (lq rfl) rfl)) ?_ | refine da_a (ag_plain rfl (a_move_tup (lq rfl) rfl)) ?_
        first | refine da_a (ag_plain rfl (a_move_d (lq rfl) rfl)) ?_ | refine da_a (ag_plain rfl (a_move_row (lq rfl) rfl)) ?_ | refine da_a (ag_plain rfl (a_move_ptr (lq rfl) rfl)) ?_ | refine da_a (ag_plain rfl (a_move_ip (lq rfl) rfl)) ?_ | refine da_a (ag_plain rfl (a_move_tup (lq rfl) rfl)) ?_
        first | refine da_a (ag_plain rfl (a_index_d (lq rfl) S22 rfl rfl rfl len_map (by omega))) ?_ | refine da_a (ag_plain rfl (a_index_row (lq rfl) S22 rfl rfl rfl rfl len_map (by omega))) ?_ | refine da_a (ag_plain rfl (a_index_d (lq rfl) S22 rfl rfl (ix_add1 _) len_map (by omega))) ?_ | refine da_a (ag_plain rfl (a_index_row (lq rfl) S22 rfl rfl rfl (ix_add1 _) len_map (by omega))) ?_ | refine da_a (ag_plain rfl (a_index_d (lq rfl) S22 rfl rfl (ix_nat (by omega)) len_map (by omega))) ?_ | refine da_a (ag_plain rfl (a_index_row (lq rfl) S22 rfl rfl rfl (ix_nat (by omega)) len_map (by omega))) ?_
        first | refine da_a (ag_plain rfl (a_load_box (lq rfl) O3 rfl rfl rfl)) ?_ | refine da_a (ag_plain rfl (a_load_pt (lq rfl) O3 rfl rfl)) ?_ | refine da_a (ag_plain rfl (a_load_ip (lq rfl) O3 rfl (get_map 0 (by omega)))) ?_ | refine da_a (ag_plain rfl (a_load_row (lq rfl) O3 rfl rfl (get_map 0 (by omega)))) ?_
        refine da_a (ag_plain rfl (a_gtr (lq rfl) rfl rfl)) ?_
        refine da_nil ?_
        refine avc_if rfl ⟨fun hc2 => ?_, fun hc2 => ?_⟩
        ·
          try simp only [Bool.and_eq_true, Bool.or_eq_true, Bool.not_eq_true', Bool.and_eq_false_iff, Bool.or_eq_false_iff, Bool.not_eq_false', decide_eq_true_eq, decide_eq_false_iff_not, Int.not_lt, Int.not_le] at hc2
          refine avc_sq2 ?_
          refine avc_sq ?_
          refine sq_a (ag_plain rfl (a_assign_d (lq rfl) rfl)) ?_
          refine sq_nil ?_
          refine avc_ret ?_
          exact ret_int rfl (by rw [h3, cmp_step (by omega) (by omega), if_neg (by omega), if_pos (by omega)])
        ·
          try simp only [Bool.and_eq_true, Bool.or_eq_true, Bool.not_eq_true', Bool.and_eq_false_iff, Bool.or_eq_false_iff, Bool.not_eq_false', decide_eq_true_eq, decide_eq_false_iff_not, Int.not_lt, Int.not_le] at hc2
          refine avc_skip ?_
          refine avc_sq ?_
          first | refine sq_a (ag_plain rfl (a_move_d (lq rfl) rfl)) ?_ | refine sq_a (ag_plain rfl (a_move_row (lq rfl) rfl)) ?_ | refine sq_a (ag_plain rfl (a_move_ptr (lq rfl) rfl)) ?_ | refine sq_a (ag_plain rfl (a_move_ip (lq rfl) rfl)) ?_ | refine sq_a (ag_plain rfl (a_move_tup (lq rfl) rfl)) ?_
          refine sq_a (ag_plain rfl (a_add (lq rfl) rfl rfl (w64 (by omega) (by omega)))) ?_
          first | refine sq_a (ag_plain rfl (a_assign_d (lq rfl) rfl)) ?_ | refine sq_a (ag_plain rfl (a_assign_row (lq rfl) rfl)) ?_ | refine sq_a (ag_plain rfl (a_assign_ptr (lq rfl) rfl)) ?_
          refine sq_nil ?_
          first | refine loop_end  (j := k + 1) ?_ ?_ ?_ | refine loop_end  (K := fun _ _ => True) (j := k + 1) ?_ ?_ ?_
          · exact ⟨by omega, by omega, by rw [h3, cmp_step (by omega) (by omega), if_neg (by omega), if_neg (by omega)]⟩
          · omega
          · refine weak_cov ⟨?_, ?_, ?_, trivial⟩ trivial <;> (first | rfl | exact cov_int (by omega) | exact cov_row (by simp [di, flatDV]))
    ·
      try simp only [Bool.and_eq_true, Bool.or_eq_true, Bool.not_eq_true', Bool.and_eq_false_iff, Bool.or_eq_false_iff, Bool.not_eq_false', decide_eq_true_eq, decide_eq_false_iff_not, Int.not_lt, Int.not_le] at hc0
      refine avc_exit ?_
      refine avc_sq2 ?_
      refine avc_sq2 ?_
      refine avc_sq ?_
      first | refine sq_a (ag_plain rfl (a_move_d (lq rfl) rfl)) ?_ | refine sq_a (ag_plain rfl (a_move_row (lq rfl) rfl)) ?_ | refine sq_a (ag_plain rfl (a_move_ptr (lq rfl) rfl)) ?_ | refine sq_a (ag_plain rfl (a_move_ip (lq rfl) rfl)) ?_ | refine sq_a (ag_plain rfl (a_move_tup (lq rfl) rfl)) ?_
      first | refine sq_a (ag_plain rfl (a_len_d (lq rfl) S22 rfl len_map)) ?_ | refine sq_a (ag_plain rfl (a_len_row (lq rfl) S22 rfl rfl len_map)) ?_ | refine sq_a (ag_plain rfl (a_len_nil (lq rfl) Try.underlying22 rfl)) ?_
      first | refine sq_a (ag_plain rfl (a_move_d (lq rfl) rfl)) ?_ | refine sq_a (ag_plain rfl (a_move_row (lq rfl) rfl)) ?_ | refine sq_a (ag_plain rfl (a_move_ptr (lq rfl) rfl)) ?_ | refine sq_a (ag_plain rfl (a_move_ip (lq rfl) rfl)) ?_ | refine sq_a (ag_plain rfl (a_move_tup (lq rfl) rfl)) ?_
      first | refine sq_a (ag_plain rfl (a_len_d (lq rfl) S22 rfl len_map)) ?_ | refine sq_a (ag_plain rfl (a_len_row (lq rfl) S22 rfl rfl len_map)) ?_ | refine sq_a (ag_plain rfl (a_len_nil (lq rfl) Try.underlying22 rfl)) ?_
      refine sq_a (ag_plain rfl (a_lss (lq rfl) rfl rfl)) ?_
      refine sq_nil ?_
      refine avc_if rfl ⟨fun hc3 => ?_, fun hc3 => ?_⟩
      ·
        try simp only [Bool.and_eq_true, Bool.or_eq_true, Bool.not_eq_true', Bool.and_eq_false_iff, Bool.or_eq_false_iff, Bool.not_eq_false', decide_eq_true_eq, decide_eq_false_iff_not, Int.not_lt, Int.not_le] at hc3
        refine avc_sq2 ?_
        refine avc_sq ?_
        refine sq_a (ag_plain rfl (a_assign_d (lq rfl) rfl)) ?_
        refine sq_nil ?_
        refine avc_ret ?_
        exact ret_int rfl (by rw [h3, cmp_end (by omega) (by omega) (by omega)]; simp only [cmpI]; rw [if_pos (by omega)])
      ·
        try simp only [Bool.and_eq_true, Bool.or_eq_true, Bool.not_eq_true', Bool.and_eq_false_iff, Bool.or_eq_false_iff, Bool.not_eq_false', decide_eq_true_eq, decide_eq_false_iff_not, Int.not_lt, Int.not_le] at hc3
        refine avc_skip ?_
        refine avc_sq2 ?_
        refine avc_sq2 ?_
        refine avc_sq ?_
        first | refine sq_a (ag_plain rfl (a_move_d (lq rfl) rfl)) ?_ | refine sq_a (ag_plain rfl (a_move_row (lq rfl) rfl)) ?_ | refine sq_a (ag_plain rfl (a_move_ptr (lq rfl) rfl)) ?_ | refine sq_a (ag_plain rfl (a_move_ip (lq rfl) rfl)) ?_ | refine sq_a (ag_plain rfl (a_move_tup (lq rfl) rfl)) ?_
        first | refine sq_a (ag_plain rfl (a_len_d (lq rfl) S22 rfl len_map)) ?_ | refine sq_a (ag_plain rfl (a_len_row (lq rfl) S22 rfl rfl len_map)) ?_ | refine sq_a (ag_plain rfl (a_len_nil (lq rfl) Try.underlying22 rfl)) ?_
        first | refine sq_a (ag_plain rfl (a_move_d (lq rfl) rfl)) ?_ | refine sq_a (ag_plain rfl (a_move_row (lq rfl) rfl)) ?_ | refine sq_a (ag_plain rfl (a_move_ptr (lq rfl) rfl)) ?_ | refine sq_a (ag_plain rfl (a_move_ip (lq rfl) rfl)) ?_ | refine sq_a (ag_plain rfl (a_move_tup (lq rfl) rfl)) ?_
        first | refine sq_a (ag_plain rfl (a_len_d (lq rfl) S22 rfl len_map)) ?_ | refine sq_a (ag_plain rfl (a_len_row (lq rfl) S22 rfl rfl len_map)) ?_ | refine sq_a (ag_plain rfl (a_len_nil (lq rfl) Try.underlying22 rfl)) ?_
        refine sq_a (ag_plain rfl (a_gtr (lq rfl) rfl rfl)) ?_
        refine sq_nil ?_
        refine avc_if rfl ⟨fun hc4 => ?_, fun hc4 => ?_⟩
        ·
          try simp only [Bool.and_eq_true, Bool.or_eq_true, Bool.not_eq_true', Bool.and_eq_false_iff, Bool.or_eq_false_iff, Bool.not_eq_false', decide_eq_true_eq, decide_eq_false_iff_not, Int.not_lt, Int.not_le] at hc4
          refine avc_sq2 ?_
          refine avc_sq ?_
          refine sq_a (ag_plain rfl (a_assign_d (lq rfl) rfl)) ?_
          refine sq_nil ?_
          refine avc_ret ?_
          exact ret_int rfl (by rw [h3, cmp_end (by omega) (by omega) (by omega)]; simp only [cmpI]; rw [if_neg (by omega), if_pos (by omega)])
        ·
          try simp only [Bool.and_eq_true, Bool.or_eq_true, Bool.not_eq_true', Bool.and_eq_false_iff, Bool.or_eq_false_iff, Bool.not_eq_false', decide_eq_true_eq, decide_eq_false_iff_not, Int.not_lt, Int.not_le] at hc4
          refine avc_skip ?_
          refine avc_sq2 ?_
          refine avc_sq ?_
          refine sq_a (ag_plain rfl (a_assign_d (lq rfl) rfl)) ?_
          refine sq_nil ?_
          refine avc_ret ?_
          exact ret_int rfl (by rw [h3, cmp_end (by omega) (by omega) (by omega)]; simp only [cmpI]; rw [if_neg (by omega), if_neg (by omega)])

theorem refEqual_c (a b : List Int) (ha : a.length ≤ 1152921504606846976) (hb : b.length ≤ 1152921504606846976) : Contract Try.prog 9 [.ints a, .ints b] [db (decide (a = b))] := by
  refine contract_of Try.func9 (by kernel_rfl) rfl (lq rfl) (lq rfl) fun w0 I0 => ?_
  refine avc_sq2 ?_
  refine avc_sq ?_
  refine sq_a (ag_plain rfl (a_assign_d (lq rfl) rfl)) ?_
  refine sq_nil ?_
  refine avc_sq2 ?_
  refine avc_sq ?_
  first | refine sq_a (ag_plain rfl (a_move_d (lq rfl) rfl)) ?_ | refine sq_a (ag_plain rfl (a_move_row (lq rfl) rfl)) ?_ | refine sq_a (ag_plain rfl (a_move_ptr (lq rfl) rfl)) ?_ | refine sq_a (ag_plain rfl (a_move_ip (lq rfl) rfl)) ?_ | refine sq_a (ag_plain rfl (a_move_tup (lq rfl) rfl)) ?_
  first | refine sq_a (ag_plain rfl (a_move_d (lq rfl) rfl)) ?_ | refine sq_a (ag_plain rfl (a_move_row (lq rfl) rfl)) ?_ | refine sq_a (ag_plain rfl (a_move_ptr (lq rfl) rfl)) ?_ | refine sq_a (ag_plain rfl (a_move_ip (lq rfl) rfl)) ?_ | refine sq_a (ag_plain rfl (a_move_tup (lq rfl) rfl)) ?_
  refine sq_a (ag_plain rfl (a_call (lq rfl) rfl (refCompare_c _ _ (by omega) (by omega)))) ?_
  refine sq_a (ag_plain rfl (a_eql (lq rfl) rfl rfl)) ?_
  first | refine sq_a (ag_plain rfl (a_assign_d (lq rfl) rfl)) ?_ | refine sq_a (ag_plain rfl (a_assign_row (lq rfl) rfl)) ?_ | refine sq_a (ag_plain rfl (a_assign_ptr (lq rfl) rfl)) ?_
  refine sq_nil ?_
  refine avc_ret ?_
  exact ret_bool rfl (by rw [decide_eq_decide]; exact cmpL_zero)

theorem isNaN_c (a : Int)  : Contract Try.prog 32 [di a] [db false] := by
  refine contract_of Try.func32 (by kernel_rfl) rfl (lq rfl) (lq rfl) fun w0 I0 => ?_
  refine avc_sq2 ?_
  refine avc_sq ?_
  refine sq_a (ag_plain rfl (a_assign_d (lq rfl) rfl)) ?_
  refine sq_nil ?_
  refine avc_sq2 ?_
  refine avc_sq ?_
  first | refine sq_a (ag_plain rfl (a_move_d (lq rfl) rfl)) ?_ | refine sq_a (ag_plain rfl (a_move_row (lq rfl) rfl)) ?_ | refine sq_a (ag_plain rfl (a_move_ptr (lq rfl) rfl)) ?_ | refine sq_a (ag_plain rfl (a_move_ip (lq rfl) rfl)) ?_ | refine sq_a (ag_plain rfl (a_move_tup (lq rfl) rfl)) ?_
  first | refine sq_a (ag_plain rfl (a_move_d (lq rfl) rfl)) ?_ | refine sq_a (ag_plain rfl (a_move_row (lq rfl) rfl)) ?_ | refine sq_a (ag_plain rfl (a_move_ptr (lq rfl) rfl)) ?_ | refine sq_a (ag_plain rfl (a_move_ip (lq rfl) rfl)) ?_ | refine sq_a (ag_plain rfl (a_move_tup (lq rfl) rfl)) ?_
  refine sq_a (ag_plain rfl (a_neq (lq rfl) rfl rfl)) ?_
  first | refine sq_a (ag_plain rfl (a_assign_d (lq rfl) rfl)) ?_ | refine sq_a (ag_plain rfl (a_assign_row (lq rfl) rfl)) ?_ | refine sq_a (ag_plain rfl (a_assign_ptr (lq rfl) rfl)) ?_
  refine sq_nil ?_
  refine avc_ret ?_
  exact ret_bool rfl (by simp)

theorem cmpInt_c (a b : Int)  : Contract Try.prog 31 [di a, di b] [di (cmpI a b)] := by
  refine contract_of Try.func31 (by kernel_rfl) rfl (lq rfl) (lq rfl) fun w0 I0 => ?_
  refine avc_sq2 ?_
  refine avc_sq ?_
  refine sq_a (ag_plain rfl (a_assign_d (lq rfl) rfl)) ?_
  refine sq_nil ?_
  refine avc_sq2 ?_
  refine avc_sq ?_
  first | refine sq_a (ag_plain rfl (a_move_d (lq rfl) rfl)) ?_ | refine sq_a (ag_plain rfl (a_move_row (lq rfl) rfl)) ?_ | refine sq_a (ag_plain rfl (a_move_ptr (lq rfl) rfl)) ?_ | refine sq_a (ag_plain rfl (a_move_ip (lq rfl) rfl)) ?_ | refine sq_a (ag_plain rfl (a_move_tup (lq rfl) rfl)) ?_
  refine sq_a (ag_plain rfl (a_call (lq rfl) rfl (isNaN_c _))) ?_
  first | refine sq_a (ag_plain rfl (a_assign_d (lq rfl) rfl)) ?_ | refine sq_a (ag_plain rfl (a_assign_row (lq rfl) rfl)) ?_ | refine sq_a (ag_plain rfl (a_assign_ptr (lq rfl) rfl)) ?_
  refine sq_nil ?_
  refine avc_sq2 ?_
  refine avc_sq ?_
  first | refine sq_a (ag_plain rfl (a_move_d (lq rfl) rfl)) ?_ | refine sq_a (ag_plain rfl (a_move_row (lq rfl) rfl)) ?_ | refine sq_a (ag_plain rfl (a_move_ptr (lq rfl) rfl)) ?_ | refine sq_a (ag_plain rfl (a_move_ip (lq rfl) rfl)) ?_ | refine sq_a (ag_plain rfl (a_move_tup (lq rfl) rfl)) ?_
  refine sq_a (ag_plain rfl (a_call (lq rfl) rfl (isNaN_c _))) ?_
  first | refine sq_a (ag_plain rfl (a_assign_d (lq rfl) rfl)) ?_ | refine sq_a (ag_plain rfl (a_assign_row (lq rfl) rfl)) ?_ | refine sq_a (ag_plain rfl (a_assign_ptr (lq rfl) rfl)) ?_
  refine sq_nil ?_
  refine avc_sq2 ?_
  refine avc_sq2 ?_
  refine avc_sq ?_
  first | refine sq_a (ag_plain rfl (a_move_d (lq rfl) rfl)) ?_ | refine sq_a (ag_plain rfl (a_move_row (lq rfl) rfl)) ?_ | refine sq_a (ag_plain rfl (a_move_ptr (lq rfl) rfl)) ?_ | refine sq_a (ag_plain rfl (a_move_ip (lq rfl) rfl)) ?_ | refine sq_a (ag_plain rfl (a_move_tup (lq rfl) rfl)) ?_
  refine sq_nil ?_
  refine avc_if rfl ⟨fun hc0 => ?_, fun hc0 => ?_⟩
  ·
    try simp only [Bool.and_eq_true, Bool.or_eq_true, Bool.not_eq_true', Bool.and_eq_false_iff, Bool.or_eq_false_iff, Bool.not_eq_false', decide_eq_true_eq, decide_eq_false_iff_not, Int.not_lt, Int.not_le] at hc0
    cases hc0
  ·
    try simp only [Bool.and_eq_true, Bool.or_eq_true, Bool.not_eq_true', Bool.and_eq_false_iff, Bool.or_eq_false_iff, Bool.not_eq_false', decide_eq_true_eq, decide_eq_false_iff_not, Int.not_lt, Int.not_le] at hc0
    refine avc_skip ?_
    refine avc_sq2 ?_
    refine avc_sq2 ?_
    refine avc_sq ?_
    first | refine sq_a (ag_plain rfl (a_move_d (lq rfl) rfl)) ?_ | refine sq_a (ag_plain rfl (a_move_row (lq rfl) rfl)) ?_ | refine sq_a (ag_plain rfl (a_move_ptr (lq rfl) rfl)) ?_ | refine sq_a (ag_plain rfl (a_move_ip (lq rfl) rfl)) ?_ | refine sq_a (ag_plain rfl (a_move_tup (lq rfl) rfl)) ?_
    refine sq_nil ?_
    refine avc_if rfl ⟨fun hc2 => ?_, fun hc2 => ?_⟩
    ·
      try simp only [Bool.and_eq_true, Bool.or_eq_true, Bool.not_eq_true', Bool.and_eq_false_iff, Bool.or_eq_false_iff, Bool.not_eq_false', decide_eq_true_eq, decide_eq_false_iff_not, Int.not_lt, Int.not_le] at hc2
      cases hc2
    ·
      try simp only [Bool.and_eq_true, Bool.or_eq_true, Bool.not_eq_true', Bool.and_eq_false_iff, Bool.or_eq_false_iff, Bool.not_eq_false', decide_eq_true_eq, decide_eq_false_iff_not, Int.not_lt, Int.not_le] at hc2
      refine avc_skip ?_
      refine avc_sq2 ?_
      refine avc_sq2 ?_
      refine avc_sq ?_
      first | refine sq_a (ag_plain rfl (a_move_d (lq rfl) rfl)) ?_ | refine sq_a (ag_plain rfl (a_move_row (lq rfl) rfl)) ?_ | refine sq_a (ag_plain rfl (a_move_ptr (lq rfl) rfl)) ?_ | refine sq_a (ag_plain rfl (a_move_ip (lq rfl) rfl)) ?_ | refine sq_a (ag_plain rfl (a_move_tup (lq rfl) rfl)) ?_
      first | refine sq_a (ag_plain rfl (a_move_d (lq rfl) rfl)) ?_ | refine sq_a (ag_plain rfl (a_move_row (lq rfl) rfl)) ?_ | refine sq_a (ag_plain rfl (a_move_ptr (lq rfl) rfl)) ?_ | refine sq_a (ag_plain rfl (a_move_ip (lq rfl) rfl)) ?_ | refine sq_a (ag_plain rfl (a_move_tup (lq rfl) rfl)) ?_
      refine sq_a (ag_plain rfl (a_lss (lq rfl) rfl rfl)) ?_
      refine sq_nil ?_
      refine avc_if rfl ⟨fun hc3 => ?_, fun hc3 => ?_⟩
      ·
        try simp only [Bool.and_eq_true, Bool.or_eq_true, Bool.not_eq_true', Bool.and_eq_false_iff, Bool.or_eq_false_iff, Bool.not_eq_false', decide_eq_true_eq, decide_eq_false_iff_not, Int.not_lt, Int.not_le] at hc3
        refine avc_sq2 ?_
        refine avc_sq ?_
        refine sq_a (ag_plain rfl (a_assign_d (lq rfl) rfl)) ?_
        refine sq_nil ?_
        refine avc_ret ?_
        exact ret_int rfl (by simp only [cmpI]; rw [if_pos (by omega)])
      ·
        try simp only [Bool.and_eq_true, Bool.or_eq_true, Bool.not_eq_true', Bool.and_eq_false_iff, Bool.or_eq_false_iff, Bool.not_eq_false', decide_eq_true_eq, decide_eq_false_iff_not, Int.not_lt, Int.not_le] at hc3
        refine avc_skip ?_
        refine avc_sq2 ?_
        refine avc_sq2 ?_
        refine avc_sq ?_
        first | refine sq_a (ag_plain rfl (a_move_d (lq rfl) rfl)) ?_ | refine sq_a (ag_plain rfl (a_move_row (lq rfl) rfl)) ?_ | refine sq_a (ag_plain rfl (a_move_ptr (lq rfl) rfl)) ?_ | refine sq_a (ag_plain rfl (a_move_ip (lq rfl) rfl)) ?_ | refine sq_a (ag_plain rfl (a_move_tup (lq rfl) rfl)) ?_
        first | refine sq_a (ag_plain rfl (a_move_d (lq rfl) rfl)) ?_ | refine sq_a (ag_plain rfl (a_move_row (lq rfl) rfl)) ?_ | refine sq_a (ag_plain rfl (a_move_ptr (lq rfl) rfl)) ?_ | refine sq_a (ag_plain rfl (a_move_ip (lq rfl) rfl)) ?_ | refine sq_a (ag_plain rfl (a_move_tup (lq rfl) rfl)) ?_
        refine sq_a (ag_plain rfl (a_gtr (lq rfl) rfl rfl)) ?_
        refine sq_nil ?_
        refine avc_if rfl ⟨fun hc4 => ?_, fun hc4 => ?_⟩
        ·
          try simp only [Bool.and_eq_true, Bool.or_eq_true, Bool.not_eq_true', Bool.and_eq_false_iff, Bool.or_eq_false_iff, Bool.not_eq_false', decide_eq_true_eq, decide_eq_false_iff_not, Int.not_lt, Int.not_le] at hc4
          refine avc_sq2 ?_
          refine avc_sq ?_
          refine sq_a (ag_plain rfl (a_assign_d (lq rfl) rfl)) ?_
          refine sq_nil ?_
          refine avc_ret ?_
          exact ret_int rfl (by simp only [cmpI]; rw [if_neg (by omega), if_pos (by omega)])
        ·
          try simp only [Bool.and_eq_true, Bool.or_eq_true, Bool.not_eq_true', Bool.and_eq_false_iff, Bool.or_eq_false_iff, Bool.not_eq_false', decide_eq_true_eq, decide_eq_false_iff_not, Int.not_lt, Int.not_le] at hc4
          refine avc_skip ?_
          refine avc_sq2 ?_
          refine avc_sq ?_
          refine sq_a (ag_plain rfl (a_assign_d (lq rfl) rfl)) ?_
          refine sq_nil ?_
          refine avc_ret ?_
          exact ret_int rfl (by simp only [cmpI]; rw [if_neg (by omega), if_neg (by omega)])

theorem cpCompare_c (a b : List Int) (ha : a.length ≤ 1152921504606846976) (hb : b.length ≤ 1152921504606846976) : Contract Try.prog 28 [.ints a, .ints b] [di (cmpL a b)] := by
  refine contract_of Try.func28 (by kernel_rfl) rfl (lq rfl) (lq rfl) fun w0 I0 => ?_
  refine avc_sq2 ?_
  refine avc_sq ?_
  refine sq_a (ag_plain rfl (a_assign_d (lq rfl) rfl)) ?_
  refine sq_nil ?_
  refine avc_sq2 ?_
  refine avc_sq2 ?_
  refine avc_sq ?_
  first | refine sq_a (ag_plain rfl (a_move_d (lq rfl) rfl)) ?_ | refine sq_a (ag_plain rfl (a_move_row (lq rfl) rfl)) ?_ | refine sq_a (ag_plain rfl (a_move_ptr (lq rfl) rfl)) ?_ | refine sq_a (ag_plain rfl (a_move_ip (lq rfl) rfl)) ?_ | refine sq_a (ag_plain rfl (a_move_tup (lq rfl) rfl)) ?_
  first | refine sq_a (ag_plain rfl (a_len_d (lq rfl) S22 rfl len_map)) ?_ | refine sq_a (ag_plain rfl (a_len_row (lq rfl) S22 rfl rfl len_map)) ?_ | refine sq_a (ag_plain rfl (a_len_nil (lq rfl) Try.underlying22 rfl)) ?_
  first | refine sq_a (ag_plain rfl (a_move_d (lq rfl) rfl)) ?_ | refine sq_a (ag_plain rfl (a_move_row (lq rfl) rfl)) ?_ | refine sq_a (ag_plain rfl (a_move_ptr (lq rfl) rfl)) ?_ | refine sq_a (ag_plain rfl (a_move_ip (lq rfl) rfl)) ?_ | refine sq_a (ag_plain rfl (a_move_tup (lq rfl) rfl)) ?_
  first | refine sq_a (ag_plain rfl (a_len_d (lq rfl) S22 rfl len_map)) ?_ | refine sq_a (ag_plain rfl (a_len_row (lq rfl) S22 rfl rfl len_map)) ?_ | refine sq_a (ag_plain rfl (a_len_nil (lq rfl) Try.underlying22 rfl)) ?_
  refine sq_a (ag_plain rfl (a_min (lq rfl) rfl rfl)) ?_
  refine sq_a (ag_plain rfl (a_move_d (lq rfl) rfl)) ?_
  refine sq_nil ?_
  refine avc_block ?_
  refine avc_loop (ι := Nat) (fun k => ⟨[(0, .d (.ints a)), (1, .d (.ints b)), (10, .d (di (min (a.length : Int) b.length))), (11, .d (di k))], []⟩) (fun k => k ≤ a.length ∧ k ≤ b.length ∧ cmpL a b = cmpL (a.drop k) (b.drop k)) (fun k => a.length - k) 0 ?_ ?_ ?_
  · exact ⟨by omega, by omega, rfl⟩
  · refine weak_cov ⟨?_, ?_, ?_, ?_, trivial⟩ trivial <;> (first | rfl | exact cov_int (by omega) | exact cov_row (by simp [di, flatDV]))
  · rintro k hp
    obtain ⟨h1, h2, h3⟩ := hp
    refine avc_sq2 ?_
    refine avc_sq ?_
    refine sq_a (ag_plain rfl (a_lss (lq rfl) rfl rfl)) ?_
    refine sq_nil ?_
    refine avc_sq2 ?_
    refine avc_if rfl ⟨fun hc0 => ?_, fun hc0 => ?_⟩
    ·
      try simp only [Bool.and_eq_true, Bool.or_eq_true, Bool.not_eq_true', Bool.and_eq_false_iff, Bool.or_eq_false_iff, Bool.not_eq_false', decide_eq_true_eq, decide_eq_false_iff_not, Int.not_lt, Int.not_le] at hc0
      refine avc_skip ?_
      refine avc_sq2 ?_
      refine avc_block ?_
      refine avc_sq2 ?_
      refine avc_sq ?_
      first | refine sq_a (ag_plain rfl (a_move_d (lq rfl) rfl)) ?_ | refine sq_a (ag_plain rfl (a_move_row (lq rfl) rfl)) ?_ | refine sq_a (ag_plain rfl (a_move_ptr (lq rfl) rfl)) ?_ | refine sq_a (ag_plain rfl (a_move_ip (lq rfl) rfl)) ?_ | refine sq_a (ag_plain rfl (a_move_tup (lq rfl) rfl)) ?_
      first | refine sq_a (ag_plain rfl (a_assign_d (lq rfl) rfl)) ?_ | refine sq_a (ag_plain rfl (a_assign_row (lq rfl) rfl)) ?_ | refine sq_a (ag_plain rfl (a_assign_ptr (lq rfl) rfl)) ?_
      refine sq_nil ?_
      refine avc_sq2 ?_
      refine avc_drawA MX rfl ?_
      first | refine da_a (ag_plain rfl (a_move_d (lq rfl) rfl)) ?_ | refine da_a (ag_plain rfl (a_move_row (lq rfl) rfl)) ?_ | refine da_a (ag_plain rfl (a_move_ptr (lq rfl) rfl)) ?_ | refine da_a (ag_plain rfl (a_move_ip (lq rfl) rfl)) ?_ | refine da_a (ag_plain rfl (a_move_tup (lq rfl) rfl)) ?_
      first | refine da_a (ag_plain rfl (a_move_d (lq rfl) rfl)) ?_ | refine da_a (ag_plain rfl (a_move_row (lq rfl) rfl)) ?_ | refine da_a (ag_plain rfl (a_move_ptr (lq rfl) rfl)) ?_ | refine da_a (ag_plain rfl (a_move_ip (lq rfl) rfl)) ?_ | refine da_a (ag_plain rfl (a_move_tup (lq rfl) rfl)) ?_
      first | refine da_a (ag_plain rfl (a_index_d (lq rfl) S22 rfl rfl rfl len_map (by omega))) ?_ | refine da_a (ag_plain rfl (a_index_row (lq rfl) S22 rfl rfl rfl rfl len_map (by omega))) ?_ | refine da_a (ag_plain rfl (a_index_d (lq rfl) S22 rfl rfl (ix_add1 _) len_map (by omega))) ?_ | refine da_a (ag_plain rfl (a_index_row (lq rfl) S22 rfl rfl rfl (ix_add1 _) len_map (by omega))) ?_ | refine da_a (ag_plain rfl (a_index_d (lq rfl) S22 rfl rfl (ix_nat (by omega)) len_map (by omega))) ?_ | refine da_a (ag_plain rfl (a_index_row (lq rfl) S22 rfl rfl rfl (ix_nat (by omega)) len_map (by omega))) ?_
      first | refine da_a (ag_plain rfl (a_load_box (lq rfl) O3 rfl rfl rfl)) ?_ | refine da_a (ag_plain rfl (a_load_pt (lq rfl) O3 rfl rfl)) ?_ | refine da_a (ag_plain rfl (a_load_ip (lq rfl) O3 rfl (get_map 0 (by omega)))) ?_ | refine da_a (ag_plain rfl (a_load_row (lq rfl) O3 rfl rfl (get_map 0 (by omega)))) ?_
      first | refine da_a (ag_plain rfl (a_move_d (lq rfl) rfl)) ?_ | refine da_a (ag_plain rfl (a_move_row (lq rfl) rfl)) ?_ | refine da_a (ag_plain rfl (a_move_ptr (lq rfl) rfl)) ?_ | refine da_a (ag_plain rfl (a_move_ip (lq rfl) rfl)) ?_ | refine da_a (ag_plain rfl (a_move_tup (lq rfl) rfl)) ?_
      first | refine da_a (ag_plain rfl (a_move_d (lq rfl) rfl)) ?_ | refine da_a (ag_plain rfl (a_move_row (lq rfl) rfl)) ?_ | refine da_a (ag_plain rfl (a_move_ptr (lq rfl) rfl)) ?_ | refine da_a (ag_plain rfl (a_move_ip (lq rfl) rfl)) ?_ | refine da_a (ag_plain rfl (a_move_tup (lq rfl) rfl)) ?_
      first | refine da_a (ag_plain rfl (a_index_d (lq rfl) S22 rfl rfl rfl len_map (by omega))) ?_ | refine da_a (ag_plain rfl (a_index_row (lq rfl) S22 rfl rfl rfl rfl len_map (by omega))) ?_ | refine da_a (ag_plain rfl (a_index_d (lq rfl) S22 rfl rfl (ix_add1 _) len_map (by omega))) ?_ | refine da_a (ag_plain rfl (a_index_row (lq rfl) S22 rfl rfl rfl (ix_add1 _) len_map (by omega))) ?_ | refine da_a (ag_plain rfl (a_index_d (lq rfl) S22 rfl rfl (ix_nat (by omega)) len_map (by omega))) ?_ | refine da_a (ag_plain rfl (a_index_row (lq rfl) S22 rfl rfl rfl (ix_nat (by omega)) len_map (by omega))) ?_
      first | refine da_a (ag_plain rfl (a_load_box (lq rfl) O3 rfl rfl rfl)) ?_ | refine da_a (ag_plain rfl (a_load_pt (lq rfl) O3 rfl rfl)) ?_ | refine da_a (ag_plain rfl (a_load_ip (lq rfl) O3 rfl (get_map 0 (by omega)))) ?_ | refine da_a (ag_plain rfl (a_load_row (lq rfl) O3 rfl rfl (get_map 0 (by omega)))) ?_
      refine da_a (ag_plain rfl (a_neq (lq rfl) rfl rfl)) ?_
      refine da_nil ?_
      refine avc_if rfl ⟨fun hc1 => ?_, fun hc1 => ?_⟩
      ·
        try simp only [Bool.and_eq_true, Bool.or_eq_true, Bool.not_eq_true', Bool.and_eq_false_iff, Bool.or_eq_false_iff, Bool.not_eq_false', decide_eq_true_eq, decide_eq_false_iff_not, Int.not_lt, Int.not_le] at hc1
        refine avc_sq2 ?_
        refine avc_drawA MX rfl ?_
        first | refine da_a (ag_plain rfl (a_move_d (lq rfl) rfl)) ?_ | refine da_a (ag_plain rfl (a_move_row (lq rfl) rfl)) ?_ | refine da_a (ag_plain rfl (a_move_ptr (lq rfl) rfl)) ?_ | refine da_a (ag_plain rfl (a_move_ip (lq rfl) rfl)) ?_ | refine da_a (ag_plain rfl (a_move_tup (lq rfl) rfl)) ?_
        first | refine da_a (ag_plain rfl (a_move_d (lq rfl) rfl)) ?_ | refine da_a (ag_plain rfl (a_move_row (lq rfl) rfl)) ?_ | refine da_a (ag_plain rfl (a_move_ptr (lq rfl) rfl)) ?_ | refine da_a (ag_plain rfl (a_move_ip (lq rfl) rfl)) ?_ | refine da_a (ag_plain rfl (a_move_tup (lq rfl) rfl)) ?_
        first | refine da_a (ag_plain rfl (a_index_d (lq rfl) S22 rfl rfl rfl len_map (by omega))) ?_ | refine da_a (ag_plain rfl (a_index_row (lq rfl) S22 rfl rfl rfl rfl len_map (by omega))) ?_ | refine da_a (ag_plain rfl (a_index_d (lq rfl) S22 rfl rfl (ix_add1 _) len_map (by omega))) ?_ | refine da_a (ag_plain rfl (a_index_row (lq rfl) S22 rfl rfl rfl (ix_add1 _) len_map (by omega))) ?_ | refine da_a (ag_plain rfl (a_index_d (lq rfl) S22 rfl rfl (ix_nat (by omega)) len_map (by omega))) ?_ | refine da_a (ag_plain rfl (a_index_row (lq rfl) S22 rfl rfl rfl (ix_nat (by omega)) len_map (by omega))) ?_
        first | refine da_a (ag_plain rfl (a_load_box (lq rfl) O3 rfl rfl rfl)) ?_ | refine da_a (ag_plain rfl (a_load_pt (lq rfl) O3 rfl rfl)) ?_ | refine da_a (ag_plain rfl (a_load_ip (lq rfl) O3 rfl (get_map 0 (by omega)))) ?_ | refine da_a (ag_plain rfl (a_load_row (lq rfl) O3 rfl rfl (get_map 0 (by omega)))) ?_
        first | refine da_a (ag_plain rfl (a_move_d (lq rfl) rfl)) ?_ | refine da_a (ag_plain rfl (a_move_row (lq rfl) rfl)) ?_ | refine da_a (ag_plain rfl (a_move_ptr (lq rfl) rfl)) ?_ | refine da_a (ag_plain rfl (a_move_ip (lq rfl) rfl)) ?_ | refine da_a (ag_plain rfl (a_move_tup (lq rfl) rfl)) ?_
        first | refine da_a (ag_plain rfl (a_move_d (lq rfl) rfl)) ?_ | refine da_a (ag_plain rfl (a_move_row (lq rfl) rfl)) ?_ | refine da_a (ag_plain rfl (a_move_ptr (lq rfl) rfl)) ?_ | refine da_a (ag_plain rfl (a_move_ip (lq rfl) rfl)) ?_ | refine da_a (ag_plain rfl (a_move_tup (lq rfl) rfl)) ?_
        first | refine da_a (ag_plain rfl (a_index_d (lq rfl) S22 rfl rfl rfl len_map (by omega))) ?_ | refine da_a (ag_plain rfl (a_index_row (lq rfl) S22 rfl rfl rfl rfl len_map (by omega))) ?_ | refine da_a (ag_plain rfl (a_index_d (lq rfl) S22 rfl rfl (ix_add1 _) len_map (by omega))) ?_ | refine da_a (ag_plain rfl (a_index_row (lq rfl) S22 rfl rfl rfl (ix_add1 _) len_map (by omega))) ?_ | refine da_a (ag_plain rfl (a_index_d (lq rfl) S22 rfl rfl (ix_nat (by omega)) len_map (by omega))) ?_ | refine da_a (ag_plain rfl (a_index_row (lq rfl) S22 rfl rfl rfl (ix_nat (by omega)) len_map (by omega))) ?_
        first | refine da_a (ag_plain rfl (a_load_box (lq rfl) O3 rfl rfl rfl)) ?_ | refine da_a (ag_plain rfl (a_load_pt (lq rfl) O3 rfl rfl)) ?_ | refine da_a (ag_plain rfl (a_load_ip (lq rfl) O3 rfl (get_map 0 (by omega)))) ?_ | refine da_a (ag_plain rfl (a_load_row (lq rfl) O3 rfl rfl (get_map 0 (by omega)))) ?_
        refine da_a (ag_plain rfl (a_call (lq rfl) rfl (cmpInt_c _ _))) ?_
        first | refine da_a (ag_plain rfl (a_assign_d (lq rfl) rfl)) ?_ | refine da_a (ag_plain rfl (a_assign_row (lq rfl) rfl)) ?_ | refine da_a (ag_plain rfl (a_assign_ptr (lq rfl) rfl)) ?_
        refine da_nil ?_
        refine avc_ret ?_
        exact ret_int rfl (by rw [h3, cmp_step (by omega) (by omega)]; simp only [cmpI]; split <;> first | rfl | (split <;> first | rfl | omega))
      ·
        try simp only [Bool.and_eq_true, Bool.or_eq_true, Bool.not_eq_true', Bool.and_eq_false_iff, Bool.or_eq_false_iff, Bool.not_eq_false', decide_eq_true_eq, decide_eq_false_iff_not, Int.not_lt, Int.not_le] at hc1
        refine avc_skip ?_
        refine avc_sq ?_
        refine sq_a (ag_plain rfl (a_add (lq rfl) rfl rfl (w64 (by omega) (by omega)))) ?_
        first | refine sq_a (ag_plain rfl (a_move_d (lq rfl) rfl)) ?_ | refine sq_a (ag_plain rfl (a_move_row (lq rfl) rfl)) ?_ | refine sq_a (ag_plain rfl (a_move_ptr (lq rfl) rfl)) ?_ | refine sq_a (ag_plain rfl (a_move_ip (lq rfl) rfl)) ?_ | refine sq_a (ag_plain rfl (a_move_tup (lq rfl) rfl)) ?_
        refine sq_nil ?_
        first | refine loop_end  (j := k + 1) ?_ ?_ ?_ | refine loop_end  (K := fun _ _ => True) (j := k + 1) ?_ ?_ ?_
        · exact ⟨by omega, by omega, by rw [h3, cmp_step (by omega) (by omega), if_neg (by omega), if_neg (by omega)]⟩
        · omega
        · refine weak_cov ⟨?_, ?_, ?_, ?_, trivial⟩ trivial <;> (first | rfl | exact cov_int (by omega) | exact cov_row (by simp [di, flatDV]))
    ·
      try simp only [Bool.and_eq_true, Bool.or_eq_true, Bool.not_eq_true', Bool.and_eq_false_iff, Bool.or_eq_false_iff, Bool.not_eq_false', decide_eq_true_eq, decide_eq_false_iff_not, Int.not_lt, Int.not_le] at hc0
      refine avc_exit ?_
      refine avc_sq2 ?_
      refine avc_sq ?_
      first | refine sq_a (ag_plain rfl (a_move_d (lq rfl) rfl)) ?_ | refine sq_a (ag_plain rfl (a_move_row (lq rfl) rfl)) ?_ | refine sq_a (ag_plain rfl (a_move_ptr (lq rfl) rfl)) ?_ | refine sq_a (ag_plain rfl (a_move_ip (lq rfl) rfl)) ?_ | refine sq_a (ag_plain rfl (a_move_tup (lq rfl) rfl)) ?_
      first | refine sq_a (ag_plain rfl (a_len_d (lq rfl) S22 rfl len_map)) ?_ | refine sq_a (ag_plain rfl (a_len_row (lq rfl) S22 rfl rfl len_map)) ?_ | refine sq_a (ag_plain rfl (a_len_nil (lq rfl) Try.underlying22 rfl)) ?_
      first | refine sq_a (ag_plain rfl (a_move_d (lq rfl) rfl)) ?_ | refine sq_a (ag_plain rfl (a_move_row (lq rfl) rfl)) ?_ | refine sq_a (ag_plain rfl (a_move_ptr (lq rfl) rfl)) ?_ | refine sq_a (ag_plain rfl (a_move_ip (lq rfl) rfl)) ?_ | refine sq_a (ag_plain rfl (a_move_tup (lq rfl) rfl)) ?_
      first | refine sq_a (ag_plain rfl (a_len_d (lq rfl) S22 rfl len_map)) ?_ | refine sq_a (ag_plain rfl (a_len_row (lq rfl) S22 rfl rfl len_map)) ?_ | refine sq_a (ag_plain rfl (a_len_nil (lq rfl) Try.underlying22 rfl)) ?_
      refine sq_a (ag_plain rfl (a_call (lq rfl) rfl (cmpInt_c _ _))) ?_
      first | refine sq_a (ag_plain rfl (a_assign_d (lq rfl) rfl)) ?_ | refine sq_a (ag_plain rfl (a_assign_row (lq rfl) rfl)) ?_ | refine sq_a (ag_plain rfl (a_assign_ptr (lq rfl) rfl)) ?_
      refine sq_nil ?_
      refine avc_ret ?_
      exact ret_int rfl (by rw [h3, cmp_end (by omega) (by omega) (by omega)])

theorem cpEqual_c (a b : List Int) (ha : a.length ≤ 1152921504606846976) (hb : b.length ≤ 1152921504606846976) : Contract Try.prog 24 [.ints a, .ints b] [db (decide (a = b))] := by
  refine contract_of Try.func24 (by kernel_rfl) rfl (lq rfl) (lq rfl) fun w0 I0 => ?_
  refine avc_sq2 ?_
  refine avc_sq ?_
  refine sq_a (ag_plain rfl (a_assign_d (lq rfl) rfl)) ?_
  refine sq_nil ?_
  refine avc_sq2 ?_
  refine avc_sq ?_
  first | refine sq_a (ag_plain rfl (a_move_d (lq rfl) rfl)) ?_ | refine sq_a (ag_plain rfl (a_move_row (lq rfl) rfl)) ?_ | refine sq_a (ag_plain rfl (a_move_ptr (lq rfl) rfl)) ?_ | refine sq_a (ag_plain rfl (a_move_ip (lq rfl) rfl)) ?_ | refine sq_a (ag_plain rfl (a_move_tup (lq rfl) rfl)) ?_
  first | refine sq_a (ag_plain rfl (a_move_d (lq rfl) rfl)) ?_ | refine sq_a (ag_plain rfl (a_move_row (lq rfl) rfl)) ?_ | refine sq_a (ag_plain rfl (a_move_ptr (lq rfl) rfl)) ?_ | refine sq_a (ag_plain rfl (a_move_ip (lq rfl) rfl)) ?_ | refine sq_a (ag_plain rfl (a_move_tup (lq rfl) rfl)) ?_
  refine sq_a (ag_plain rfl (a_call (lq rfl) rfl (cpCompare_c _ _ (by omega) (by omega)))) ?_
  refine sq_a (ag_plain rfl (a_eql (lq rfl) rfl rfl)) ?_
  first | refine sq_a (ag_plain rfl (a_assign_d (lq rfl) rfl)) ?_ | refine sq_a (ag_plain rfl (a_assign_row (lq rfl) rfl)) ?_ | refine sq_a (ag_plain rfl (a_assign_ptr (lq rfl) rfl)) ?_
  refine sq_nil ?_
  refine avc_ret ?_
  exact ret_bool rfl (by rw [decide_eq_decide]; exact cmpL_zero)

theorem refSame_c (a : List Int) (h : a.length ≤ 1152921504606846976) : Contract Try.prog 9 [.ints a, .ints a] [db true] := by
  have q := refEqual_c a a h h
  rw [decide_eq_true rfl] at q; exact q

theorem mul64_c (y : Int) (h0 : 0 ≤ y) (h1 : y < 2147483648) : Contract Try.prog 30 [du 1, du y] [du 0, du y] := by
  refine contract_of Try.func30 (by kernel_rfl) rfl (lq rfl) (lq rfl) fun w0 I0 => ?_
  refine avc_sq2 ?_
  refine avc_sq ?_
  refine sq_a (ag_plain rfl (a_assign_d (lq rfl) rfl)) ?_
  refine sq_a (ag_plain rfl (a_assign_d (lq rfl) rfl)) ?_
  refine sq_nil ?_
  refine avc_sq2 ?_
  refine avc_sq ?_
  first | refine sq_a (ag_plain rfl (a_move_d (lq rfl) rfl)) ?_ | refine sq_a (ag_plain rfl (a_move_row (lq rfl) rfl)) ?_ | refine sq_a (ag_plain rfl (a_move_ptr (lq rfl) rfl)) ?_ | refine sq_a (ag_plain rfl (a_move_ip (lq rfl) rfl)) ?_ | refine sq_a (ag_plain rfl (a_move_tup (lq rfl) rfl)) ?_
  refine sq_a (ag_plain rfl (a_mask (lq rfl) rfl rfl (by omega) (by omega))) ?_
  first | refine sq_a (ag_plain rfl (a_assign_d (lq rfl) rfl)) ?_ | refine sq_a (ag_plain rfl (a_assign_row (lq rfl) rfl)) ?_ | refine sq_a (ag_plain rfl (a_assign_ptr (lq rfl) rfl)) ?_
  refine sq_nil ?_
  refine avc_sq2 ?_
  refine avc_sq ?_
  first | refine sq_a (ag_plain rfl (a_move_d (lq rfl) rfl)) ?_ | refine sq_a (ag_plain rfl (a_move_row (lq rfl) rfl)) ?_ | refine sq_a (ag_plain rfl (a_move_ptr (lq rfl) rfl)) ?_ | refine sq_a (ag_plain rfl (a_move_ip (lq rfl) rfl)) ?_ | refine sq_a (ag_plain rfl (a_move_tup (lq rfl) rfl)) ?_
  refine sq_a (ag_plain rfl (a_shr (m := 32) (lq rfl) rfl rfl (by decide))) ?_
  first | refine sq_a (ag_plain rfl (a_assign_d (lq rfl) rfl)) ?_ | refine sq_a (ag_plain rfl (a_assign_row (lq rfl) rfl)) ?_ | refine sq_a (ag_plain rfl (a_assign_ptr (lq rfl) rfl)) ?_
  refine sq_nil ?_
  refine avc_sq2 ?_
  refine avc_sq ?_
  first | refine sq_a (ag_plain rfl (a_move_d (lq rfl) rfl)) ?_ | refine sq_a (ag_plain rfl (a_move_row (lq rfl) rfl)) ?_ | refine sq_a (ag_plain rfl (a_move_ptr (lq rfl) rfl)) ?_ | refine sq_a (ag_plain rfl (a_move_ip (lq rfl) rfl)) ?_ | refine sq_a (ag_plain rfl (a_move_tup (lq rfl) rfl)) ?_
  refine sq_a (ag_plain rfl (a_mask (lq rfl) rfl rfl (by omega) (by omega))) ?_
  first | refine sq_a (ag_plain rfl (a_assign_d (lq rfl) rfl)) ?_ | refine sq_a (ag_plain rfl (a_assign_row (lq rfl) rfl)) ?_ | refine sq_a (ag_plain rfl (a_assign_ptr (lq rfl) rfl)) ?_
  refine sq_nil ?_
  refine avc_sq2 ?_
  refine avc_sq ?_
  first | refine sq_a (ag_plain rfl (a_move_d (lq rfl) rfl)) ?_ | refine sq_a (ag_plain rfl (a_move_row (lq rfl) rfl)) ?_ | refine sq_a (ag_plain rfl (a_move_ptr (lq rfl) rfl)) ?_ | refine sq_a (ag_plain rfl (a_move_ip (lq rfl) rfl)) ?_ | refine sq_a (ag_plain rfl (a_move_tup (lq rfl) rfl)) ?_
  refine sq_a (ag_plain rfl (a_shr (m := 32) (lq rfl) rfl rfl (by decide))) ?_
  first | refine sq_a (ag_plain rfl (a_assign_d (lq rfl) rfl)) ?_ | refine sq_a (ag_plain rfl (a_assign_row (lq rfl) rfl)) ?_ | refine sq_a (ag_plain rfl (a_assign_ptr (lq rfl) rfl)) ?_
  refine sq_nil ?_
  refine avc_sq2 ?_
  refine avc_sq ?_
  first | refine sq_a (ag_plain rfl (a_move_d (lq rfl) rfl)) ?_ | refine sq_a (ag_plain rfl (a_move_row (lq rfl) rfl)) ?_ | refine sq_a (ag_plain rfl (a_move_ptr (lq rfl) rfl)) ?_ | refine sq_a (ag_plain rfl (a_move_ip (lq rfl) rfl)) ?_ | refine sq_a (ag_plain rfl (a_move_tup (lq rfl) rfl)) ?_
  first | refine sq_a (ag_plain rfl (a_move_d (lq rfl) rfl)) ?_ | refine sq_a (ag_plain rfl (a_move_row (lq rfl) rfl)) ?_ | refine sq_a (ag_plain rfl (a_move_ptr (lq rfl) rfl)) ?_ | refine sq_a (ag_plain rfl (a_move_ip (lq rfl) rfl)) ?_ | refine sq_a (ag_plain rfl (a_move_tup (lq rfl) rfl)) ?_
  refine sq_a (ag_plain rfl (a_mul (lq rfl) rfl rfl (wu64 (by omega) (by omega)))) ?_
  first | refine sq_a (ag_plain rfl (a_assign_d (lq rfl) rfl)) ?_ | refine sq_a (ag_plain rfl (a_assign_row (lq rfl) rfl)) ?_ | refine sq_a (ag_plain rfl (a_assign_ptr (lq rfl) rfl)) ?_
  refine sq_nil ?_
  refine avc_sq2 ?_
  refine avc_sq ?_
  first | refine sq_a (ag_plain rfl (a_move_d (lq rfl) rfl)) ?_ | refine sq_a (ag_plain rfl (a_move_row (lq rfl) rfl)) ?_ | refine sq_a (ag_plain rfl (a_move_ptr (lq rfl) rfl)) ?_ | refine sq_a (ag_plain rfl (a_move_ip (lq rfl) rfl)) ?_ | refine sq_a (ag_plain rfl (a_move_tup (lq rfl) rfl)) ?_
  first | refine sq_a (ag_plain rfl (a_move_d (lq rfl) rfl)) ?_ | refine sq_a (ag_plain rfl (a_move_row (lq rfl) rfl)) ?_ | refine sq_a (ag_plain rfl (a_move_ptr (lq rfl) rfl)) ?_ | refine sq_a (ag_plain rfl (a_move_ip (lq rfl) rfl)) ?_ | refine sq_a (ag_plain rfl (a_move_tup (lq rfl) rfl)) ?_
  refine sq_a (ag_plain rfl (a_mul (lq rfl) rfl rfl (wu64 (by omega) (by omega)))) ?_
  first | refine sq_a (ag_plain rfl (a_move_d (lq rfl) rfl)) ?_ | refine sq_a (ag_plain rfl (a_move_row (lq rfl) rfl)) ?_ | refine sq_a (ag_plain rfl (a_move_ptr (lq rfl) rfl)) ?_ | refine sq_a (ag_plain rfl (a_move_ip (lq rfl) rfl)) ?_ | refine sq_a (ag_plain rfl (a_move_tup (lq rfl) rfl)) ?_
  refine sq_a (ag_plain rfl (a_shr (m := 32) (lq rfl) rfl rfl (by decide))) ?_
  refine sq_a (ag_plain rfl (a_add (lq rfl) rfl rfl (wu64 (by omega) (by omega)))) ?_
  first | refine sq_a (ag_plain rfl (a_assign_d (lq rfl) rfl)) ?_ | refine sq_a (ag_plain rfl (a_assign_row (lq rfl) rfl)) ?_ | refine sq_a (ag_plain rfl (a_assign_ptr (lq rfl) rfl)) ?_
  refine sq_nil ?_
  refine avc_sq2 ?_
  refine avc_sq ?_
  first | refine sq_a (ag_plain rfl (a_move_d (lq rfl) rfl)) ?_ | refine sq_a (ag_plain rfl (a_move_row (lq rfl) rfl)) ?_ | refine sq_a (ag_plain rfl (a_move_ptr (lq rfl) rfl)) ?_ | refine sq_a (ag_plain rfl (a_move_ip (lq rfl) rfl)) ?_ | refine sq_a (ag_plain rfl (a_move_tup (lq rfl) rfl)) ?_
  refine sq_a (ag_plain rfl (a_mask (lq rfl) rfl rfl (by omega) (by omega))) ?_
  first | refine sq_a (ag_plain rfl (a_assign_d (lq rfl) rfl)) ?_ | refine sq_a (ag_plain rfl (a_assign_row (lq rfl) rfl)) ?_ | refine sq_a (ag_plain rfl (a_assign_ptr (lq rfl) rfl)) ?_
  refine sq_nil ?_
  refine avc_sq2 ?_
  refine avc_sq ?_
  first | refine sq_a (ag_plain rfl (a_move_d (lq rfl) rfl)) ?_ | refine sq_a (ag_plain rfl (a_move_row (lq rfl) rfl)) ?_ | refine sq_a (ag_plain rfl (a_move_ptr (lq rfl) rfl)) ?_ | refine sq_a (ag_plain rfl (a_move_ip (lq rfl) rfl)) ?_ | refine sq_a (ag_plain rfl (a_move_tup (lq rfl) rfl)) ?_
  refine sq_a (ag_plain rfl (a_shr (m := 32) (lq rfl) rfl rfl (by decide))) ?_
  first | refine sq_a (ag_plain rfl (a_assign_d (lq rfl) rfl)) ?_ | refine sq_a (ag_plain rfl (a_assign_row (lq rfl) rfl)) ?_ | refine sq_a (ag_plain rfl (a_assign_ptr (lq rfl) rfl)) ?_
  refine sq_nil ?_
  refine avc_sq2 ?_
  refine avc_sq ?_
  first | refine sq_a (ag_plain rfl (a_move_d (lq rfl) rfl)) ?_ | refine sq_a (ag_plain rfl (a_move_row (lq rfl) rfl)) ?_ | refine sq_a (ag_plain rfl (a_move_ptr (lq rfl) rfl)) ?_ | refine sq_a (ag_plain rfl (a_move_ip (lq rfl) rfl)) ?_ | refine sq_a (ag_plain rfl (a_move_tup (lq rfl) rfl)) ?_
  first | refine sq_a (ag_plain rfl (a_move_d (lq rfl) rfl)) ?_ | refine sq_a (ag_plain rfl (a_move_row (lq rfl) rfl)) ?_ | refine sq_a (ag_plain rfl (a_move_ptr (lq rfl) rfl)) ?_ | refine sq_a (ag_plain rfl (a_move_ip (lq rfl) rfl)) ?_ | refine sq_a (ag_plain rfl (a_move_tup (lq rfl) rfl)) ?_
  first | refine sq_a (ag_plain rfl (a_move_d (lq rfl) rfl)) ?_ | refine sq_a (ag_plain rfl (a_move_row (lq rfl) rfl)) ?_ | refine sq_a (ag_plain rfl (a_move_ptr (lq rfl) rfl)) ?_ | refine sq_a (ag_plain rfl (a_move_ip (lq rfl) rfl)) ?_ | refine sq_a (ag_plain rfl (a_move_tup (lq rfl) rfl)) ?_
  refine sq_a (ag_plain rfl (a_mul (lq rfl) rfl rfl (wu64 (by omega) (by omega)))) ?_
  refine sq_a (ag_plain rfl (a_add (lq rfl) rfl rfl (wu64 (by omega) (by omega)))) ?_
  first | refine sq_a (ag_plain rfl (a_assign_d (lq rfl) rfl)) ?_ | refine sq_a (ag_plain rfl (a_assign_row (lq rfl) rfl)) ?_ | refine sq_a (ag_plain rfl (a_assign_ptr (lq rfl) rfl)) ?_
  refine sq_nil ?_
  refine avc_sq2 ?_
  refine avc_sq ?_
  first | refine sq_a (ag_plain rfl (a_move_d (lq rfl) rfl)) ?_ | refine sq_a (ag_plain rfl (a_move_row (lq rfl) rfl)) ?_ | refine sq_a (ag_plain rfl (a_move_ptr (lq rfl) rfl)) ?_ | refine sq_a (ag_plain rfl (a_move_ip (lq rfl) rfl)) ?_ | refine sq_a (ag_plain rfl (a_move_tup (lq rfl) rfl)) ?_
  first | refine sq_a (ag_plain rfl (a_move_d (lq rfl) rfl)) ?_ | refine sq_a (ag_plain rfl (a_move_row (lq rfl) rfl)) ?_ | refine sq_a (ag_plain rfl (a_move_ptr (lq rfl) rfl)) ?_ | refine sq_a (ag_plain rfl (a_move_ip (lq rfl) rfl)) ?_ | refine sq_a (ag_plain rfl (a_move_tup (lq rfl) rfl)) ?_
  refine sq_a (ag_plain rfl (a_mul (lq rfl) rfl rfl (wu64 (by omega) (by omega)))) ?_
  first | refine sq_a (ag_plain rfl (a_move_d (lq rfl) rfl)) ?_ | refine sq_a (ag_plain rfl (a_move_row (lq rfl) rfl)) ?_ | refine sq_a (ag_plain rfl (a_move_ptr (lq rfl) rfl)) ?_ | refine sq_a (ag_plain rfl (a_move_ip (lq rfl) rfl)) ?_ | refine sq_a (ag_plain rfl (a_move_tup (lq rfl) rfl)) ?_
  refine sq_a (ag_plain rfl (a_add (lq rfl) rfl rfl (wu64 (by omega) (by omega)))) ?_
  first | refine sq_a (ag_plain rfl (a_move_d (lq rfl) rfl)) ?_ | refine sq_a (ag_plain rfl (a_move_row (lq rfl) rfl)) ?_ | refine sq_a (ag_plain rfl (a_move_ptr (lq rfl) rfl)) ?_ | refine sq_a (ag_plain rfl (a_move_ip (lq rfl) rfl)) ?_ | refine sq_a (ag_plain rfl (a_move_tup (lq rfl) rfl)) ?_
  refine sq_a (ag_plain rfl (a_shr (m := 32) (lq rfl) rfl rfl (by decide))) ?_
  refine sq_a (ag_plain rfl (a_add (lq rfl) rfl rfl (wu64 (by omega) (by omega)))) ?_
  first | refine sq_a (ag_plain rfl (a_assign_d (lq rfl) rfl)) ?_ | refine sq_a (ag_plain rfl (a_assign_row (lq rfl) rfl)) ?_ | refine sq_a (ag_plain rfl (a_assign_ptr (lq rfl) rfl)) ?_
  refine sq_nil ?_
  refine avc_sq2 ?_
  refine avc_sq ?_
  first | refine sq_a (ag_plain rfl (a_move_d (lq rfl) rfl)) ?_ | refine sq_a (ag_plain rfl (a_move_row (lq rfl) rfl)) ?_ | refine sq_a (ag_plain rfl (a_move_ptr (lq rfl) rfl)) ?_ | refine sq_a (ag_plain rfl (a_move_ip (lq rfl) rfl)) ?_ | refine sq_a (ag_plain rfl (a_move_tup (lq rfl) rfl)) ?_
  first | refine sq_a (ag_plain rfl (a_move_d (lq rfl) rfl)) ?_ | refine sq_a (ag_plain rfl (a_move_row (lq rfl) rfl)) ?_ | refine sq_a (ag_plain rfl (a_move_ptr (lq rfl) rfl)) ?_ | refine sq_a (ag_plain rfl (a_move_ip (lq rfl) rfl)) ?_ | refine sq_a (ag_plain rfl (a_move_tup (lq rfl) rfl)) ?_
  refine sq_a (ag_plain rfl (a_mul (lq rfl) rfl rfl (wu64 (by omega) (by omega)))) ?_
  first | refine sq_a (ag_plain rfl (a_assign_d (lq rfl) rfl)) ?_ | refine sq_a (ag_plain rfl (a_assign_row (lq rfl) rfl)) ?_ | refine sq_a (ag_plain rfl (a_assign_ptr (lq rfl) rfl)) ?_
  refine sq_nil ?_
  refine avc_ret ?_
  exact ret_two (by first | rfl | exact congrArg some (congrArg (fun n => DV.v (.int .u64 n)) (by omega))) (by first | rfl | exact congrArg some (congrArg (fun n => DV.v (.int .u64 n)) (by omega)))

theorem mul_c (y : Int) (h0 : 0 ≤ y) (h1 : y < 2147483648) : Contract Try.prog 27 [du 1, du y] [du 0, du y] := by
  refine contract_of Try.func27 (by kernel_rfl) rfl (lq rfl) (lq rfl) fun w0 I0 => ?_
  refine avc_sq2 ?_
  refine avc_sq ?_
  refine sq_a (ag_plain rfl (a_assign_d (lq rfl) rfl)) ?_
  refine sq_a (ag_plain rfl (a_assign_d (lq rfl) rfl)) ?_
  refine sq_nil ?_
  refine avc_sq2 ?_
  refine avc_if rfl ⟨fun hc0 => ?_, fun hc0 => ?_⟩
  ·
    try simp only [Bool.and_eq_true, Bool.or_eq_true, Bool.not_eq_true', Bool.and_eq_false_iff, Bool.or_eq_false_iff, Bool.not_eq_false', decide_eq_true_eq, decide_eq_false_iff_not, Int.not_lt, Int.not_le] at hc0
    cases hc0
  ·
    try simp only [Bool.and_eq_true, Bool.or_eq_true, Bool.not_eq_true', Bool.and_eq_false_iff, Bool.or_eq_false_iff, Bool.not_eq_false', decide_eq_true_eq, decide_eq_false_iff_not, Int.not_lt, Int.not_le] at hc0
    refine avc_skip ?_
    refine avc_sq2 ?_
    refine avc_sq ?_
    first | refine sq_a (ag_plain rfl (a_move_d (lq rfl) rfl)) ?_ | refine sq_a (ag_plain rfl (a_move_row (lq rfl) rfl)) ?_ | refine sq_a (ag_plain rfl (a_move_ptr (lq rfl) rfl)) ?_ | refine sq_a (ag_plain rfl (a_move_ip (lq rfl) rfl)) ?_ | refine sq_a (ag_plain rfl (a_move_tup (lq rfl) rfl)) ?_
    first | refine sq_a (ag_plain rfl (a_move_d (lq rfl) rfl)) ?_ | refine sq_a (ag_plain rfl (a_move_row (lq rfl) rfl)) ?_ | refine sq_a (ag_plain rfl (a_move_ptr (lq rfl) rfl)) ?_ | refine sq_a (ag_plain rfl (a_move_ip (lq rfl) rfl)) ?_ | refine sq_a (ag_plain rfl (a_move_tup (lq rfl) rfl)) ?_
    refine sq_a (ag_plain rfl (a_call (lq rfl) rfl (mul64_c _ (by omega) (by omega)))) ?_
    first | refine sq_a (ag_plain rfl (a_move_d (lq rfl) rfl)) ?_ | refine sq_a (ag_plain rfl (a_move_row (lq rfl) rfl)) ?_ | refine sq_a (ag_plain rfl (a_move_ptr (lq rfl) rfl)) ?_ | refine sq_a (ag_plain rfl (a_move_ip (lq rfl) rfl)) ?_ | refine sq_a (ag_plain rfl (a_move_tup (lq rfl) rfl)) ?_
    refine sq_a (ag_plain rfl (a_extract (lq rfl) rfl rfl)) ?_
    refine sq_a (ag_plain rfl (a_extract (lq rfl) rfl rfl)) ?_
    first | refine sq_a (ag_plain rfl (a_assign_d (lq rfl) rfl)) ?_ | refine sq_a (ag_plain rfl (a_assign_row (lq rfl) rfl)) ?_ | refine sq_a (ag_plain rfl (a_assign_ptr (lq rfl) rfl)) ?_
    first | refine sq_a (ag_plain rfl (a_assign_d (lq rfl) rfl)) ?_ | refine sq_a (ag_plain rfl (a_assign_row (lq rfl) rfl)) ?_ | refine sq_a (ag_plain rfl (a_assign_ptr (lq rfl) rfl)) ?_
    refine sq_nil ?_
    refine avc_sq2 ?_
    refine avc_sq ?_
    first | refine sq_a (ag_plain rfl (a_move_d (lq rfl) rfl)) ?_ | refine sq_a (ag_plain rfl (a_move_row (lq rfl) rfl)) ?_ | refine sq_a (ag_plain rfl (a_move_ptr (lq rfl) rfl)) ?_ | refine sq_a (ag_plain rfl (a_move_ip (lq rfl) rfl)) ?_ | refine sq_a (ag_plain rfl (a_move_tup (lq rfl) rfl)) ?_
    first | refine sq_a (ag_plain rfl (a_move_d (lq rfl) rfl)) ?_ | refine sq_a (ag_plain rfl (a_move_row (lq rfl) rfl)) ?_ | refine sq_a (ag_plain rfl (a_move_ptr (lq rfl) rfl)) ?_ | refine sq_a (ag_plain rfl (a_move_ip (lq rfl) rfl)) ?_ | refine sq_a (ag_plain rfl (a_move_tup (lq rfl) rfl)) ?_
    first | refine sq_a (ag_plain rfl (a_assign_d (lq rfl) rfl)) ?_ | refine sq_a (ag_plain rfl (a_assign_row (lq rfl) rfl)) ?_ | refine sq_a (ag_plain rfl (a_assign_ptr (lq rfl) rfl)) ?_
    first | refine sq_a (ag_plain rfl (a_assign_d (lq rfl) rfl)) ?_ | refine sq_a (ag_plain rfl (a_assign_row (lq rfl) rfl)) ?_ | refine sq_a (ag_plain rfl (a_assign_ptr (lq rfl) rfl)) ?_
    refine sq_nil ?_
    refine avc_ret ?_
    exact ret_two rfl rfl

theorem repeat_c (v : Int) (n : Nat) (h1 : n < 2147483648) : Contract Try.prog 21 [.ints [v], di n] [.ints (List.replicate n v)] := by
  refine contract_of Try.func21 (by kernel_rfl) rfl (lq rfl) (lq rfl) fun w0 I0 => ?_
  refine avc_sq2 ?_
  refine avc_sq ?_
  refine sq_a (ag_plain rfl (a_assign_d (lq rfl) rfl)) ?_
  refine sq_nil ?_
  refine avc_sq2 ?_
  refine avc_sq2 ?_
  refine avc_sq ?_
  first | refine sq_a (ag_plain rfl (a_move_d (lq rfl) rfl)) ?_ | refine sq_a (ag_plain rfl (a_move_row (lq rfl) rfl)) ?_ | refine sq_a (ag_plain rfl (a_move_ptr (lq rfl) rfl)) ?_ | refine sq_a (ag_plain rfl (a_move_ip (lq rfl) rfl)) ?_ | refine sq_a (ag_plain rfl (a_move_tup (lq rfl) rfl)) ?_
  refine sq_a (ag_plain rfl (a_lss (lq rfl) rfl rfl)) ?_
  refine sq_nil ?_
  refine avc_if rfl ⟨fun hc0 => ?_, fun hc0 => ?_⟩
  ·
    try simp only [Bool.and_eq_true, Bool.or_eq_true, Bool.not_eq_true', Bool.and_eq_false_iff, Bool.or_eq_false_iff, Bool.not_eq_false', decide_eq_true_eq, decide_eq_false_iff_not, Int.not_lt, Int.not_le] at hc0
    exfalso; omega
  ·
    try simp only [Bool.and_eq_true, Bool.or_eq_true, Bool.not_eq_true', Bool.and_eq_false_iff, Bool.or_eq_false_iff, Bool.not_eq_false', decide_eq_true_eq, decide_eq_false_iff_not, Int.not_lt, Int.not_le] at hc0
    refine avc_skip ?_
    refine avc_sq2 ?_
    refine avc_sq ?_
    first | refine sq_a (ag_plain rfl (a_move_d (lq rfl) rfl)) ?_ | refine sq_a (ag_plain rfl (a_move_row (lq rfl) rfl)) ?_ | refine sq_a (ag_plain rfl (a_move_ptr (lq rfl) rfl)) ?_ | refine sq_a (ag_plain rfl (a_move_ip (lq rfl) rfl)) ?_ | refine sq_a (ag_plain rfl (a_move_tup (lq rfl) rfl)) ?_
    first | refine sq_a (ag_plain rfl (a_len_d (lq rfl) S22 rfl (rfl : _ = 1 * 1))) ?_ | refine sq_a (ag_plain rfl (a_len_d (lq rfl) S22 rfl (rp_len _ (by omega)))) ?_ | refine sq_a (ag_plain rfl (a_len_row (lq rfl) S22 rfl rfl (rfl : _ = 1 * 1))) ?_ | refine sq_a (ag_plain rfl (a_len_row (lq rfl) S22 rfl rfl (rp_len _ (by omega)))) ?_ | refine sq_a (ag_plain rfl (a_len_nil (lq rfl) Try.underlying22 rfl)) ?_
    refine sq_a (ag_plain rfl (a_conv_to (lq rfl) Try.underlying3 Try.underlying44 rfl (wu64 (by omega) (by omega)))) ?_
    first | refine sq_a (ag_plain rfl (a_move_d (lq rfl) rfl)) ?_ | refine sq_a (ag_plain rfl (a_move_row (lq rfl) rfl)) ?_ | refine sq_a (ag_plain rfl (a_move_ptr (lq rfl) rfl)) ?_ | refine sq_a (ag_plain rfl (a_move_ip (lq rfl) rfl)) ?_ | refine sq_a (ag_plain rfl (a_move_tup (lq rfl) rfl)) ?_
    refine sq_a (ag_plain rfl (a_conv_to (lq rfl) Try.underlying3 Try.underlying44 rfl (wu64 (by omega) (by omega)))) ?_
    refine sq_a (ag_plain rfl (a_call (lq rfl) rfl (mul_c _ (by omega) (by omega)))) ?_
    first | refine sq_a (ag_plain rfl (a_move_d (lq rfl) rfl)) ?_ | refine sq_a (ag_plain rfl (a_move_row (lq rfl) rfl)) ?_ | refine sq_a (ag_plain rfl (a_move_ptr (lq rfl) rfl)) ?_ | refine sq_a (ag_plain rfl (a_move_ip (lq rfl) rfl)) ?_ | refine sq_a (ag_plain rfl (a_move_tup (lq rfl) rfl)) ?_
    refine sq_a (ag_plain rfl (a_extract (lq rfl) rfl rfl)) ?_
    refine sq_a (ag_plain rfl (a_extract (lq rfl) rfl rfl)) ?_
    first | refine sq_a (ag_plain rfl (a_assign_d (lq rfl) rfl)) ?_ | refine sq_a (ag_plain rfl (a_assign_row (lq rfl) rfl)) ?_ | refine sq_a (ag_plain rfl (a_assign_ptr (lq rfl) rfl)) ?_
    first | refine sq_a (ag_plain rfl (a_assign_d (lq rfl) rfl)) ?_ | refine sq_a (ag_plain rfl (a_assign_row (lq rfl) rfl)) ?_ | refine sq_a (ag_plain rfl (a_assign_ptr (lq rfl) rfl)) ?_
    refine sq_nil ?_
    refine avc_sq2 ?_
    refine avc_sq2 ?_
    refine avc_sq ?_
    first | refine sq_a (ag_plain rfl (a_move_d (lq rfl) rfl)) ?_ | refine sq_a (ag_plain rfl (a_move_row (lq rfl) rfl)) ?_ | refine sq_a (ag_plain rfl (a_move_ptr (lq rfl) rfl)) ?_ | refine sq_a (ag_plain rfl (a_move_ip (lq rfl) rfl)) ?_ | refine sq_a (ag_plain rfl (a_move_tup (lq rfl) rfl)) ?_
    refine sq_a (ag_plain rfl (a_gtr (lq rfl) rfl rfl)) ?_
    first | refine sq_a (ag_plain rfl (a_move_d (lq rfl) rfl)) ?_ | refine sq_a (ag_plain rfl (a_move_row (lq rfl) rfl)) ?_ | refine sq_a (ag_plain rfl (a_move_ptr (lq rfl) rfl)) ?_ | refine sq_a (ag_plain rfl (a_move_ip (lq rfl) rfl)) ?_ | refine sq_a (ag_plain rfl (a_move_tup (lq rfl) rfl)) ?_
    first | (apply sq_g rfl rfl rfl (lq rfl) (lq rfl) rfl; focus (intro hb; simp only [gd, Bool.not_eq_true'] at hb; (try rw [hb]); (try simp only [decide_eq_true_eq, decide_eq_false_iff_not, Bool.and_eq_true, Bool.or_eq_false_iff, Bool.not_eq_true'] at hb); first | exact a_move_d (lq rfl) rfl | exact a_move_row (lq rfl) rfl | exact a_move_ptr (lq rfl) rfl | exact a_move_ip (lq rfl) rfl | exact a_move_tup (lq rfl) rfl)) | (apply sq_g2 rfl rfl rfl (lq rfl) (lq rfl) rfl; focus (intro hb; simp only [gd, Bool.and_eq_true, Bool.not_eq_true'] at hb; (try rw [hb.1]); (try rw [hb.2]); (try simp only [decide_eq_true_eq, decide_eq_false_iff_not, Bool.and_eq_true, Bool.or_eq_false_iff, Bool.not_eq_true'] at hb); first | exact a_move_d (lq rfl) rfl | exact a_move_row (lq rfl) rfl | exact a_move_ptr (lq rfl) rfl | exact a_move_ip (lq rfl) rfl | exact a_move_tup (lq rfl) rfl))
    first | (apply sq_g rfl rfl rfl (lq rfl) (lq rfl) rfl; focus (intro hb; simp only [gd, Bool.not_eq_true'] at hb; (try rw [hb]); (try simp only [decide_eq_true_eq, decide_eq_false_iff_not, Bool.and_eq_true, Bool.or_eq_false_iff, Bool.not_eq_true'] at hb); exact a_gtr (lq rfl) rfl rfl)) | (apply sq_g2 rfl rfl rfl (lq rfl) (lq rfl) rfl; focus (intro hb; simp only [gd, Bool.and_eq_true, Bool.not_eq_true'] at hb; (try rw [hb.1]); (try rw [hb.2]); (try simp only [decide_eq_true_eq, decide_eq_false_iff_not, Bool.and_eq_true, Bool.or_eq_false_iff, Bool.not_eq_true'] at hb); exact a_gtr (lq rfl) rfl rfl))
    first | refine sq_a (ag_plain rfl (a_pick_or (lq rfl) rfl rfl)) ?_ | refine sq_a (ag_plain rfl (a_pick_td (lq rfl) rfl rfl)) ?_ | refine sq_a (ag_plain rfl (a_pick_fd (lq rfl) rfl rfl)) ?_
    refine sq_nil ?_
    refine avc_if rfl ⟨fun hc1 => ?_, fun hc1 => ?_⟩
    ·
      try simp only [Bool.and_eq_true, Bool.or_eq_true, Bool.not_eq_true', Bool.and_eq_false_iff, Bool.or_eq_false_iff, Bool.not_eq_false', decide_eq_true_eq, decide_eq_false_iff_not, Int.not_lt, Int.not_le] at hc1
      exfalso; omega
    ·
      try simp only [Bool.and_eq_true, Bool.or_eq_true, Bool.not_eq_true', Bool.and_eq_false_iff, Bool.or_eq_false_iff, Bool.not_eq_false', decide_eq_true_eq, decide_eq_false_iff_not, Int.not_lt, Int.not_le] at hc1
      refine avc_skip ?_
      refine avc_sq2 ?_
      refine avc_sq ?_
      first | refine sq_a (ag_plain rfl (a_move_d (lq rfl) rfl)) ?_ | refine sq_a (ag_plain rfl (a_move_row (lq rfl) rfl)) ?_ | refine sq_a (ag_plain rfl (a_move_ptr (lq rfl) rfl)) ?_ | refine sq_a (ag_plain rfl (a_move_ip (lq rfl) rfl)) ?_ | refine sq_a (ag_plain rfl (a_move_tup (lq rfl) rfl)) ?_
      refine sq_a (ag_plain rfl (a_conv_to (lq rfl) Try.underlying44 Try.underlying3 rfl (w64 (by omega) (by omega)))) ?_
      first | refine sq_b rfl (step_make (lq rfl) S22 rfl rfl (by omega) (by unfold maxLen; omega) rfl) ?_ | refine sq_b rfl (step_make (lq rfl) S22 rfl (ix_nat (by omega)) (by omega) (by unfold maxLen; omega) rfl) ?_
      first | refine sq_a (ag_plain rfl (a_assign_d (lq rfl) rfl)) ?_ | refine sq_a (ag_plain rfl (a_assign_row (lq rfl) rfl)) ?_ | refine sq_a (ag_plain rfl (a_assign_ptr (lq rfl) rfl)) ?_
      refine sq_nil ?_
      refine avc_sq2 ?_
      refine avc_sq ?_
      first | refine sq_a (ag_plain rfl (a_move_d (lq rfl) rfl)) ?_ | refine sq_a (ag_plain rfl (a_move_row (lq rfl) rfl)) ?_ | refine sq_a (ag_plain rfl (a_move_ptr (lq rfl) rfl)) ?_ | refine sq_a (ag_plain rfl (a_move_ip (lq rfl) rfl)) ?_ | refine sq_a (ag_plain rfl (a_move_tup (lq rfl) rfl)) ?_
      first | refine sq_a (ag_plain rfl (a_move_d (lq rfl) rfl)) ?_ | refine sq_a (ag_plain rfl (a_move_row (lq rfl) rfl)) ?_ | refine sq_a (ag_plain rfl (a_move_ptr (lq rfl) rfl)) ?_ | refine sq_a (ag_plain rfl (a_move_ip (lq rfl) rfl)) ?_ | refine sq_a (ag_plain rfl (a_move_tup (lq rfl) rfl)) ?_
      refine sq_b rfl (s_copy_row_d (n := n) (m := 1) (lq rfl) S22 rfl rfl (by simp [zeros_int]) rfl rfl rfl) ?_
      first | refine sq_a (ag_plain rfl (a_assign_d (lq rfl) rfl)) ?_ | refine sq_a (ag_plain rfl (a_assign_row (lq rfl) rfl)) ?_ | refine sq_a (ag_plain rfl (a_assign_ptr (lq rfl) rfl)) ?_
      refine sq_nil ?_
      refine avc_sq2 ?_
      refine avc_block ?_
      refine avc_loop (ι := Nat) (fun k => ⟨[(7, .row 30), (8, .d (di k))], [(30, .row 3 1 false (rp v k n))]⟩) (fun k => k ≤ n ∧ (0 < n → 0 < k)) (fun k => n - k) (min 1 n) ?_ ?_ ?_
      · omega
      · refine weak_cov ⟨?_, ?_, trivial⟩ ⟨?_, trivial⟩ <;> (first | rfl | exact cov_int (by simp; omega) | exact cov_row (rp_make v n))
      · rintro k hp
        obtain ⟨hk, hz⟩ := hp
        refine avc_sq2 ?_
        refine avc_sq2 ?_
        refine avc_sq ?_
        first | refine sq_a (ag_plain rfl (a_move_d (lq rfl) rfl)) ?_ | refine sq_a (ag_plain rfl (a_move_row (lq rfl) rfl)) ?_ | refine sq_a (ag_plain rfl (a_move_ptr (lq rfl) rfl)) ?_ | refine sq_a (ag_plain rfl (a_move_ip (lq rfl) rfl)) ?_ | refine sq_a (ag_plain rfl (a_move_tup (lq rfl) rfl)) ?_
        first | refine sq_a (ag_plain rfl (a_move_d (lq rfl) rfl)) ?_ | refine sq_a (ag_plain rfl (a_move_row (lq rfl) rfl)) ?_ | refine sq_a (ag_plain rfl (a_move_ptr (lq rfl) rfl)) ?_ | refine sq_a (ag_plain rfl (a_move_ip (lq rfl) rfl)) ?_ | refine sq_a (ag_plain rfl (a_move_tup (lq rfl) rfl)) ?_
        first | refine sq_a (ag_plain rfl (a_len_d (lq rfl) S22 rfl (rfl : _ = 1 * 1))) ?_ | refine sq_a (ag_plain rfl (a_len_d (lq rfl) S22 rfl (rp_len _ (by omega)))) ?_ | refine sq_a (ag_plain rfl (a_len_row (lq rfl) S22 rfl rfl (rfl : _ = 1 * 1))) ?_ | refine sq_a (ag_plain rfl (a_len_row (lq rfl) S22 rfl rfl (rp_len _ (by omega)))) ?_ | refine sq_a (ag_plain rfl (a_len_nil (lq rfl) Try.underlying22 rfl)) ?_
        refine sq_a (ag_plain rfl (a_lss (lq rfl) rfl rfl)) ?_
        refine sq_nil ?_
        refine avc_if rfl ⟨fun hc2 => ?_, fun hc2 => ?_⟩
        ·
          try simp only [Bool.and_eq_true, Bool.or_eq_true, Bool.not_eq_true', Bool.and_eq_false_iff, Bool.or_eq_false_iff, Bool.not_eq_false', decide_eq_true_eq, decide_eq_false_iff_not, Int.not_lt, Int.not_le] at hc2
          refine avc_skip ?_
          refine avc_block ?_
          refine avc_drawF (o0 := _) (oB := _) (front := [_, _, _, _, _, _]) (tail := [_, _]) 7 MX rfl rfl rfl ?_
          first | refine da_a (ag_plain rfl (a_move_d (lq rfl) rfl)) ?_ | refine da_a (ag_plain rfl (a_move_row (lq rfl) rfl)) ?_ | refine da_a (ag_plain rfl (a_move_ptr (lq rfl) rfl)) ?_ | refine da_a (ag_plain rfl (a_move_ip (lq rfl) rfl)) ?_ | refine da_a (ag_plain rfl (a_move_tup (lq rfl) rfl)) ?_
          first | refine da_a (ag_plain rfl (a_move_d (lq rfl) rfl)) ?_ | refine da_a (ag_plain rfl (a_move_row (lq rfl) rfl)) ?_ | refine da_a (ag_plain rfl (a_move_ptr (lq rfl) rfl)) ?_ | refine da_a (ag_plain rfl (a_move_ip (lq rfl) rfl)) ?_ | refine da_a (ag_plain rfl (a_move_tup (lq rfl) rfl)) ?_
          refine da_a (ag_plain rfl (a_slice_row (n := n) (l := k) (h := n) (lq rfl) S22 rfl rfl (rp_len v (by omega)) ⟨⟨_, _, rfl, rfl⟩, rfl, by omega, by omega⟩)) ?_
          first | refine da_a (ag_plain rfl (a_move_d (lq rfl) rfl)) ?_ | refine da_a (ag_plain rfl (a_move_row (lq rfl) rfl)) ?_ | refine da_a (ag_plain rfl (a_move_ptr (lq rfl) rfl)) ?_ | refine da_a (ag_plain rfl (a_move_ip (lq rfl) rfl)) ?_ | refine da_a (ag_plain rfl (a_move_tup (lq rfl) rfl)) ?_
          first | refine da_a (ag_plain rfl (a_move_d (lq rfl) rfl)) ?_ | refine da_a (ag_plain rfl (a_move_row (lq rfl) rfl)) ?_ | refine da_a (ag_plain rfl (a_move_ptr (lq rfl) rfl)) ?_ | refine da_a (ag_plain rfl (a_move_ip (lq rfl) rfl)) ?_ | refine da_a (ag_plain rfl (a_move_tup (lq rfl) rfl)) ?_
          refine da_a (ag_plain rfl (a_slice_row (n := n) (l := 0) (h := k) (lq rfl) S22 rfl rfl (rp_len v (by omega)) ⟨rfl, ⟨_, _, rfl, rfl⟩, by omega, by omega⟩)) ?_
          refine da_nil ?_
          first | refine ⟨?_, _, _, ag_plain rfl (a_move_d (lq rfl) rfl), ?_⟩ | refine ⟨?_, _, _, ag_plain rfl (a_move_row (lq rfl) rfl), ?_⟩ | refine ⟨?_, _, _, ag_plain rfl (a_move_ptr (lq rfl) rfl), ?_⟩ | refine ⟨?_, _, _, ag_plain rfl (a_move_ip (lq rfl) rfl), ?_⟩ | refine ⟨?_, _, _, ag_plain rfl (a_move_tup (lq rfl) rfl), ?_⟩
          ·
            refine sq_b rfl (s_copy_rs_rs (n := n) (n1 := n - k) (m := k - 0) (off := k) (o2 := 0) (lq rfl) S22 rfl rfl (rp_len v (by omega)) rfl (by omega) (by omega) rfl) ?_
            first | refine sq_a (ag_plain rfl (a_move_d (lq rfl) rfl)) ?_ | refine sq_a (ag_plain rfl (a_move_row (lq rfl) rfl)) ?_ | refine sq_a (ag_plain rfl (a_move_ptr (lq rfl) rfl)) ?_ | refine sq_a (ag_plain rfl (a_move_ip (lq rfl) rfl)) ?_ | refine sq_a (ag_plain rfl (a_move_tup (lq rfl) rfl)) ?_
            refine sq_a (ag_plain rfl (a_add (lq rfl) rfl rfl (w64 (by omega) (by omega)))) ?_
            first | refine sq_a (ag_plain rfl (a_assign_d (lq rfl) rfl)) ?_ | refine sq_a (ag_plain rfl (a_assign_row (lq rfl) rfl)) ?_ | refine sq_a (ag_plain rfl (a_assign_ptr (lq rfl) rfl)) ?_
            refine sq_nil ?_
            first | refine loop_end  (j := k + min k (n - k)) ?_ ?_ ?_ | refine loop_end  (K := fun _ _ => True) (j := k + min k (n - k)) ?_ ?_ ?_
            · omega
            · omega
            · refine weak_cov ⟨?_, ?_, trivial⟩ ⟨?_, trivial⟩ <;> (first | rfl | exact cov_int (by simp; omega) | exact cov_row (rp_step v hk))
          ·
            refine sq_b rfl (s_copy_rs_rs (n := n) (n1 := n - k) (m := k - 0) (off := k) (o2 := 0) (lq rfl) S22 rfl rfl (rp_len v (by omega)) rfl (by omega) (by omega) rfl) ?_
            refine sq_a (ag_plain rfl (a_add (lq rfl) rfl rfl (w64 (by omega) (by omega)))) ?_
            first | refine sq_a (ag_plain rfl (a_assign_d (lq rfl) rfl)) ?_ | refine sq_a (ag_plain rfl (a_assign_row (lq rfl) rfl)) ?_ | refine sq_a (ag_plain rfl (a_assign_ptr (lq rfl) rfl)) ?_
            refine sq_nil ?_
            first | refine loop_end  (j := k + min k (n - k)) ?_ ?_ ?_ | refine loop_end  (K := fun _ _ => True) (j := k + min k (n - k)) ?_ ?_ ?_
            · omega
            · omega
            · refine weak_cov ⟨?_, ?_, trivial⟩ ⟨?_, trivial⟩ <;> (first | rfl | exact cov_int (by simp; omega) | exact cov_row (rp_step v hk))
        ·
          try simp only [Bool.and_eq_true, Bool.or_eq_true, Bool.not_eq_true', Bool.and_eq_false_iff, Bool.or_eq_false_iff, Bool.not_eq_false', decide_eq_true_eq, decide_eq_false_iff_not, Int.not_lt, Int.not_le] at hc2
          refine avc_exit ?_
          refine avc_sq2 ?_
          refine avc_sq ?_
          first | refine sq_a (ag_plain rfl (a_move_d (lq rfl) rfl)) ?_ | refine sq_a (ag_plain rfl (a_move_row (lq rfl) rfl)) ?_ | refine sq_a (ag_plain rfl (a_move_ptr (lq rfl) rfl)) ?_ | refine sq_a (ag_plain rfl (a_move_ip (lq rfl) rfl)) ?_ | refine sq_a (ag_plain rfl (a_move_tup (lq rfl) rfl)) ?_
          first | refine sq_a (ag_plain rfl (a_assign_d (lq rfl) rfl)) ?_ | refine sq_a (ag_plain rfl (a_assign_row (lq rfl) rfl)) ?_ | refine sq_a (ag_plain rfl (a_assign_ptr (lq rfl) rfl)) ?_
          refine sq_nil ?_
          refine avc_ret ?_
          exact ret_row rfl rfl (by rw [show k = n by omega]; exact rp_done v n)
end Go.Proofs.Ytdelglnpgpaaiaa.Walk

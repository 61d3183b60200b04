/- The layer of abstract values: what a temporary holds, said once; every rule of it is proved from the model. Conditions: none. -/
import Derived.Test.YtdelglnpgpaaiaaWalk3
set_option linter.unusedSimpArgs false
set_option linter.unusedVariables false
set_option linter.unnecessarySimpa false
namespace Go.Proofs.Ytdelglnpgpaaiaa.Walk
open Go.AV Go.RowKit Go.Proofs Go.Plain
theorem awake_c   : Contract Try.prog 8 [] [db true] := by
  refine contract_of Try.func8 (by kernel_rfl) rfl (lq rfl) (lq rfl) fun w0 I0 => ?_
  refine avc_sq2 ?_
  refine avc_sq ?_
  refine sq_a (ag_plain rfl (a_assign_d (lq rfl) rfl)) ?_
  refine sq_nil ?_
  refine avc_sq2 ?_
  refine avc_sq ?_
  refine sq_a (ag_plain rfl (a_lit (lq rfl) S22 rfl rfl rfl rfl (by decide) rfl)) ?_
  refine sq_a (ag_plain rfl (a_call (lq rfl) rfl (by have q := pack_c [32, 32, 32, 33] 32 (by decide); rw [show pk (common 32) (plain [32, 32, 32, 33]) = [44, 47] by rfl] at q; exact q))) ?_
  first | refine sq_a (ag_plain rfl (a_assign_d (lq rfl) rfl)) ?_ | refine sq_a (ag_plain rfl (a_assign_row (lq rfl) rfl)) ?_ | refine sq_a (ag_plain rfl (a_assign_ptr (lq rfl) rfl)) ?_
  refine sq_nil ?_
  refine avc_sq2 ?_
  refine avc_sq ?_
  refine sq_a (ag_plain rfl (a_lit (lq rfl) S22 rfl rfl rfl rfl (by decide) rfl)) ?_
  refine sq_a (ag_plain rfl (a_call (lq rfl) rfl (by have q := unpack_c [34] 32 (by decide); rw [show unpR 32 [34] = ([32, 32, 32], 0) by rfl] at q; exact q))) ?_
  first | refine sq_a (ag_plain rfl (a_move_d (lq rfl) rfl)) ?_ | refine sq_a (ag_plain rfl (a_move_row (lq rfl) rfl)) ?_ | refine sq_a (ag_plain rfl (a_move_ptr (lq rfl) rfl)) ?_ | refine sq_a (ag_plain rfl (a_move_ip (lq rfl) rfl)) ?_ | refine sq_a (ag_plain rfl (a_move_tup (lq rfl) rfl)) ?_
  refine sq_a (ag_plain rfl (a_extract (lq rfl) rfl rfl)) ?_
  refine sq_a (ag_plain rfl (a_extract (lq rfl) rfl rfl)) ?_
  first | refine sq_a (ag_plain rfl (a_assign_d (lq rfl) rfl)) ?_ | refine sq_a (ag_plain rfl (a_assign_row (lq rfl) rfl)) ?_ | refine sq_a (ag_plain rfl (a_assign_ptr (lq rfl) rfl)) ?_
  first | refine sq_a (ag_plain rfl (a_assign_d (lq rfl) rfl)) ?_ | refine sq_a (ag_plain rfl (a_assign_row (lq rfl) rfl)) ?_ | refine sq_a (ag_plain rfl (a_assign_ptr (lq rfl) rfl)) ?_
  refine sq_nil ?_
  refine avc_sq2 ?_
  refine avc_sq ?_
  refine sq_a (ag_plain rfl (a_lit (lq rfl) S22 rfl rfl rfl rfl (by decide) rfl)) ?_
  refine sq_a (ag_plain rfl (a_call (lq rfl) rfl (by have q := unpack_c [44] 32 (by decide); rw [show unpR 32 [44] = ([], 11) by rfl] at q; exact q))) ?_
  first | refine sq_a (ag_plain rfl (a_move_d (lq rfl) rfl)) ?_ | refine sq_a (ag_plain rfl (a_move_row (lq rfl) rfl)) ?_ | refine sq_a (ag_plain rfl (a_move_ptr (lq rfl) rfl)) ?_ | refine sq_a (ag_plain rfl (a_move_ip (lq rfl) rfl)) ?_ | refine sq_a (ag_plain rfl (a_move_tup (lq rfl) rfl)) ?_
  refine sq_a (ag_plain rfl (a_extract (lq rfl) rfl rfl)) ?_
  refine sq_a (ag_plain rfl (a_extract (lq rfl) rfl rfl)) ?_
  first | refine sq_a (ag_plain rfl (a_assign_d (lq rfl) rfl)) ?_ | refine sq_a (ag_plain rfl (a_assign_row (lq rfl) rfl)) ?_ | refine sq_a (ag_plain rfl (a_assign_ptr (lq rfl) rfl)) ?_
  first | refine sq_a (ag_plain rfl (a_assign_d (lq rfl) rfl)) ?_ | refine sq_a (ag_plain rfl (a_assign_row (lq rfl) rfl)) ?_ | refine sq_a (ag_plain rfl (a_assign_ptr (lq rfl) rfl)) ?_
  refine sq_nil ?_
  refine avc_sq2 ?_
  refine avc_sq ?_
  first | refine sq_a (ag_plain rfl (a_move_d (lq rfl) rfl)) ?_ | refine sq_a (ag_plain rfl (a_move_row (lq rfl) rfl)) ?_ | refine sq_a (ag_plain rfl (a_move_ptr (lq rfl) rfl)) ?_ | refine sq_a (ag_plain rfl (a_move_ip (lq rfl) rfl)) ?_ | refine sq_a (ag_plain rfl (a_move_tup (lq rfl) rfl)) ?_
  refine sq_a (ag_plain rfl (a_lit (lq rfl) S22 rfl rfl rfl rfl (by decide) rfl)) ?_
  refine sq_a (ag_plain rfl (a_call (lq rfl) rfl (refSame_c [44, 47] (by decide)))) ?_
  first | refine sq_a (ag_plain rfl (a_move_d (lq rfl) rfl)) ?_ | refine sq_a (ag_plain rfl (a_move_row (lq rfl) rfl)) ?_ | refine sq_a (ag_plain rfl (a_move_ptr (lq rfl) rfl)) ?_ | refine sq_a (ag_plain rfl (a_move_ip (lq rfl) rfl)) ?_ | refine sq_a (ag_plain rfl (a_move_tup (lq rfl) rfl)) ?_
  first | (apply sq_g rfl rfl rfl (lq rfl) (lq rfl) rfl; focus (intro hb; simp only [gd, Bool.not_eq_true'] at hb; (try rw [hb]); (try simp only [decide_eq_true_eq, decide_eq_false_iff_not, Bool.and_eq_true, Bool.or_eq_false_iff, Bool.not_eq_true'] at hb); first | exact a_move_d (lq rfl) rfl | exact a_move_row (lq rfl) rfl | exact a_move_ptr (lq rfl) rfl | exact a_move_ip (lq rfl) rfl | exact a_move_tup (lq rfl) rfl)) | (apply sq_g2 rfl rfl rfl (lq rfl) (lq rfl) rfl; focus (intro hb; simp only [gd, Bool.and_eq_true, Bool.not_eq_true'] at hb; (try rw [hb.1]); (try rw [hb.2]); (try simp only [decide_eq_true_eq, decide_eq_false_iff_not, Bool.and_eq_true, Bool.or_eq_false_iff, Bool.not_eq_true'] at hb); first | exact a_move_d (lq rfl) rfl | exact a_move_row (lq rfl) rfl | exact a_move_ptr (lq rfl) rfl | exact a_move_ip (lq rfl) rfl | exact a_move_tup (lq rfl) rfl))
  first | (apply sq_g rfl rfl rfl (lq rfl) (lq rfl) rfl; focus (intro hb; simp only [gd, Bool.not_eq_true'] at hb; (try rw [hb]); (try simp only [decide_eq_true_eq, decide_eq_false_iff_not, Bool.and_eq_true, Bool.or_eq_false_iff, Bool.not_eq_true'] at hb); exact a_lit (lq rfl) S22 rfl rfl rfl rfl (by decide) rfl)) | (apply sq_g2 rfl rfl rfl (lq rfl) (lq rfl) rfl; focus (intro hb; simp only [gd, Bool.and_eq_true, Bool.not_eq_true'] at hb; (try rw [hb.1]); (try rw [hb.2]); (try simp only [decide_eq_true_eq, decide_eq_false_iff_not, Bool.and_eq_true, Bool.or_eq_false_iff, Bool.not_eq_true'] at hb); exact a_lit (lq rfl) S22 rfl rfl rfl rfl (by decide) rfl))
  first | (apply sq_g rfl rfl rfl (lq rfl) (lq rfl) rfl; focus (intro hb; simp only [gd, Bool.not_eq_true'] at hb; (try rw [hb]); (try simp only [decide_eq_true_eq, decide_eq_false_iff_not, Bool.and_eq_true, Bool.or_eq_false_iff, Bool.not_eq_true'] at hb); exact a_call (lq rfl) rfl (refSame_c [32, 32, 32] (by decide)))) | (apply sq_g2 rfl rfl rfl (lq rfl) (lq rfl) rfl; focus (intro hb; simp only [gd, Bool.and_eq_true, Bool.not_eq_true'] at hb; (try rw [hb.1]); (try rw [hb.2]); (try simp only [decide_eq_true_eq, decide_eq_false_iff_not, Bool.and_eq_true, Bool.or_eq_false_iff, Bool.not_eq_true'] at hb); exact a_call (lq rfl) rfl (refSame_c [32, 32, 32] (by decide))))
  first | refine sq_a (ag_plain rfl (a_pick_and (lq rfl) rfl rfl)) ?_ | refine sq_a (ag_plain rfl (a_pick_td (lq rfl) rfl rfl)) ?_ | refine sq_a (ag_plain rfl (a_pick_fd (lq rfl) rfl rfl)) ?_
  first | refine sq_a (ag_plain rfl (a_move_d (lq rfl) rfl)) ?_ | refine sq_a (ag_plain rfl (a_move_row (lq rfl) rfl)) ?_ | refine sq_a (ag_plain rfl (a_move_ptr (lq rfl) rfl)) ?_ | refine sq_a (ag_plain rfl (a_move_ip (lq rfl) rfl)) ?_ | refine sq_a (ag_plain rfl (a_move_tup (lq rfl) rfl)) ?_
  first | (apply sq_g rfl rfl rfl (lq rfl) (lq rfl) rfl; focus (intro hb; simp only [gd, Bool.not_eq_true'] at hb; (try rw [hb]); (try simp only [decide_eq_true_eq, decide_eq_false_iff_not, Bool.and_eq_true, Bool.or_eq_false_iff, Bool.not_eq_true'] at hb); first | exact a_move_d (lq rfl) rfl | exact a_move_row (lq rfl) rfl | exact a_move_ptr (lq rfl) rfl | exact a_move_ip (lq rfl) rfl | exact a_move_tup (lq rfl) rfl)) | (apply sq_g2 rfl rfl rfl (lq rfl) (lq rfl) rfl; focus (intro hb; simp only [gd, Bool.and_eq_true, Bool.not_eq_true'] at hb; (try rw [hb.1]); (try rw [hb.2]); (try simp only [decide_eq_true_eq, decide_eq_false_iff_not, Bool.and_eq_true, Bool.or_eq_false_iff, Bool.not_eq_true'] at hb); first | exact a_move_d (lq rfl) rfl | exact a_move_row (lq rfl) rfl | exact a_move_ptr (lq rfl) rfl | exact a_move_ip (lq rfl) rfl | exact a_move_tup (lq rfl) rfl))
  first | (apply sq_g rfl rfl rfl (lq rfl) (lq rfl) rfl; focus (intro hb; simp only [gd, Bool.not_eq_true'] at hb; (try rw [hb]); (try simp only [decide_eq_true_eq, decide_eq_false_iff_not, Bool.and_eq_true, Bool.or_eq_false_iff, Bool.not_eq_true'] at hb); exact a_eql (lq rfl) rfl rfl)) | (apply sq_g2 rfl rfl rfl (lq rfl) (lq rfl) rfl; focus (intro hb; simp only [gd, Bool.and_eq_true, Bool.not_eq_true'] at hb; (try rw [hb.1]); (try rw [hb.2]); (try simp only [decide_eq_true_eq, decide_eq_false_iff_not, Bool.and_eq_true, Bool.or_eq_false_iff, Bool.not_eq_true'] at hb); exact a_eql (lq rfl) rfl rfl))
  first | refine sq_a (ag_plain rfl (a_pick_and (lq rfl) rfl rfl)) ?_ | refine sq_a (ag_plain rfl (a_pick_td (lq rfl) rfl rfl)) ?_ | refine sq_a (ag_plain rfl (a_pick_fd (lq rfl) rfl rfl)) ?_
  first | refine sq_a (ag_plain rfl (a_move_d (lq rfl) rfl)) ?_ | refine sq_a (ag_plain rfl (a_move_row (lq rfl) rfl)) ?_ | refine sq_a (ag_plain rfl (a_move_ptr (lq rfl) rfl)) ?_ | refine sq_a (ag_plain rfl (a_move_ip (lq rfl) rfl)) ?_ | refine sq_a (ag_plain rfl (a_move_tup (lq rfl) rfl)) ?_
  first | (apply sq_g rfl rfl rfl (lq rfl) (lq rfl) rfl; focus (intro hb; simp only [gd, Bool.not_eq_true'] at hb; (try rw [hb]); (try simp only [decide_eq_true_eq, decide_eq_false_iff_not, Bool.and_eq_true, Bool.or_eq_false_iff, Bool.not_eq_true'] at hb); first | exact a_move_d (lq rfl) rfl | exact a_move_row (lq rfl) rfl | exact a_move_ptr (lq rfl) rfl | exact a_move_ip (lq rfl) rfl | exact a_move_tup (lq rfl) rfl)) | (apply sq_g2 rfl rfl rfl (lq rfl) (lq rfl) rfl; focus (intro hb; simp only [gd, Bool.and_eq_true, Bool.not_eq_true'] at hb; (try rw [hb.1]); (try rw [hb.2]); (try simp only [decide_eq_true_eq, decide_eq_false_iff_not, Bool.and_eq_true, Bool.or_eq_false_iff, Bool.not_eq_true'] at hb); first | exact a_move_d (lq rfl) rfl | exact a_move_row (lq rfl) rfl | exact a_move_ptr (lq rfl) rfl | exact a_move_ip (lq rfl) rfl | exact a_move_tup (lq rfl) rfl))
  first | (apply sq_g rfl rfl rfl (lq rfl) (lq rfl) rfl; focus (intro hb; simp only [gd, Bool.not_eq_true'] at hb; (try rw [hb]); (try simp only [decide_eq_true_eq, decide_eq_false_iff_not, Bool.and_eq_true, Bool.or_eq_false_iff, Bool.not_eq_true'] at hb); exact a_eql (lq rfl) rfl rfl)) | (apply sq_g2 rfl rfl rfl (lq rfl) (lq rfl) rfl; focus (intro hb; simp only [gd, Bool.and_eq_true, Bool.not_eq_true'] at hb; (try rw [hb.1]); (try rw [hb.2]); (try simp only [decide_eq_true_eq, decide_eq_false_iff_not, Bool.and_eq_true, Bool.or_eq_false_iff, Bool.not_eq_true'] at hb); exact a_eql (lq rfl) rfl rfl))
  first | refine sq_a (ag_plain rfl (a_pick_and (lq rfl) rfl rfl)) ?_ | refine sq_a (ag_plain rfl (a_pick_td (lq rfl) rfl rfl)) ?_ | refine sq_a (ag_plain rfl (a_pick_fd (lq rfl) rfl rfl)) ?_
  first | refine sq_a (ag_plain rfl (a_move_d (lq rfl) rfl)) ?_ | refine sq_a (ag_plain rfl (a_move_row (lq rfl) rfl)) ?_ | refine sq_a (ag_plain rfl (a_move_ptr (lq rfl) rfl)) ?_ | refine sq_a (ag_plain rfl (a_move_ip (lq rfl) rfl)) ?_ | refine sq_a (ag_plain rfl (a_move_tup (lq rfl) rfl)) ?_
  first | (apply sq_g rfl rfl rfl (lq rfl) (lq rfl) rfl; focus (intro hb; simp only [gd, Bool.not_eq_true'] at hb; (try rw [hb]); (try simp only [decide_eq_true_eq, decide_eq_false_iff_not, Bool.and_eq_true, Bool.or_eq_false_iff, Bool.not_eq_true'] at hb); exact a_lit (lq rfl) S22 rfl rfl rfl rfl (by decide) rfl)) | (apply sq_g2 rfl rfl rfl (lq rfl) (lq rfl) rfl; focus (intro hb; simp only [gd, Bool.and_eq_true, Bool.not_eq_true'] at hb; (try rw [hb.1]); (try rw [hb.2]); (try simp only [decide_eq_true_eq, decide_eq_false_iff_not, Bool.and_eq_true, Bool.or_eq_false_iff, Bool.not_eq_true'] at hb); exact a_lit (lq rfl) S22 rfl rfl rfl rfl (by decide) rfl))
  first | (apply sq_g rfl rfl rfl (lq rfl) (lq rfl) rfl; focus (intro hb; simp only [gd, Bool.not_eq_true'] at hb; (try rw [hb]); (try simp only [decide_eq_true_eq, decide_eq_false_iff_not, Bool.and_eq_true, Bool.or_eq_false_iff, Bool.not_eq_true'] at hb); exact a_call (lq rfl) rfl (varint_c [63, 64, 16384] (by decide)))) | (apply sq_g2 rfl rfl rfl (lq rfl) (lq rfl) rfl; focus (intro hb; simp only [gd, Bool.and_eq_true, Bool.not_eq_true'] at hb; (try rw [hb.1]); (try rw [hb.2]); (try simp only [decide_eq_true_eq, decide_eq_false_iff_not, Bool.and_eq_true, Bool.or_eq_false_iff, Bool.not_eq_true'] at hb); exact a_call (lq rfl) rfl (varint_c [63, 64, 16384] (by decide))))
  first | (apply sq_g rfl rfl rfl (lq rfl) (lq rfl) rfl; focus (intro hb; simp only [gd, Bool.not_eq_true'] at hb; (try rw [hb]); (try simp only [decide_eq_true_eq, decide_eq_false_iff_not, Bool.and_eq_true, Bool.or_eq_false_iff, Bool.not_eq_true'] at hb); exact (a_seql (lq rfl) rfl rfl).bool (b := true) (by rw [show strOfNums (vbs [63, 64, 16384]) = ⟨#[63, 64, 64, 128, 0, 64, 0]⟩ by decide]; exact beq_self_eq_true _))) | (apply sq_g2 rfl rfl rfl (lq rfl) (lq rfl) rfl; focus (intro hb; simp only [gd, Bool.and_eq_true, Bool.not_eq_true'] at hb; (try rw [hb.1]); (try rw [hb.2]); (try simp only [decide_eq_true_eq, decide_eq_false_iff_not, Bool.and_eq_true, Bool.or_eq_false_iff, Bool.not_eq_true'] at hb); exact (a_seql (lq rfl) rfl rfl).bool (b := true) (by rw [show strOfNums (vbs [63, 64, 16384]) = ⟨#[63, 64, 64, 128, 0, 64, 0]⟩ by decide]; exact beq_self_eq_true _)))
  first | refine sq_a (ag_plain rfl (a_pick_and (lq rfl) rfl rfl)) ?_ | refine sq_a (ag_plain rfl (a_pick_td (lq rfl) rfl rfl)) ?_ | refine sq_a (ag_plain rfl (a_pick_fd (lq rfl) rfl rfl)) ?_
  first | refine sq_a (ag_plain rfl (a_move_d (lq rfl) rfl)) ?_ | refine sq_a (ag_plain rfl (a_move_row (lq rfl) rfl)) ?_ | refine sq_a (ag_plain rfl (a_move_ptr (lq rfl) rfl)) ?_ | refine sq_a (ag_plain rfl (a_move_ip (lq rfl) rfl)) ?_ | refine sq_a (ag_plain rfl (a_move_tup (lq rfl) rfl)) ?_
  first | (apply sq_g rfl rfl rfl (lq rfl) (lq rfl) rfl; focus (intro hb; simp only [gd, Bool.not_eq_true'] at hb; (try rw [hb]); (try simp only [decide_eq_true_eq, decide_eq_false_iff_not, Bool.and_eq_true, Bool.or_eq_false_iff, Bool.not_eq_true'] at hb); exact a_lit (lq rfl) S22 rfl rfl rfl rfl (by decide) rfl)) | (apply sq_g2 rfl rfl rfl (lq rfl) (lq rfl) rfl; focus (intro hb; simp only [gd, Bool.and_eq_true, Bool.not_eq_true'] at hb; (try rw [hb.1]); (try rw [hb.2]); (try simp only [decide_eq_true_eq, decide_eq_false_iff_not, Bool.and_eq_true, Bool.or_eq_false_iff, Bool.not_eq_true'] at hb); exact a_lit (lq rfl) S22 rfl rfl rfl rfl (by decide) rfl))
  first | (apply sq_g rfl rfl rfl (lq rfl) (lq rfl) rfl; focus (intro hb; simp only [gd, Bool.not_eq_true'] at hb; (try rw [hb]); (try simp only [decide_eq_true_eq, decide_eq_false_iff_not, Bool.and_eq_true, Bool.or_eq_false_iff, Bool.not_eq_true'] at hb); exact a_call (lq rfl) rfl (bytes_c [32, 32, 32, 33] 32 (by decide)))) | (apply sq_g2 rfl rfl rfl (lq rfl) (lq rfl) rfl; focus (intro hb; simp only [gd, Bool.and_eq_true, Bool.not_eq_true'] at hb; (try rw [hb.1]); (try rw [hb.2]); (try simp only [decide_eq_true_eq, decide_eq_false_iff_not, Bool.and_eq_true, Bool.or_eq_false_iff, Bool.not_eq_true'] at hb); exact a_call (lq rfl) rfl (bytes_c [32, 32, 32, 33] 32 (by decide))))
  first | (apply sq_g rfl rfl rfl (lq rfl) (lq rfl) rfl; focus (intro hb; simp only [gd, Bool.not_eq_true'] at hb; (try rw [hb]); (try simp only [decide_eq_true_eq, decide_eq_false_iff_not, Bool.and_eq_true, Bool.or_eq_false_iff, Bool.not_eq_true'] at hb); exact a_eql (lq rfl) rfl rfl)) | (apply sq_g2 rfl rfl rfl (lq rfl) (lq rfl) rfl; focus (intro hb; simp only [gd, Bool.and_eq_true, Bool.not_eq_true'] at hb; (try rw [hb.1]); (try rw [hb.2]); (try simp only [decide_eq_true_eq, decide_eq_false_iff_not, Bool.and_eq_true, Bool.or_eq_false_iff, Bool.not_eq_true'] at hb); exact a_eql (lq rfl) rfl rfl))
  first | refine sq_a (ag_plain rfl (a_pick_and (lq rfl) rfl rfl)) ?_ | refine sq_a (ag_plain rfl (a_pick_td (lq rfl) rfl rfl)) ?_ | refine sq_a (ag_plain rfl (a_pick_fd (lq rfl) rfl rfl)) ?_
  first | refine sq_a (ag_plain rfl (a_assign_d (lq rfl) rfl)) ?_ | refine sq_a (ag_plain rfl (a_assign_row (lq rfl) rfl)) ?_ | refine sq_a (ag_plain rfl (a_assign_ptr (lq rfl) rfl)) ?_
  refine sq_nil ?_
  refine avc_ret ?_
  exact ret_bool rfl (by rfl)

theorem returns_c (l : List Int) (c : Int)  : Contract Try.prog 4 [.ints l, di c] [db true] := by
  have hpk := pk_le (common c) (plain l)
  have hpl : (plain l).length = l.length := by simp [plain]
  refine contract_of Try.func4 (by kernel_rfl) rfl (lq rfl) (lq rfl) fun w0 I0 => ?_
  refine avc_sq2 ?_
  refine avc_sq ?_
  refine sq_a (ag_plain rfl (a_assign_d (lq rfl) rfl)) ?_
  refine sq_nil ?_
  refine avc_sq2 ?_
  refine avc_sq2 ?_
  refine avc_sq ?_
  first | refine sq_a (ag_plain rfl (a_move_d (lq rfl) rfl)) ?_ | refine sq_a (ag_plain rfl (a_move_row (lq rfl) rfl)) ?_ | refine sq_a (ag_plain rfl (a_move_ptr (lq rfl) rfl)) ?_ | refine sq_a (ag_plain rfl (a_move_ip (lq rfl) rfl)) ?_ | refine sq_a (ag_plain rfl (a_move_tup (lq rfl) rfl)) ?_
  first | refine sq_a (ag_plain rfl (a_len_d (lq rfl) S22 rfl len_map)) ?_ | refine sq_a (ag_plain rfl (a_len_row (lq rfl) S22 rfl rfl len_map)) ?_ | refine sq_a (ag_plain rfl (a_len_nil (lq rfl) Try.underlying22 rfl)) ?_
  refine sq_a (ag_plain rfl (a_gtr (lq rfl) rfl rfl)) ?_
  refine sq_nil ?_
  refine avc_if rfl ⟨fun hc0 => ?_, fun hc0 => ?_⟩
  ·
    try simp only [Bool.and_eq_true, Bool.or_eq_true, Bool.not_eq_true', Bool.and_eq_false_iff, Bool.or_eq_false_iff, Bool.not_eq_false', decide_eq_true_eq, decide_eq_false_iff_not, Int.not_lt, Int.not_le] at hc0
    refine avc_sq2 ?_
    refine avc_sq ?_
    refine sq_a (ag_plain rfl (a_call (lq rfl) rfl (awake_c))) ?_
    first | refine sq_a (ag_plain rfl (a_assign_d (lq rfl) rfl)) ?_ | refine sq_a (ag_plain rfl (a_assign_row (lq rfl) rfl)) ?_ | refine sq_a (ag_plain rfl (a_assign_ptr (lq rfl) rfl)) ?_
    refine sq_nil ?_
    refine avc_ret ?_
    exact ret_bool rfl rfl
  ·
    try simp only [Bool.and_eq_true, Bool.or_eq_true, Bool.not_eq_true', Bool.and_eq_false_iff, Bool.or_eq_false_iff, Bool.not_eq_false', decide_eq_true_eq, decide_eq_false_iff_not, Int.not_lt, Int.not_le] at hc0
    refine avc_skip ?_
    refine avc_sq2 ?_
    refine avc_sq ?_
    first | refine sq_a (ag_plain rfl (a_move_d (lq rfl) rfl)) ?_ | refine sq_a (ag_plain rfl (a_move_row (lq rfl) rfl)) ?_ | refine sq_a (ag_plain rfl (a_move_ptr (lq rfl) rfl)) ?_ | refine sq_a (ag_plain rfl (a_move_ip (lq rfl) rfl)) ?_ | refine sq_a (ag_plain rfl (a_move_tup (lq rfl) rfl)) ?_
    first | refine sq_a (ag_plain rfl (a_move_d (lq rfl) rfl)) ?_ | refine sq_a (ag_plain rfl (a_move_row (lq rfl) rfl)) ?_ | refine sq_a (ag_plain rfl (a_move_ptr (lq rfl) rfl)) ?_ | refine sq_a (ag_plain rfl (a_move_ip (lq rfl) rfl)) ?_ | refine sq_a (ag_plain rfl (a_move_tup (lq rfl) rfl)) ?_
    refine sq_a (ag_plain rfl (a_call (lq rfl) rfl (pack_c _ _ (by omega)))) ?_
    first | refine sq_a (ag_plain rfl (a_assign_d (lq rfl) rfl)) ?_ | refine sq_a (ag_plain rfl (a_assign_row (lq rfl) rfl)) ?_ | refine sq_a (ag_plain rfl (a_assign_ptr (lq rfl) rfl)) ?_
    refine sq_nil ?_
    refine avc_sq2 ?_
    refine avc_sq ?_
    first | refine sq_a (ag_plain rfl (a_move_d (lq rfl) rfl)) ?_ | refine sq_a (ag_plain rfl (a_move_row (lq rfl) rfl)) ?_ | refine sq_a (ag_plain rfl (a_move_ptr (lq rfl) rfl)) ?_ | refine sq_a (ag_plain rfl (a_move_ip (lq rfl) rfl)) ?_ | refine sq_a (ag_plain rfl (a_move_tup (lq rfl) rfl)) ?_
    first | refine sq_a (ag_plain rfl (a_move_d (lq rfl) rfl)) ?_ | refine sq_a (ag_plain rfl (a_move_row (lq rfl) rfl)) ?_ | refine sq_a (ag_plain rfl (a_move_ptr (lq rfl) rfl)) ?_ | refine sq_a (ag_plain rfl (a_move_ip (lq rfl) rfl)) ?_ | refine sq_a (ag_plain rfl (a_move_tup (lq rfl) rfl)) ?_
    refine sq_a (ag_plain rfl (a_call (lq rfl) rfl (by have q := unpack_c (pk (common c) (plain l)) c (by omega); rw [unp_pk] at q; exact q))) ?_
    first | refine sq_a (ag_plain rfl (a_move_d (lq rfl) rfl)) ?_ | refine sq_a (ag_plain rfl (a_move_row (lq rfl) rfl)) ?_ | refine sq_a (ag_plain rfl (a_move_ptr (lq rfl) rfl)) ?_ | refine sq_a (ag_plain rfl (a_move_ip (lq rfl) rfl)) ?_ | refine sq_a (ag_plain rfl (a_move_tup (lq rfl) rfl)) ?_
    refine sq_a (ag_plain rfl (a_extract (lq rfl) rfl rfl)) ?_
    refine sq_a (ag_plain rfl (a_extract (lq rfl) rfl rfl)) ?_
    first | refine sq_a (ag_plain rfl (a_assign_d (lq rfl) rfl)) ?_ | refine sq_a (ag_plain rfl (a_assign_row (lq rfl) rfl)) ?_ | refine sq_a (ag_plain rfl (a_assign_ptr (lq rfl) rfl)) ?_
    first | refine sq_a (ag_plain rfl (a_assign_d (lq rfl) rfl)) ?_ | refine sq_a (ag_plain rfl (a_assign_row (lq rfl) rfl)) ?_ | refine sq_a (ag_plain rfl (a_assign_ptr (lq rfl) rfl)) ?_
    refine sq_nil ?_
    refine avc_sq2 ?_
    refine avc_sq ?_
    first | refine sq_a (ag_plain rfl (a_move_d (lq rfl) rfl)) ?_ | refine sq_a (ag_plain rfl (a_move_row (lq rfl) rfl)) ?_ | refine sq_a (ag_plain rfl (a_move_ptr (lq rfl) rfl)) ?_ | refine sq_a (ag_plain rfl (a_move_ip (lq rfl) rfl)) ?_ | refine sq_a (ag_plain rfl (a_move_tup (lq rfl) rfl)) ?_
    refine sq_a (ag_plain rfl ((a_eql (lq rfl) rfl rfl).bool (b := true) rfl)) ?_
    first | refine sq_a (ag_plain rfl (a_move_d (lq rfl) rfl)) ?_ | refine sq_a (ag_plain rfl (a_move_row (lq rfl) rfl)) ?_ | refine sq_a (ag_plain rfl (a_move_ptr (lq rfl) rfl)) ?_ | refine sq_a (ag_plain rfl (a_move_ip (lq rfl) rfl)) ?_ | refine sq_a (ag_plain rfl (a_move_tup (lq rfl) rfl)) ?_
    first | (apply sq_g rfl rfl rfl (lq rfl) (lq rfl) rfl; focus (intro hb; simp only [gd, Bool.not_eq_true'] at hb; (try rw [hb]); (try simp only [decide_eq_true_eq, decide_eq_false_iff_not, Bool.and_eq_true, Bool.or_eq_false_iff, Bool.not_eq_true'] at hb); first | exact a_move_d (lq rfl) rfl | exact a_move_row (lq rfl) rfl | exact a_move_ptr (lq rfl) rfl | exact a_move_ip (lq rfl) rfl | exact a_move_tup (lq rfl) rfl)) | (apply sq_g2 rfl rfl rfl (lq rfl) (lq rfl) rfl; focus (intro hb; simp only [gd, Bool.and_eq_true, Bool.not_eq_true'] at hb; (try rw [hb.1]); (try rw [hb.2]); (try simp only [decide_eq_true_eq, decide_eq_false_iff_not, Bool.and_eq_true, Bool.or_eq_false_iff, Bool.not_eq_true'] at hb); first | exact a_move_d (lq rfl) rfl | exact a_move_row (lq rfl) rfl | exact a_move_ptr (lq rfl) rfl | exact a_move_ip (lq rfl) rfl | exact a_move_tup (lq rfl) rfl))
    first | (apply sq_g rfl rfl rfl (lq rfl) (lq rfl) rfl; focus (intro hb; simp only [gd, Bool.not_eq_true'] at hb; (try rw [hb]); (try simp only [decide_eq_true_eq, decide_eq_false_iff_not, Bool.and_eq_true, Bool.or_eq_false_iff, Bool.not_eq_true'] at hb); first | exact a_move_d (lq rfl) rfl | exact a_move_row (lq rfl) rfl | exact a_move_ptr (lq rfl) rfl | exact a_move_ip (lq rfl) rfl | exact a_move_tup (lq rfl) rfl)) | (apply sq_g2 rfl rfl rfl (lq rfl) (lq rfl) rfl; focus (intro hb; simp only [gd, Bool.and_eq_true, Bool.not_eq_true'] at hb; (try rw [hb.1]); (try rw [hb.2]); (try simp only [decide_eq_true_eq, decide_eq_false_iff_not, Bool.and_eq_true, Bool.or_eq_false_iff, Bool.not_eq_true'] at hb); first | exact a_move_d (lq rfl) rfl | exact a_move_row (lq rfl) rfl | exact a_move_ptr (lq rfl) rfl | exact a_move_ip (lq rfl) rfl | exact a_move_tup (lq rfl) rfl))
    first | (apply sq_g rfl rfl rfl (lq rfl) (lq rfl) rfl; focus (intro hb; simp only [gd, Bool.not_eq_true'] at hb; (try rw [hb]); (try simp only [decide_eq_true_eq, decide_eq_false_iff_not, Bool.and_eq_true, Bool.or_eq_false_iff, Bool.not_eq_true'] at hb); exact a_call (lq rfl) rfl (refPlain_c _ (by omega)))) | (apply sq_g2 rfl rfl rfl (lq rfl) (lq rfl) rfl; focus (intro hb; simp only [gd, Bool.and_eq_true, Bool.not_eq_true'] at hb; (try rw [hb.1]); (try rw [hb.2]); (try simp only [decide_eq_true_eq, decide_eq_false_iff_not, Bool.and_eq_true, Bool.or_eq_false_iff, Bool.not_eq_true'] at hb); exact a_call (lq rfl) rfl (refPlain_c _ (by omega))))
    first | (apply sq_g rfl rfl rfl (lq rfl) (lq rfl) rfl; focus (intro hb; simp only [gd, Bool.not_eq_true'] at hb; (try rw [hb]); (try simp only [decide_eq_true_eq, decide_eq_false_iff_not, Bool.and_eq_true, Bool.or_eq_false_iff, Bool.not_eq_true'] at hb); exact a_call (lq rfl) rfl (refSame_c (plain l) (by omega)))) | (apply sq_g2 rfl rfl rfl (lq rfl) (lq rfl) rfl; focus (intro hb; simp only [gd, Bool.and_eq_true, Bool.not_eq_true'] at hb; (try rw [hb.1]); (try rw [hb.2]); (try simp only [decide_eq_true_eq, decide_eq_false_iff_not, Bool.and_eq_true, Bool.or_eq_false_iff, Bool.not_eq_true'] at hb); exact a_call (lq rfl) rfl (refSame_c (plain l) (by omega))))
    first | refine sq_a (ag_plain rfl (a_pick_and (lq rfl) rfl rfl)) ?_ | refine sq_a (ag_plain rfl (a_pick_td (lq rfl) rfl rfl)) ?_ | refine sq_a (ag_plain rfl (a_pick_fd (lq rfl) rfl rfl)) ?_
    first | refine sq_a (ag_plain rfl (a_move_d (lq rfl) rfl)) ?_ | refine sq_a (ag_plain rfl (a_move_row (lq rfl) rfl)) ?_ | refine sq_a (ag_plain rfl (a_move_ptr (lq rfl) rfl)) ?_ | refine sq_a (ag_plain rfl (a_move_ip (lq rfl) rfl)) ?_ | refine sq_a (ag_plain rfl (a_move_tup (lq rfl) rfl)) ?_
    first | (apply sq_g rfl rfl rfl (lq rfl) (lq rfl) rfl; focus (intro hb; simp only [gd, Bool.not_eq_true'] at hb; (try rw [hb]); (try simp only [decide_eq_true_eq, decide_eq_false_iff_not, Bool.and_eq_true, Bool.or_eq_false_iff, Bool.not_eq_true'] at hb); first | exact a_move_d (lq rfl) rfl | exact a_move_row (lq rfl) rfl | exact a_move_ptr (lq rfl) rfl | exact a_move_ip (lq rfl) rfl | exact a_move_tup (lq rfl) rfl)) | (apply sq_g2 rfl rfl rfl (lq rfl) (lq rfl) rfl; focus (intro hb; simp only [gd, Bool.and_eq_true, Bool.not_eq_true'] at hb; (try rw [hb.1]); (try rw [hb.2]); (try simp only [decide_eq_true_eq, decide_eq_false_iff_not, Bool.and_eq_true, Bool.or_eq_false_iff, Bool.not_eq_true'] at hb); first | exact a_move_d (lq rfl) rfl | exact a_move_row (lq rfl) rfl | exact a_move_ptr (lq rfl) rfl | exact a_move_ip (lq rfl) rfl | exact a_move_tup (lq rfl) rfl))
    first | (apply sq_g rfl rfl rfl (lq rfl) (lq rfl) rfl; focus (intro hb; simp only [gd, Bool.not_eq_true'] at hb; (try rw [hb]); (try simp only [decide_eq_true_eq, decide_eq_false_iff_not, Bool.and_eq_true, Bool.or_eq_false_iff, Bool.not_eq_true'] at hb); first | exact a_len_d (lq rfl) S22 rfl len_map | exact a_len_row (lq rfl) S22 rfl rfl len_map | exact a_len_nil (lq rfl) Try.underlying22 rfl)) | (apply sq_g2 rfl rfl rfl (lq rfl) (lq rfl) rfl; focus (intro hb; simp only [gd, Bool.and_eq_true, Bool.not_eq_true'] at hb; (try rw [hb.1]); (try rw [hb.2]); (try simp only [decide_eq_true_eq, decide_eq_false_iff_not, Bool.and_eq_true, Bool.or_eq_false_iff, Bool.not_eq_true'] at hb); first | exact a_len_d (lq rfl) S22 rfl len_map | exact a_len_row (lq rfl) S22 rfl rfl len_map | exact a_len_nil (lq rfl) Try.underlying22 rfl))
    first | (apply sq_g rfl rfl rfl (lq rfl) (lq rfl) rfl; focus (intro hb; simp only [gd, Bool.not_eq_true'] at hb; (try rw [hb]); (try simp only [decide_eq_true_eq, decide_eq_false_iff_not, Bool.and_eq_true, Bool.or_eq_false_iff, Bool.not_eq_true'] at hb); first | exact a_move_d (lq rfl) rfl | exact a_move_row (lq rfl) rfl | exact a_move_ptr (lq rfl) rfl | exact a_move_ip (lq rfl) rfl | exact a_move_tup (lq rfl) rfl)) | (apply sq_g2 rfl rfl rfl (lq rfl) (lq rfl) rfl; focus (intro hb; simp only [gd, Bool.and_eq_true, Bool.not_eq_true'] at hb; (try rw [hb.1]); (try rw [hb.2]); (try simp only [decide_eq_true_eq, decide_eq_false_iff_not, Bool.and_eq_true, Bool.or_eq_false_iff, Bool.not_eq_true'] at hb); first | exact a_move_d (lq rfl) rfl | exact a_move_row (lq rfl) rfl | exact a_move_ptr (lq rfl) rfl | exact a_move_ip (lq rfl) rfl | exact a_move_tup (lq rfl) rfl))
    first | (apply sq_g rfl rfl rfl (lq rfl) (lq rfl) rfl; focus (intro hb; simp only [gd, Bool.not_eq_true'] at hb; (try rw [hb]); (try simp only [decide_eq_true_eq, decide_eq_false_iff_not, Bool.and_eq_true, Bool.or_eq_false_iff, Bool.not_eq_true'] at hb); first | exact a_len_d (lq rfl) S22 rfl len_map | exact a_len_row (lq rfl) S22 rfl rfl len_map | exact a_len_nil (lq rfl) Try.underlying22 rfl)) | (apply sq_g2 rfl rfl rfl (lq rfl) (lq rfl) rfl; focus (intro hb; simp only [gd, Bool.and_eq_true, Bool.not_eq_true'] at hb; (try rw [hb.1]); (try rw [hb.2]); (try simp only [decide_eq_true_eq, decide_eq_false_iff_not, Bool.and_eq_true, Bool.or_eq_false_iff, Bool.not_eq_true'] at hb); first | exact a_len_d (lq rfl) S22 rfl len_map | exact a_len_row (lq rfl) S22 rfl rfl len_map | exact a_len_nil (lq rfl) Try.underlying22 rfl))
    first | (apply sq_g rfl rfl rfl (lq rfl) (lq rfl) rfl; focus (intro hb; simp only [gd, Bool.not_eq_true'] at hb; (try rw [hb]); (try simp only [decide_eq_true_eq, decide_eq_false_iff_not, Bool.and_eq_true, Bool.or_eq_false_iff, Bool.not_eq_true'] at hb); exact (a_leq (lq rfl) rfl rfl).bool (b := true) (decide_eq_true (by omega)))) | (apply sq_g2 rfl rfl rfl (lq rfl) (lq rfl) rfl; focus (intro hb; simp only [gd, Bool.and_eq_true, Bool.not_eq_true'] at hb; (try rw [hb.1]); (try rw [hb.2]); (try simp only [decide_eq_true_eq, decide_eq_false_iff_not, Bool.and_eq_true, Bool.or_eq_false_iff, Bool.not_eq_true'] at hb); exact (a_leq (lq rfl) rfl rfl).bool (b := true) (decide_eq_true (by omega))))
    first | refine sq_a (ag_plain rfl (a_pick_and (lq rfl) rfl rfl)) ?_ | refine sq_a (ag_plain rfl (a_pick_td (lq rfl) rfl rfl)) ?_ | refine sq_a (ag_plain rfl (a_pick_fd (lq rfl) rfl rfl)) ?_
    first | refine sq_a (ag_plain rfl (a_move_d (lq rfl) rfl)) ?_ | refine sq_a (ag_plain rfl (a_move_row (lq rfl) rfl)) ?_ | refine sq_a (ag_plain rfl (a_move_ptr (lq rfl) rfl)) ?_ | refine sq_a (ag_plain rfl (a_move_ip (lq rfl) rfl)) ?_ | refine sq_a (ag_plain rfl (a_move_tup (lq rfl) rfl)) ?_
    first | (apply sq_g rfl rfl rfl (lq rfl) (lq rfl) rfl; focus (intro hb; simp only [gd, Bool.not_eq_true'] at hb; (try rw [hb]); (try simp only [decide_eq_true_eq, decide_eq_false_iff_not, Bool.and_eq_true, Bool.or_eq_false_iff, Bool.not_eq_true'] at hb); exact a_call (lq rfl) rfl (awake_c))) | (apply sq_g2 rfl rfl rfl (lq rfl) (lq rfl) rfl; focus (intro hb; simp only [gd, Bool.and_eq_true, Bool.not_eq_true'] at hb; (try rw [hb.1]); (try rw [hb.2]); (try simp only [decide_eq_true_eq, decide_eq_false_iff_not, Bool.and_eq_true, Bool.or_eq_false_iff, Bool.not_eq_true'] at hb); exact a_call (lq rfl) rfl (awake_c)))
    first | refine sq_a (ag_plain rfl (a_pick_and (lq rfl) rfl rfl)) ?_ | refine sq_a (ag_plain rfl (a_pick_td (lq rfl) rfl rfl)) ?_ | refine sq_a (ag_plain rfl (a_pick_fd (lq rfl) rfl rfl)) ?_
    first | refine sq_a (ag_plain rfl (a_assign_d (lq rfl) rfl)) ?_ | refine sq_a (ag_plain rfl (a_assign_row (lq rfl) rfl)) ?_ | refine sq_a (ag_plain rfl (a_assign_ptr (lq rfl) rfl)) ?_
    refine sq_nil ?_
    refine avc_ret ?_
    exact ret_bool rfl rfl

theorem lawRuns_c (n : Nat) (m x : Int) (hn : n < 256) : Contract Try.prog 7 [.v (.int .u8 (n : Int)), di m, di x] [db true] := by
  refine contract_of Try.func7 (by kernel_rfl) rfl (lq rfl) (lq rfl) fun w0 I0 => ?_
  refine avc_sq2 ?_
  refine avc_sq ?_
  refine sq_a (ag_plain rfl (a_assign_d (lq rfl) rfl)) ?_
  refine sq_nil ?_
  refine avc_sq2 ?_
  refine avc_sq2 ?_
  refine avc_sq ?_
  first | refine sq_a (ag_plain rfl (a_move_d (lq rfl) rfl)) ?_ | refine sq_a (ag_plain rfl (a_move_row (lq rfl) rfl)) ?_ | refine sq_a (ag_plain rfl (a_move_ptr (lq rfl) rfl)) ?_ | refine sq_a (ag_plain rfl (a_move_ip (lq rfl) rfl)) ?_ | refine sq_a (ag_plain rfl (a_move_tup (lq rfl) rfl)) ?_
  refine sq_a (ag_plain rfl (a_lss (lq rfl) rfl rfl)) ?_
  first | refine sq_a (ag_plain rfl (a_move_d (lq rfl) rfl)) ?_ | refine sq_a (ag_plain rfl (a_move_row (lq rfl) rfl)) ?_ | refine sq_a (ag_plain rfl (a_move_ptr (lq rfl) rfl)) ?_ | refine sq_a (ag_plain rfl (a_move_ip (lq rfl) rfl)) ?_ | refine sq_a (ag_plain rfl (a_move_tup (lq rfl) rfl)) ?_
  first | (apply sq_g rfl rfl rfl (lq rfl) (lq rfl) rfl; focus (intro hb; simp only [gd, Bool.not_eq_true'] at hb; (try rw [hb]); (try simp only [decide_eq_true_eq, decide_eq_false_iff_not, Bool.and_eq_true, Bool.or_eq_false_iff, Bool.not_eq_true'] at hb); first | exact a_move_d (lq rfl) rfl | exact a_move_row (lq rfl) rfl | exact a_move_ptr (lq rfl) rfl | exact a_move_ip (lq rfl) rfl | exact a_move_tup (lq rfl) rfl)) | (apply sq_g2 rfl rfl rfl (lq rfl) (lq rfl) rfl; focus (intro hb; simp only [gd, Bool.and_eq_true, Bool.not_eq_true'] at hb; (try rw [hb.1]); (try rw [hb.2]); (try simp only [decide_eq_true_eq, decide_eq_false_iff_not, Bool.and_eq_true, Bool.or_eq_false_iff, Bool.not_eq_true'] at hb); first | exact a_move_d (lq rfl) rfl | exact a_move_row (lq rfl) rfl | exact a_move_ptr (lq rfl) rfl | exact a_move_ip (lq rfl) rfl | exact a_move_tup (lq rfl) rfl))
  first | (apply sq_g rfl rfl rfl (lq rfl) (lq rfl) rfl; focus (intro hb; simp only [gd, Bool.not_eq_true'] at hb; (try rw [hb]); (try simp only [decide_eq_true_eq, decide_eq_false_iff_not, Bool.and_eq_true, Bool.or_eq_false_iff, Bool.not_eq_true'] at hb); exact a_gtr (lq rfl) rfl rfl)) | (apply sq_g2 rfl rfl rfl (lq rfl) (lq rfl) rfl; focus (intro hb; simp only [gd, Bool.and_eq_true, Bool.not_eq_true'] at hb; (try rw [hb.1]); (try rw [hb.2]); (try simp only [decide_eq_true_eq, decide_eq_false_iff_not, Bool.and_eq_true, Bool.or_eq_false_iff, Bool.not_eq_true'] at hb); exact a_gtr (lq rfl) rfl rfl))
  first | refine sq_a (ag_plain rfl (a_pick_or (lq rfl) rfl rfl)) ?_ | refine sq_a (ag_plain rfl (a_pick_td (lq rfl) rfl rfl)) ?_ | refine sq_a (ag_plain rfl (a_pick_fd (lq rfl) rfl rfl)) ?_
  first | refine sq_a (ag_plain rfl (a_move_d (lq rfl) rfl)) ?_ | refine sq_a (ag_plain rfl (a_move_row (lq rfl) rfl)) ?_ | refine sq_a (ag_plain rfl (a_move_ptr (lq rfl) rfl)) ?_ | refine sq_a (ag_plain rfl (a_move_ip (lq rfl) rfl)) ?_ | refine sq_a (ag_plain rfl (a_move_tup (lq rfl) rfl)) ?_
  first | (apply sq_g rfl rfl rfl (lq rfl) (lq rfl) rfl; focus (intro hb; simp only [gd, Bool.not_eq_true'] at hb; (try rw [hb]); (try simp only [decide_eq_true_eq, decide_eq_false_iff_not, Bool.and_eq_true, Bool.or_eq_false_iff, Bool.not_eq_true'] at hb); first | exact a_move_d (lq rfl) rfl | exact a_move_row (lq rfl) rfl | exact a_move_ptr (lq rfl) rfl | exact a_move_ip (lq rfl) rfl | exact a_move_tup (lq rfl) rfl)) | (apply sq_g2 rfl rfl rfl (lq rfl) (lq rfl) rfl; focus (intro hb; simp only [gd, Bool.and_eq_true, Bool.not_eq_true'] at hb; (try rw [hb.1]); (try rw [hb.2]); (try simp only [decide_eq_true_eq, decide_eq_false_iff_not, Bool.and_eq_true, Bool.or_eq_false_iff, Bool.not_eq_true'] at hb); first | exact a_move_d (lq rfl) rfl | exact a_move_row (lq rfl) rfl | exact a_move_ptr (lq rfl) rfl | exact a_move_ip (lq rfl) rfl | exact a_move_tup (lq rfl) rfl))
  first | (apply sq_g rfl rfl rfl (lq rfl) (lq rfl) rfl; focus (intro hb; simp only [gd, Bool.not_eq_true'] at hb; (try rw [hb]); (try simp only [decide_eq_true_eq, decide_eq_false_iff_not, Bool.and_eq_true, Bool.or_eq_false_iff, Bool.not_eq_true'] at hb); exact a_lss (lq rfl) rfl rfl)) | (apply sq_g2 rfl rfl rfl (lq rfl) (lq rfl) rfl; focus (intro hb; simp only [gd, Bool.and_eq_true, Bool.not_eq_true'] at hb; (try rw [hb.1]); (try rw [hb.2]); (try simp only [decide_eq_true_eq, decide_eq_false_iff_not, Bool.and_eq_true, Bool.or_eq_false_iff, Bool.not_eq_true'] at hb); exact a_lss (lq rfl) rfl rfl))
  first | refine sq_a (ag_plain rfl (a_pick_or (lq rfl) rfl rfl)) ?_ | refine sq_a (ag_plain rfl (a_pick_td (lq rfl) rfl rfl)) ?_ | refine sq_a (ag_plain rfl (a_pick_fd (lq rfl) rfl rfl)) ?_
  first | refine sq_a (ag_plain rfl (a_move_d (lq rfl) rfl)) ?_ | refine sq_a (ag_plain rfl (a_move_row (lq rfl) rfl)) ?_ | refine sq_a (ag_plain rfl (a_move_ptr (lq rfl) rfl)) ?_ | refine sq_a (ag_plain rfl (a_move_ip (lq rfl) rfl)) ?_ | refine sq_a (ag_plain rfl (a_move_tup (lq rfl) rfl)) ?_
  first | (apply sq_g rfl rfl rfl (lq rfl) (lq rfl) rfl; focus (intro hb; simp only [gd, Bool.not_eq_true'] at hb; (try rw [hb]); (try simp only [decide_eq_true_eq, decide_eq_false_iff_not, Bool.and_eq_true, Bool.or_eq_false_iff, Bool.not_eq_true'] at hb); first | exact a_move_d (lq rfl) rfl | exact a_move_row (lq rfl) rfl | exact a_move_ptr (lq rfl) rfl | exact a_move_ip (lq rfl) rfl | exact a_move_tup (lq rfl) rfl)) | (apply sq_g2 rfl rfl rfl (lq rfl) (lq rfl) rfl; focus (intro hb; simp only [gd, Bool.and_eq_true, Bool.not_eq_true'] at hb; (try rw [hb.1]); (try rw [hb.2]); (try simp only [decide_eq_true_eq, decide_eq_false_iff_not, Bool.and_eq_true, Bool.or_eq_false_iff, Bool.not_eq_true'] at hb); first | exact a_move_d (lq rfl) rfl | exact a_move_row (lq rfl) rfl | exact a_move_ptr (lq rfl) rfl | exact a_move_ip (lq rfl) rfl | exact a_move_tup (lq rfl) rfl))
  first | (apply sq_g rfl rfl rfl (lq rfl) (lq rfl) rfl; focus (intro hb; simp only [gd, Bool.not_eq_true'] at hb; (try rw [hb]); (try simp only [decide_eq_true_eq, decide_eq_false_iff_not, Bool.and_eq_true, Bool.or_eq_false_iff, Bool.not_eq_true'] at hb); exact a_gtr (lq rfl) rfl rfl)) | (apply sq_g2 rfl rfl rfl (lq rfl) (lq rfl) rfl; focus (intro hb; simp only [gd, Bool.and_eq_true, Bool.not_eq_true'] at hb; (try rw [hb.1]); (try rw [hb.2]); (try simp only [decide_eq_true_eq, decide_eq_false_iff_not, Bool.and_eq_true, Bool.or_eq_false_iff, Bool.not_eq_true'] at hb); exact a_gtr (lq rfl) rfl rfl))
  first | refine sq_a (ag_plain rfl (a_pick_or (lq rfl) rfl rfl)) ?_ | refine sq_a (ag_plain rfl (a_pick_td (lq rfl) rfl rfl)) ?_ | refine sq_a (ag_plain rfl (a_pick_fd (lq rfl) rfl rfl)) ?_
  first | refine sq_a (ag_plain rfl (a_move_d (lq rfl) rfl)) ?_ | refine sq_a (ag_plain rfl (a_move_row (lq rfl) rfl)) ?_ | refine sq_a (ag_plain rfl (a_move_ptr (lq rfl) rfl)) ?_ | refine sq_a (ag_plain rfl (a_move_ip (lq rfl) rfl)) ?_ | refine sq_a (ag_plain rfl (a_move_tup (lq rfl) rfl)) ?_
  first | (apply sq_g rfl rfl rfl (lq rfl) (lq rfl) rfl; focus (intro hb; simp only [gd, Bool.not_eq_true'] at hb; (try rw [hb]); (try simp only [decide_eq_true_eq, decide_eq_false_iff_not, Bool.and_eq_true, Bool.or_eq_false_iff, Bool.not_eq_true'] at hb); first | exact a_move_d (lq rfl) rfl | exact a_move_row (lq rfl) rfl | exact a_move_ptr (lq rfl) rfl | exact a_move_ip (lq rfl) rfl | exact a_move_tup (lq rfl) rfl)) | (apply sq_g2 rfl rfl rfl (lq rfl) (lq rfl) rfl; focus (intro hb; simp only [gd, Bool.and_eq_true, Bool.not_eq_true'] at hb; (try rw [hb.1]); (try rw [hb.2]); (try simp only [decide_eq_true_eq, decide_eq_false_iff_not, Bool.and_eq_true, Bool.or_eq_false_iff, Bool.not_eq_true'] at hb); first | exact a_move_d (lq rfl) rfl | exact a_move_row (lq rfl) rfl | exact a_move_ptr (lq rfl) rfl | exact a_move_ip (lq rfl) rfl | exact a_move_tup (lq rfl) rfl))
  first | (apply sq_g rfl rfl rfl (lq rfl) (lq rfl) rfl; focus (intro hb; simp only [gd, Bool.not_eq_true'] at hb; (try rw [hb]); (try simp only [decide_eq_true_eq, decide_eq_false_iff_not, Bool.and_eq_true, Bool.or_eq_false_iff, Bool.not_eq_true'] at hb); first | exact a_move_d (lq rfl) rfl | exact a_move_row (lq rfl) rfl | exact a_move_ptr (lq rfl) rfl | exact a_move_ip (lq rfl) rfl | exact a_move_tup (lq rfl) rfl)) | (apply sq_g2 rfl rfl rfl (lq rfl) (lq rfl) rfl; focus (intro hb; simp only [gd, Bool.and_eq_true, Bool.not_eq_true'] at hb; (try rw [hb.1]); (try rw [hb.2]); (try simp only [decide_eq_true_eq, decide_eq_false_iff_not, Bool.and_eq_true, Bool.or_eq_false_iff, Bool.not_eq_true'] at hb); first | exact a_move_d (lq rfl) rfl | exact a_move_row (lq rfl) rfl | exact a_move_ptr (lq rfl) rfl | exact a_move_ip (lq rfl) rfl | exact a_move_tup (lq rfl) rfl))
  first | (apply sq_g rfl rfl rfl (lq rfl) (lq rfl) rfl; focus (intro hb; simp only [gd, Bool.not_eq_true'] at hb; (try rw [hb]); (try simp only [decide_eq_true_eq, decide_eq_false_iff_not, Bool.and_eq_true, Bool.or_eq_false_iff, Bool.not_eq_true'] at hb); exact a_eql (lq rfl) rfl rfl)) | (apply sq_g2 rfl rfl rfl (lq rfl) (lq rfl) rfl; focus (intro hb; simp only [gd, Bool.and_eq_true, Bool.not_eq_true'] at hb; (try rw [hb.1]); (try rw [hb.2]); (try simp only [decide_eq_true_eq, decide_eq_false_iff_not, Bool.and_eq_true, Bool.or_eq_false_iff, Bool.not_eq_true'] at hb); exact a_eql (lq rfl) rfl rfl))
  first | refine sq_a (ag_plain rfl (a_pick_or (lq rfl) rfl rfl)) ?_ | refine sq_a (ag_plain rfl (a_pick_td (lq rfl) rfl rfl)) ?_ | refine sq_a (ag_plain rfl (a_pick_fd (lq rfl) rfl rfl)) ?_
  refine sq_nil ?_
  refine avc_if rfl ⟨fun hc0 => ?_, fun hc0 => ?_⟩
  ·
    try simp only [Bool.and_eq_true, Bool.or_eq_true, Bool.not_eq_true', Bool.and_eq_false_iff, Bool.or_eq_false_iff, Bool.not_eq_false', decide_eq_true_eq, decide_eq_false_iff_not, Int.not_lt, Int.not_le] at hc0
    refine avc_sq2 ?_
    refine avc_sq ?_
    refine sq_a (ag_plain rfl (a_call (lq rfl) rfl (awake_c))) ?_
    first | refine sq_a (ag_plain rfl (a_assign_d (lq rfl) rfl)) ?_ | refine sq_a (ag_plain rfl (a_assign_row (lq rfl) rfl)) ?_ | refine sq_a (ag_plain rfl (a_assign_ptr (lq rfl) rfl)) ?_
    refine sq_nil ?_
    refine avc_ret ?_
    exact ret_bool rfl rfl
  ·
    try simp only [Bool.and_eq_true, Bool.or_eq_true, Bool.not_eq_true', Bool.and_eq_false_iff, Bool.or_eq_false_iff, Bool.not_eq_false', decide_eq_true_eq, decide_eq_false_iff_not, Int.not_lt, Int.not_le] at hc0
    refine avc_skip ?_
    refine avc_sq2 ?_
    refine avc_sq ?_
    first | refine sq_a (ag_plain rfl (a_move_d (lq rfl) rfl)) ?_ | refine sq_a (ag_plain rfl (a_move_row (lq rfl) rfl)) ?_ | refine sq_a (ag_plain rfl (a_move_ptr (lq rfl) rfl)) ?_ | refine sq_a (ag_plain rfl (a_move_ip (lq rfl) rfl)) ?_ | refine sq_a (ag_plain rfl (a_move_tup (lq rfl) rfl)) ?_
    refine sq_a (ag_plain rfl (a_conv_to (lq rfl) Try.underlying5 Try.underlying3 rfl (w64 (by omega) (by omega)))) ?_
    first | refine sq_a (ag_plain rfl (a_assign_d (lq rfl) rfl)) ?_ | refine sq_a (ag_plain rfl (a_assign_row (lq rfl) rfl)) ?_ | refine sq_a (ag_plain rfl (a_assign_ptr (lq rfl) rfl)) ?_
    refine sq_nil ?_
    refine avc_sq2 ?_
    refine avc_sq ?_
    refine sq_a (ag_plain rfl (a_assign_d (lq rfl) rfl)) ?_
    refine sq_nil ?_
    refine avc_sq2 ?_
    refine avc_sq2 ?_
    refine avc_sq ?_
    refine sq_a (ag_plain rfl (a_assign_d (lq rfl) rfl)) ?_
    refine sq_nil ?_
    refine avc_block ?_
    refine avc_weak (weak_nil (t := 8) 99 3 1 (by decide) (lq rfl) rfl rfl) ?_
    refine avc_loop (ι := Nat) (fun k => ⟨[(1, .d (di m)), (2, .d (di x)), (7, .d (di n)), (8, .row 99), (9, .d (di k))], [(99, .row 3 1 false ((List.replicate k m).map di))]⟩) (fun k => k ≤ n) (fun k => n - k) 0 ?_ ?_ ?_
    · omega
    · refine weak_cov ⟨?_, ?_, ?_, ?_, ?_, trivial⟩ ⟨?_, trivial⟩ <;> (first | rfl | exact cov_int (by omega) | exact cov_row (by simp [di, flatDV]))
    · rintro k hp
      refine avc_sq2 ?_
      refine avc_sq2 ?_
      refine avc_sq ?_
      first | refine sq_a (ag_plain rfl (a_move_d (lq rfl) rfl)) ?_ | refine sq_a (ag_plain rfl (a_move_row (lq rfl) rfl)) ?_ | refine sq_a (ag_plain rfl (a_move_ptr (lq rfl) rfl)) ?_ | refine sq_a (ag_plain rfl (a_move_ip (lq rfl) rfl)) ?_ | refine sq_a (ag_plain rfl (a_move_tup (lq rfl) rfl)) ?_
      first | refine sq_a (ag_plain rfl (a_move_d (lq rfl) rfl)) ?_ | refine sq_a (ag_plain rfl (a_move_row (lq rfl) rfl)) ?_ | refine sq_a (ag_plain rfl (a_move_ptr (lq rfl) rfl)) ?_ | refine sq_a (ag_plain rfl (a_move_ip (lq rfl) rfl)) ?_ | refine sq_a (ag_plain rfl (a_move_tup (lq rfl) rfl)) ?_
      refine sq_a (ag_plain rfl (a_lss (lq rfl) rfl rfl)) ?_
      refine sq_nil ?_
      refine avc_if rfl ⟨fun hc1 => ?_, fun hc1 => ?_⟩
      ·
        try simp only [Bool.and_eq_true, Bool.or_eq_true, Bool.not_eq_true', Bool.and_eq_false_iff, Bool.or_eq_false_iff, Bool.not_eq_false', decide_eq_true_eq, decide_eq_false_iff_not, Int.not_lt, Int.not_le] at hc1
        refine avc_skip ?_
        refine avc_sq2 ?_
        refine avc_block ?_
        refine avc_sq ?_
        first | refine sq_a (ag_plain rfl (a_move_d (lq rfl) rfl)) ?_ | refine sq_a (ag_plain rfl (a_move_row (lq rfl) rfl)) ?_ | refine sq_a (ag_plain rfl (a_move_ptr (lq rfl) rfl)) ?_ | refine sq_a (ag_plain rfl (a_move_ip (lq rfl) rfl)) ?_ | refine sq_a (ag_plain rfl (a_move_tup (lq rfl) rfl)) ?_
        first | refine sq_a (ag_plain rfl (a_move_d (lq rfl) rfl)) ?_ | refine sq_a (ag_plain rfl (a_move_row (lq rfl) rfl)) ?_ | refine sq_a (ag_plain rfl (a_move_ptr (lq rfl) rfl)) ?_ | refine sq_a (ag_plain rfl (a_move_ip (lq rfl) rfl)) ?_ | refine sq_a (ag_plain rfl (a_move_tup (lq rfl) rfl)) ?_
        refine sq_a (ag_plain rfl (a_lit (lq rfl) S22 rfl rfl rfl rfl (by decide) rfl)) ?_
        first | refine sq_b rfl (s_append_d (lq rfl) S22 rfl rfl rfl len_rep (rfl : _ = 1 * 1) (by decide) (by omega) rfl rfl) ?_ | refine sq_b rfl (s_append_row (lq rfl) S22 rfl rfl rfl rfl len_rep (rfl : _ = 1 * 1) (by decide) (by omega) rfl rfl) ?_ | refine sq_b rfl (s_append_d (lq rfl) S22 rfl rfl rfl len_map (rfl : _ = 1 * 1) (by decide) (by omega) rfl rfl) ?_ | refine sq_b rfl (s_append_row (lq rfl) S22 rfl rfl rfl rfl len_map (rfl : _ = 1 * 1) (by decide) (by omega) rfl rfl) ?_
        first | refine sq_a (ag_plain rfl (a_assign_d (lq rfl) rfl)) ?_ | refine sq_a (ag_plain rfl (a_assign_row (lq rfl) rfl)) ?_ | refine sq_a (ag_plain rfl (a_assign_ptr (lq rfl) rfl)) ?_
        refine sq_nil ?_
        refine avc_sq ?_
        first | refine sq_a (ag_plain rfl (a_move_d (lq rfl) rfl)) ?_ | refine sq_a (ag_plain rfl (a_move_row (lq rfl) rfl)) ?_ | refine sq_a (ag_plain rfl (a_move_ptr (lq rfl) rfl)) ?_ | refine sq_a (ag_plain rfl (a_move_ip (lq rfl) rfl)) ?_ | refine sq_a (ag_plain rfl (a_move_tup (lq rfl) rfl)) ?_
        refine sq_a (ag_plain rfl (a_add (lq rfl) rfl rfl (w64 (by omega) (by omega)))) ?_
        first | refine sq_a (ag_plain rfl (a_assign_d (lq rfl) rfl)) ?_ | refine sq_a (ag_plain rfl (a_assign_row (lq rfl) rfl)) ?_ | refine sq_a (ag_plain rfl (a_assign_ptr (lq rfl) rfl)) ?_
        refine sq_nil ?_
        first | refine loop_end  (j := k + 1) ?_ ?_ ?_ | refine loop_end  (K := fun _ _ => True) (j := k + 1) ?_ ?_ ?_
        · omega
        · omega
        · refine weak_cov ⟨?_, ?_, ?_, ?_, ?_, trivial⟩ ⟨?_, trivial⟩ <;> (first | rfl | exact cov_int (by omega) | exact cov_row (by rw [List.replicate_succ']; simp [flatDV, di]))
      ·
        try simp only [Bool.and_eq_true, Bool.or_eq_true, Bool.not_eq_true', Bool.and_eq_false_iff, Bool.or_eq_false_iff, Bool.not_eq_false', decide_eq_true_eq, decide_eq_false_iff_not, Int.not_lt, Int.not_le] at hc1
        have hkn : k = n := by omega
        subst hkn
        have ha := runs_a (m := m) (by omega) k
        have hb := runs_b (m := m) (x := x) (by omega) (by omega) (by omega) k
        refine avc_exit ?_
        refine avc_sq2 ?_
        refine avc_sq ?_
        first | refine sq_a (ag_plain rfl (a_move_d (lq rfl) rfl)) ?_ | refine sq_a (ag_plain rfl (a_move_row (lq rfl) rfl)) ?_ | refine sq_a (ag_plain rfl (a_move_ptr (lq rfl) rfl)) ?_ | refine sq_a (ag_plain rfl (a_move_ip (lq rfl) rfl)) ?_ | refine sq_a (ag_plain rfl (a_move_tup (lq rfl) rfl)) ?_
        refine sq_a (ag_plain rfl (a_add (lq rfl) rfl rfl (w64 (by omega) (by omega)))) ?_
        refine sq_a (ag_plain rfl (a_quo (lq rfl) rfl rfl (by omega) (by omega) (w64 (by omega) (by omega)))) ?_
        first | refine sq_a (ag_plain rfl (a_assign_d (lq rfl) rfl)) ?_ | refine sq_a (ag_plain rfl (a_assign_row (lq rfl) rfl)) ?_ | refine sq_a (ag_plain rfl (a_assign_ptr (lq rfl) rfl)) ?_
        refine sq_nil ?_
        refine avc_sq2 ?_
        refine avc_sq ?_
        first | refine sq_a (ag_plain rfl (a_move_d (lq rfl) rfl)) ?_ | refine sq_a (ag_plain rfl (a_move_row (lq rfl) rfl)) ?_ | refine sq_a (ag_plain rfl (a_move_ptr (lq rfl) rfl)) ?_ | refine sq_a (ag_plain rfl (a_move_ip (lq rfl) rfl)) ?_ | refine sq_a (ag_plain rfl (a_move_tup (lq rfl) rfl)) ?_
        first | refine sq_a (ag_plain rfl (a_move_d (lq rfl) rfl)) ?_ | refine sq_a (ag_plain rfl (a_move_row (lq rfl) rfl)) ?_ | refine sq_a (ag_plain rfl (a_move_ptr (lq rfl) rfl)) ?_ | refine sq_a (ag_plain rfl (a_move_ip (lq rfl) rfl)) ?_ | refine sq_a (ag_plain rfl (a_move_tup (lq rfl) rfl)) ?_
        refine sq_b rfl (s_call (lq rfl) rfl rfl (pack_c (List.replicate k m) m (by simp; omega))) ?_
        first | refine sq_a (ag_plain rfl (a_assign_d (lq rfl) rfl)) ?_ | refine sq_a (ag_plain rfl (a_assign_row (lq rfl) rfl)) ?_ | refine sq_a (ag_plain rfl (a_assign_ptr (lq rfl) rfl)) ?_
        refine sq_nil ?_
        refine avc_sq2 ?_
        refine avc_sq ?_
        first | refine sq_a (ag_plain rfl (a_move_d (lq rfl) rfl)) ?_ | refine sq_a (ag_plain rfl (a_move_row (lq rfl) rfl)) ?_ | refine sq_a (ag_plain rfl (a_move_ptr (lq rfl) rfl)) ?_ | refine sq_a (ag_plain rfl (a_move_ip (lq rfl) rfl)) ?_ | refine sq_a (ag_plain rfl (a_move_tup (lq rfl) rfl)) ?_
        first | refine sq_a (ag_plain rfl (a_move_d (lq rfl) rfl)) ?_ | refine sq_a (ag_plain rfl (a_move_row (lq rfl) rfl)) ?_ | refine sq_a (ag_plain rfl (a_move_ptr (lq rfl) rfl)) ?_ | refine sq_a (ag_plain rfl (a_move_ip (lq rfl) rfl)) ?_ | refine sq_a (ag_plain rfl (a_move_tup (lq rfl) rfl)) ?_
        refine sq_a (ag_plain rfl (a_lit (lq rfl) S22 rfl rfl rfl rfl (by decide) rfl)) ?_
        first | refine sq_b rfl (s_append_d (lq rfl) S22 rfl rfl rfl len_rep (rfl : _ = 1 * 1) (by decide) (by omega) rfl rfl) ?_ | refine sq_b rfl (s_append_row (lq rfl) S22 rfl rfl rfl rfl len_rep (rfl : _ = 1 * 1) (by decide) (by omega) rfl rfl) ?_ | refine sq_b rfl (s_append_d (lq rfl) S22 rfl rfl rfl len_map (rfl : _ = 1 * 1) (by decide) (by omega) rfl rfl) ?_ | refine sq_b rfl (s_append_row (lq rfl) S22 rfl rfl rfl rfl len_map (rfl : _ = 1 * 1) (by decide) (by omega) rfl rfl) ?_
        first | refine sq_a (ag_plain rfl (a_assign_d (lq rfl) rfl)) ?_ | refine sq_a (ag_plain rfl (a_assign_row (lq rfl) rfl)) ?_ | refine sq_a (ag_plain rfl (a_assign_ptr (lq rfl) rfl)) ?_
        refine sq_nil ?_
        refine avc_sq2 ?_
        refine avc_sq ?_
        refine sq_weak (weak_cov (S' := ⟨[(1, .d (di m)), (2, .d (di x)), (8, .row 99), (10, .d (di (((k : Int) + 7) / 8))), (11, .d (.ints (pk (common m) (plain (List.replicate k m)))))], [(99, .row 3 1 true ((List.replicate k m ++ [x]).map di))]⟩) ⟨?_, ?_, ?_, ?_, ?_, trivial⟩ ⟨?_, trivial⟩) ?_ (by simp)
        iterate 6 first | rfl | exact cov_row (by simp [flatDV, di]) | skip
        first | refine sq_a (ag_plain rfl (a_move_d (lq rfl) rfl)) ?_ | refine sq_a (ag_plain rfl (a_move_row (lq rfl) rfl)) ?_ | refine sq_a (ag_plain rfl (a_move_ptr (lq rfl) rfl)) ?_ | refine sq_a (ag_plain rfl (a_move_ip (lq rfl) rfl)) ?_ | refine sq_a (ag_plain rfl (a_move_tup (lq rfl) rfl)) ?_
        first | refine sq_a (ag_plain rfl (a_move_d (lq rfl) rfl)) ?_ | refine sq_a (ag_plain rfl (a_move_row (lq rfl) rfl)) ?_ | refine sq_a (ag_plain rfl (a_move_ptr (lq rfl) rfl)) ?_ | refine sq_a (ag_plain rfl (a_move_ip (lq rfl) rfl)) ?_ | refine sq_a (ag_plain rfl (a_move_tup (lq rfl) rfl)) ?_
        refine sq_b rfl (s_call (lq rfl) rfl rfl (pack_c (List.replicate k m ++ [x]) m (by simp; omega))) ?_
        first | refine sq_a (ag_plain rfl (a_assign_d (lq rfl) rfl)) ?_ | refine sq_a (ag_plain rfl (a_assign_row (lq rfl) rfl)) ?_ | refine sq_a (ag_plain rfl (a_assign_ptr (lq rfl) rfl)) ?_
        refine sq_nil ?_
        refine avc_sq2 ?_
        refine avc_sq ?_
        first | refine sq_a (ag_plain rfl (a_move_d (lq rfl) rfl)) ?_ | refine sq_a (ag_plain rfl (a_move_row (lq rfl) rfl)) ?_ | refine sq_a (ag_plain rfl (a_move_ptr (lq rfl) rfl)) ?_ | refine sq_a (ag_plain rfl (a_move_ip (lq rfl) rfl)) ?_ | refine sq_a (ag_plain rfl (a_move_tup (lq rfl) rfl)) ?_
        first | refine sq_a (ag_plain rfl (a_len_d (lq rfl) S22 rfl len_rep)) ?_ | refine sq_a (ag_plain rfl (a_len_d (lq rfl) S22 rfl len_map)) ?_ | refine sq_a (ag_plain rfl (a_len_row (lq rfl) S22 rfl rfl len_rep)) ?_ | refine sq_a (ag_plain rfl (a_len_row (lq rfl) S22 rfl rfl len_map)) ?_ | refine sq_a (ag_plain rfl (a_len_nil (lq rfl) Try.underlying22 rfl)) ?_
        first | refine sq_a (ag_plain rfl (a_move_d (lq rfl) rfl)) ?_ | refine sq_a (ag_plain rfl (a_move_row (lq rfl) rfl)) ?_ | refine sq_a (ag_plain rfl (a_move_ptr (lq rfl) rfl)) ?_ | refine sq_a (ag_plain rfl (a_move_ip (lq rfl) rfl)) ?_ | refine sq_a (ag_plain rfl (a_move_tup (lq rfl) rfl)) ?_
        refine sq_a (ag_plain rfl ((a_eql (lq rfl) rfl rfl).bool (b := true) (decide_eq_true (by omega)))) ?_
        first | refine sq_a (ag_plain rfl (a_move_d (lq rfl) rfl)) ?_ | refine sq_a (ag_plain rfl (a_move_row (lq rfl) rfl)) ?_ | refine sq_a (ag_plain rfl (a_move_ptr (lq rfl) rfl)) ?_ | refine sq_a (ag_plain rfl (a_move_ip (lq rfl) rfl)) ?_ | refine sq_a (ag_plain rfl (a_move_tup (lq rfl) rfl)) ?_
        first | (apply sq_g rfl rfl rfl (lq rfl) (lq rfl) rfl; focus (intro hb; simp only [gd, Bool.not_eq_true'] at hb; (try rw [hb]); (try simp only [decide_eq_true_eq, decide_eq_false_iff_not, Bool.and_eq_true, Bool.or_eq_false_iff, Bool.not_eq_true'] at hb); first | exact a_move_d (lq rfl) rfl | exact a_move_row (lq rfl) rfl | exact a_move_ptr (lq rfl) rfl | exact a_move_ip (lq rfl) rfl | exact a_move_tup (lq rfl) rfl)) | (apply sq_g2 rfl rfl rfl (lq rfl) (lq rfl) rfl; focus (intro hb; simp only [gd, Bool.and_eq_true, Bool.not_eq_true'] at hb; (try rw [hb.1]); (try rw [hb.2]); (try simp only [decide_eq_true_eq, decide_eq_false_iff_not, Bool.and_eq_true, Bool.or_eq_false_iff, Bool.not_eq_true'] at hb); first | exact a_move_d (lq rfl) rfl | exact a_move_row (lq rfl) rfl | exact a_move_ptr (lq rfl) rfl | exact a_move_ip (lq rfl) rfl | exact a_move_tup (lq rfl) rfl))
        first | (apply sq_g rfl rfl rfl (lq rfl) (lq rfl) rfl; focus (intro hb; simp only [gd, Bool.not_eq_true'] at hb; (try rw [hb]); (try simp only [decide_eq_true_eq, decide_eq_false_iff_not, Bool.and_eq_true, Bool.or_eq_false_iff, Bool.not_eq_true'] at hb); first | exact a_len_d (lq rfl) S22 rfl len_rep | exact a_len_d (lq rfl) S22 rfl len_map | exact a_len_row (lq rfl) S22 rfl rfl len_rep | exact a_len_row (lq rfl) S22 rfl rfl len_map | exact a_len_nil (lq rfl) Try.underlying22 rfl)) | (apply sq_g2 rfl rfl rfl (lq rfl) (lq rfl) rfl; focus (intro hb; simp only [gd, Bool.and_eq_true, Bool.not_eq_true'] at hb; (try rw [hb.1]); (try rw [hb.2]); (try simp only [decide_eq_true_eq, decide_eq_false_iff_not, Bool.and_eq_true, Bool.or_eq_false_iff, Bool.not_eq_true'] at hb); first | exact a_len_d (lq rfl) S22 rfl len_rep | exact a_len_d (lq rfl) S22 rfl len_map | exact a_len_row (lq rfl) S22 rfl rfl len_rep | exact a_len_row (lq rfl) S22 rfl rfl len_map | exact a_len_nil (lq rfl) Try.underlying22 rfl))
        first | (apply sq_g rfl rfl rfl (lq rfl) (lq rfl) rfl; focus (intro hb; simp only [gd, Bool.not_eq_true'] at hb; (try rw [hb]); (try simp only [decide_eq_true_eq, decide_eq_false_iff_not, Bool.and_eq_true, Bool.or_eq_false_iff, Bool.not_eq_true'] at hb); first | exact a_move_d (lq rfl) rfl | exact a_move_row (lq rfl) rfl | exact a_move_ptr (lq rfl) rfl | exact a_move_ip (lq rfl) rfl | exact a_move_tup (lq rfl) rfl)) | (apply sq_g2 rfl rfl rfl (lq rfl) (lq rfl) rfl; focus (intro hb; simp only [gd, Bool.and_eq_true, Bool.not_eq_true'] at hb; (try rw [hb.1]); (try rw [hb.2]); (try simp only [decide_eq_true_eq, decide_eq_false_iff_not, Bool.and_eq_true, Bool.or_eq_false_iff, Bool.not_eq_true'] at hb); first | exact a_move_d (lq rfl) rfl | exact a_move_row (lq rfl) rfl | exact a_move_ptr (lq rfl) rfl | exact a_move_ip (lq rfl) rfl | exact a_move_tup (lq rfl) rfl))
        first | (apply sq_g rfl rfl rfl (lq rfl) (lq rfl) rfl; focus (intro hb; simp only [gd, Bool.not_eq_true'] at hb; (try rw [hb]); (try simp only [decide_eq_true_eq, decide_eq_false_iff_not, Bool.and_eq_true, Bool.or_eq_false_iff, Bool.not_eq_true'] at hb); exact a_add (lq rfl) rfl rfl (w64 (by omega) (by omega)))) | (apply sq_g2 rfl rfl rfl (lq rfl) (lq rfl) rfl; focus (intro hb; simp only [gd, Bool.and_eq_true, Bool.not_eq_true'] at hb; (try rw [hb.1]); (try rw [hb.2]); (try simp only [decide_eq_true_eq, decide_eq_false_iff_not, Bool.and_eq_true, Bool.or_eq_false_iff, Bool.not_eq_true'] at hb); exact a_add (lq rfl) rfl rfl (w64 (by omega) (by omega))))
        first | (apply sq_g rfl rfl rfl (lq rfl) (lq rfl) rfl; focus (intro hb; simp only [gd, Bool.not_eq_true'] at hb; (try rw [hb]); (try simp only [decide_eq_true_eq, decide_eq_false_iff_not, Bool.and_eq_true, Bool.or_eq_false_iff, Bool.not_eq_true'] at hb); exact (a_eql (lq rfl) rfl rfl).bool (b := true) (decide_eq_true (by omega)))) | (apply sq_g2 rfl rfl rfl (lq rfl) (lq rfl) rfl; focus (intro hb; simp only [gd, Bool.and_eq_true, Bool.not_eq_true'] at hb; (try rw [hb.1]); (try rw [hb.2]); (try simp only [decide_eq_true_eq, decide_eq_false_iff_not, Bool.and_eq_true, Bool.or_eq_false_iff, Bool.not_eq_true'] at hb); exact (a_eql (lq rfl) rfl rfl).bool (b := true) (decide_eq_true (by omega))))
        first | refine sq_a (ag_plain rfl (a_pick_and (lq rfl) rfl rfl)) ?_ | refine sq_a (ag_plain rfl (a_pick_td (lq rfl) rfl rfl)) ?_ | refine sq_a (ag_plain rfl (a_pick_fd (lq rfl) rfl rfl)) ?_
        first | refine sq_a (ag_plain rfl (a_move_d (lq rfl) rfl)) ?_ | refine sq_a (ag_plain rfl (a_move_row (lq rfl) rfl)) ?_ | refine sq_a (ag_plain rfl (a_move_ptr (lq rfl) rfl)) ?_ | refine sq_a (ag_plain rfl (a_move_ip (lq rfl) rfl)) ?_ | refine sq_a (ag_plain rfl (a_move_tup (lq rfl) rfl)) ?_
        first | (apply sq_g rfl rfl rfl (lq rfl) (lq rfl) rfl; focus (intro hb; simp only [gd, Bool.not_eq_true'] at hb; (try rw [hb]); (try simp only [decide_eq_true_eq, decide_eq_false_iff_not, Bool.and_eq_true, Bool.or_eq_false_iff, Bool.not_eq_true'] at hb); exact a_call (lq rfl) rfl (awake_c))) | (apply sq_g2 rfl rfl rfl (lq rfl) (lq rfl) rfl; focus (intro hb; simp only [gd, Bool.and_eq_true, Bool.not_eq_true'] at hb; (try rw [hb.1]); (try rw [hb.2]); (try simp only [decide_eq_true_eq, decide_eq_false_iff_not, Bool.and_eq_true, Bool.or_eq_false_iff, Bool.not_eq_true'] at hb); exact a_call (lq rfl) rfl (awake_c)))
        first | refine sq_a (ag_plain rfl (a_pick_and (lq rfl) rfl rfl)) ?_ | refine sq_a (ag_plain rfl (a_pick_td (lq rfl) rfl rfl)) ?_ | refine sq_a (ag_plain rfl (a_pick_fd (lq rfl) rfl rfl)) ?_
        first | refine sq_a (ag_plain rfl (a_assign_d (lq rfl) rfl)) ?_ | refine sq_a (ag_plain rfl (a_assign_row (lq rfl) rfl)) ?_ | refine sq_a (ag_plain rfl (a_assign_ptr (lq rfl) rfl)) ?_
        refine sq_nil ?_
        refine avc_ret ?_
        exact ret_bool rfl rfl

theorem orders_c (a b : List Int) (c : Int)  : Contract Try.prog 5 [.ints a, .ints b, di c] [db true] := by
  have hpka := pk_le (common c) (plain a)
  have hpla : (plain a).length = a.length := by simp [plain]
  have hpkb := pk_le (common c) (plain b)
  have hplb : (plain b).length = b.length := by simp [plain]
  refine contract_of Try.func5 (by kernel_rfl) rfl (lq rfl) (lq rfl) fun w0 I0 => ?_
  refine avc_sq2 ?_
  refine avc_sq ?_
  refine sq_a (ag_plain rfl (a_assign_d (lq rfl) rfl)) ?_
  refine sq_nil ?_
  refine avc_sq2 ?_
  refine avc_sq2 ?_
  refine avc_sq ?_
  first | refine sq_a (ag_plain rfl (a_move_d (lq rfl) rfl)) ?_ | refine sq_a (ag_plain rfl (a_move_row (lq rfl) rfl)) ?_ | refine sq_a (ag_plain rfl (a_move_ptr (lq rfl) rfl)) ?_ | refine sq_a (ag_plain rfl (a_move_ip (lq rfl) rfl)) ?_ | refine sq_a (ag_plain rfl (a_move_tup (lq rfl) rfl)) ?_
  first | refine sq_a (ag_plain rfl (a_len_d (lq rfl) S22 rfl len_map)) ?_ | refine sq_a (ag_plain rfl (a_len_row (lq rfl) S22 rfl rfl len_map)) ?_ | refine sq_a (ag_plain rfl (a_len_nil (lq rfl) Try.underlying22 rfl)) ?_
  refine sq_a (ag_plain rfl (a_gtr (lq rfl) rfl rfl)) ?_
  first | refine sq_a (ag_plain rfl (a_move_d (lq rfl) rfl)) ?_ | refine sq_a (ag_plain rfl (a_move_row (lq rfl) rfl)) ?_ | refine sq_a (ag_plain rfl (a_move_ptr (lq rfl) rfl)) ?_ | refine sq_a (ag_plain rfl (a_move_ip (lq rfl) rfl)) ?_ | refine sq_a (ag_plain rfl (a_move_tup (lq rfl) rfl)) ?_
  first | (apply sq_g rfl rfl rfl (lq rfl) (lq rfl) rfl; focus (intro hb; simp only [gd, Bool.not_eq_true'] at hb; (try rw [hb]); (try simp only [decide_eq_true_eq, decide_eq_false_iff_not, Bool.and_eq_true, Bool.or_eq_false_iff, Bool.not_eq_true'] at hb); first | exact a_move_d (lq rfl) rfl | exact a_move_row (lq rfl) rfl | exact a_move_ptr (lq rfl) rfl | exact a_move_ip (lq rfl) rfl | exact a_move_tup (lq rfl) rfl)) | (apply sq_g2 rfl rfl rfl (lq rfl) (lq rfl) rfl; focus (intro hb; simp only [gd, Bool.and_eq_true, Bool.not_eq_true'] at hb; (try rw [hb.1]); (try rw [hb.2]); (try simp only [decide_eq_true_eq, decide_eq_false_iff_not, Bool.and_eq_true, Bool.or_eq_false_iff, Bool.not_eq_true'] at hb); first | exact a_move_d (lq rfl) rfl | exact a_move_row (lq rfl) rfl | exact a_move_ptr (lq rfl) rfl | exact a_move_ip (lq rfl) rfl | exact a_move_tup (lq rfl) rfl))
  first | (apply sq_g rfl rfl rfl (lq rfl) (lq rfl) rfl; focus (intro hb; simp only [gd, Bool.not_eq_true'] at hb; (try rw [hb]); (try simp only [decide_eq_true_eq, decide_eq_false_iff_not, Bool.and_eq_true, Bool.or_eq_false_iff, Bool.not_eq_true'] at hb); first | exact a_len_d (lq rfl) S22 rfl len_map | exact a_len_row (lq rfl) S22 rfl rfl len_map | exact a_len_nil (lq rfl) Try.underlying22 rfl)) | (apply sq_g2 rfl rfl rfl (lq rfl) (lq rfl) rfl; focus (intro hb; simp only [gd, Bool.and_eq_true, Bool.not_eq_true'] at hb; (try rw [hb.1]); (try rw [hb.2]); (try simp only [decide_eq_true_eq, decide_eq_false_iff_not, Bool.and_eq_true, Bool.or_eq_false_iff, Bool.not_eq_true'] at hb); first | exact a_len_d (lq rfl) S22 rfl len_map | exact a_len_row (lq rfl) S22 rfl rfl len_map | exact a_len_nil (lq rfl) Try.underlying22 rfl))
  first | (apply sq_g rfl rfl rfl (lq rfl) (lq rfl) rfl; focus (intro hb; simp only [gd, Bool.not_eq_true'] at hb; (try rw [hb]); (try simp only [decide_eq_true_eq, decide_eq_false_iff_not, Bool.and_eq_true, Bool.or_eq_false_iff, Bool.not_eq_true'] at hb); exact a_gtr (lq rfl) rfl rfl)) | (apply sq_g2 rfl rfl rfl (lq rfl) (lq rfl) rfl; focus (intro hb; simp only [gd, Bool.and_eq_true, Bool.not_eq_true'] at hb; (try rw [hb.1]); (try rw [hb.2]); (try simp only [decide_eq_true_eq, decide_eq_false_iff_not, Bool.and_eq_true, Bool.or_eq_false_iff, Bool.not_eq_true'] at hb); exact a_gtr (lq rfl) rfl rfl))
  first | refine sq_a (ag_plain rfl (a_pick_or (lq rfl) rfl rfl)) ?_ | refine sq_a (ag_plain rfl (a_pick_td (lq rfl) rfl rfl)) ?_ | refine sq_a (ag_plain rfl (a_pick_fd (lq rfl) rfl rfl)) ?_
  refine sq_nil ?_
  refine avc_if rfl ⟨fun hc0 => ?_, fun hc0 => ?_⟩
  ·
    try simp only [Bool.and_eq_true, Bool.or_eq_true, Bool.not_eq_true', Bool.and_eq_false_iff, Bool.or_eq_false_iff, Bool.not_eq_false', decide_eq_true_eq, decide_eq_false_iff_not, Int.not_lt, Int.not_le] at hc0
    refine avc_sq2 ?_
    refine avc_sq ?_
    refine sq_a (ag_plain rfl (a_call (lq rfl) rfl (awake_c))) ?_
    first | refine sq_a (ag_plain rfl (a_assign_d (lq rfl) rfl)) ?_ | refine sq_a (ag_plain rfl (a_assign_row (lq rfl) rfl)) ?_ | refine sq_a (ag_plain rfl (a_assign_ptr (lq rfl) rfl)) ?_
    refine sq_nil ?_
    refine avc_ret ?_
    exact ret_bool rfl rfl
  ·
    try simp only [Bool.and_eq_true, Bool.or_eq_true, Bool.not_eq_true', Bool.and_eq_false_iff, Bool.or_eq_false_iff, Bool.not_eq_false', decide_eq_true_eq, decide_eq_false_iff_not, Int.not_lt, Int.not_le] at hc0
    refine avc_skip ?_
    refine avc_sq2 ?_
    refine avc_sq2 ?_
    refine avc_sq ?_
    refine sq_a (ag_plain rfl (a_assign_d (lq rfl) rfl)) ?_
    refine sq_nil ?_
    refine avc_block ?_
    refine avc_loop (ι := Nat) (fun k => ⟨[(0, .d (.ints a)), (1, .d (.ints b)), (2, .d (di c)), (7, .d (di k))], []⟩) (fun k => k ≤ a.length ∧ ∀ j, j < k → (1 : Int) ≤ a.getD j 0 ∧ a.getD j 0 ≤ 65535) (fun k => a.length - k) 0 ?_ ?_ ?_
    · exact ⟨by omega, fun j hj => by omega⟩
    · refine weak_cov ⟨?_, ?_, ?_, ?_, trivial⟩ trivial <;> (first | rfl | exact cov_int (by omega) | exact cov_row (by simp [di, flatDV]))
    · rintro k hp
      obtain ⟨hpa, hra⟩ := hp
      refine avc_sq2 ?_
      refine avc_sq2 ?_
      refine avc_sq ?_
      first | refine sq_a (ag_plain rfl (a_move_d (lq rfl) rfl)) ?_ | refine sq_a (ag_plain rfl (a_move_row (lq rfl) rfl)) ?_ | refine sq_a (ag_plain rfl (a_move_ptr (lq rfl) rfl)) ?_ | refine sq_a (ag_plain rfl (a_move_ip (lq rfl) rfl)) ?_ | refine sq_a (ag_plain rfl (a_move_tup (lq rfl) rfl)) ?_
      first | refine sq_a (ag_plain rfl (a_move_d (lq rfl) rfl)) ?_ | refine sq_a (ag_plain rfl (a_move_row (lq rfl) rfl)) ?_ | refine sq_a (ag_plain rfl (a_move_ptr (lq rfl) rfl)) ?_ | refine sq_a (ag_plain rfl (a_move_ip (lq rfl) rfl)) ?_ | refine sq_a (ag_plain rfl (a_move_tup (lq rfl) rfl)) ?_
      first | refine sq_a (ag_plain rfl (a_len_d (lq rfl) S22 rfl len_map)) ?_ | refine sq_a (ag_plain rfl (a_len_row (lq rfl) S22 rfl rfl len_map)) ?_ | refine sq_a (ag_plain rfl (a_len_nil (lq rfl) Try.underlying22 rfl)) ?_
      refine sq_a (ag_plain rfl (a_lss (lq rfl) rfl rfl)) ?_
      refine sq_nil ?_
      refine avc_if rfl ⟨fun hc1 => ?_, fun hc1 => ?_⟩
      ·
        try simp only [Bool.and_eq_true, Bool.or_eq_true, Bool.not_eq_true', Bool.and_eq_false_iff, Bool.or_eq_false_iff, Bool.not_eq_false', decide_eq_true_eq, decide_eq_false_iff_not, Int.not_lt, Int.not_le] at hc1
        refine avc_skip ?_
        refine avc_sq2 ?_
        refine avc_block ?_
        refine avc_sq2 ?_
        refine avc_sq ?_
        first | refine sq_a (ag_plain rfl (a_move_d (lq rfl) rfl)) ?_ | refine sq_a (ag_plain rfl (a_move_row (lq rfl) rfl)) ?_ | refine sq_a (ag_plain rfl (a_move_ptr (lq rfl) rfl)) ?_ | refine sq_a (ag_plain rfl (a_move_ip (lq rfl) rfl)) ?_ | refine sq_a (ag_plain rfl (a_move_tup (lq rfl) rfl)) ?_
        first | refine sq_a (ag_plain rfl (a_move_d (lq rfl) rfl)) ?_ | refine sq_a (ag_plain rfl (a_move_row (lq rfl) rfl)) ?_ | refine sq_a (ag_plain rfl (a_move_ptr (lq rfl) rfl)) ?_ | refine sq_a (ag_plain rfl (a_move_ip (lq rfl) rfl)) ?_ | refine sq_a (ag_plain rfl (a_move_tup (lq rfl) rfl)) ?_
        first | refine sq_a (ag_plain rfl (a_index_d (lq rfl) S22 rfl rfl rfl len_map (by omega))) ?_ | refine sq_a (ag_plain rfl (a_index_row (lq rfl) S22 rfl rfl rfl rfl len_map (by omega))) ?_ | refine sq_a (ag_plain rfl (a_index_d (lq rfl) S22 rfl rfl (ix_add1 _) len_map (by omega))) ?_ | refine sq_a (ag_plain rfl (a_index_row (lq rfl) S22 rfl rfl rfl (ix_add1 _) len_map (by omega))) ?_ | refine sq_a (ag_plain rfl (a_index_d (lq rfl) S22 rfl rfl (ix_nat (by omega)) len_map (by omega))) ?_ | refine sq_a (ag_plain rfl (a_index_row (lq rfl) S22 rfl rfl rfl (ix_nat (by omega)) len_map (by omega))) ?_
        first | refine sq_a (ag_plain rfl (a_load_box (lq rfl) O3 rfl rfl rfl)) ?_ | refine sq_a (ag_plain rfl (a_load_pt (lq rfl) O3 rfl rfl)) ?_ | refine sq_a (ag_plain rfl (a_load_ip (lq rfl) O3 rfl (get_map 0 (by omega)))) ?_ | refine sq_a (ag_plain rfl (a_load_row (lq rfl) O3 rfl rfl (get_map 0 (by omega)))) ?_
        refine sq_a (ag_plain rfl (a_lss (lq rfl) rfl rfl)) ?_
        first | refine sq_a (ag_plain rfl (a_move_d (lq rfl) rfl)) ?_ | refine sq_a (ag_plain rfl (a_move_row (lq rfl) rfl)) ?_ | refine sq_a (ag_plain rfl (a_move_ptr (lq rfl) rfl)) ?_ | refine sq_a (ag_plain rfl (a_move_ip (lq rfl) rfl)) ?_ | refine sq_a (ag_plain rfl (a_move_tup (lq rfl) rfl)) ?_
        first | (apply sq_g rfl rfl rfl (lq rfl) (lq rfl) rfl; focus (intro hb; simp only [gd, Bool.not_eq_true'] at hb; (try rw [hb]); (try simp only [decide_eq_true_eq, decide_eq_false_iff_not, Bool.and_eq_true, Bool.or_eq_false_iff, Bool.not_eq_true'] at hb); first | exact a_move_d (lq rfl) rfl | exact a_move_row (lq rfl) rfl | exact a_move_ptr (lq rfl) rfl | exact a_move_ip (lq rfl) rfl | exact a_move_tup (lq rfl) rfl)) | (apply sq_g2 rfl rfl rfl (lq rfl) (lq rfl) rfl; focus (intro hb; simp only [gd, Bool.and_eq_true, Bool.not_eq_true'] at hb; (try rw [hb.1]); (try rw [hb.2]); (try simp only [decide_eq_true_eq, decide_eq_false_iff_not, Bool.and_eq_true, Bool.or_eq_false_iff, Bool.not_eq_true'] at hb); first | exact a_move_d (lq rfl) rfl | exact a_move_row (lq rfl) rfl | exact a_move_ptr (lq rfl) rfl | exact a_move_ip (lq rfl) rfl | exact a_move_tup (lq rfl) rfl))
        first | (apply sq_g rfl rfl rfl (lq rfl) (lq rfl) rfl; focus (intro hb; simp only [gd, Bool.not_eq_true'] at hb; (try rw [hb]); (try simp only [decide_eq_true_eq, decide_eq_false_iff_not, Bool.and_eq_true, Bool.or_eq_false_iff, Bool.not_eq_true'] at hb); first | exact a_move_d (lq rfl) rfl | exact a_move_row (lq rfl) rfl | exact a_move_ptr (lq rfl) rfl | exact a_move_ip (lq rfl) rfl | exact a_move_tup (lq rfl) rfl)) | (apply sq_g2 rfl rfl rfl (lq rfl) (lq rfl) rfl; focus (intro hb; simp only [gd, Bool.and_eq_true, Bool.not_eq_true'] at hb; (try rw [hb.1]); (try rw [hb.2]); (try simp only [decide_eq_true_eq, decide_eq_false_iff_not, Bool.and_eq_true, Bool.or_eq_false_iff, Bool.not_eq_true'] at hb); first | exact a_move_d (lq rfl) rfl | exact a_move_row (lq rfl) rfl | exact a_move_ptr (lq rfl) rfl | exact a_move_ip (lq rfl) rfl | exact a_move_tup (lq rfl) rfl))
        first | (apply sq_g rfl rfl rfl (lq rfl) (lq rfl) rfl; focus (intro hb; simp only [gd, Bool.not_eq_true'] at hb; (try rw [hb]); (try simp only [decide_eq_true_eq, decide_eq_false_iff_not, Bool.and_eq_true, Bool.or_eq_false_iff, Bool.not_eq_true'] at hb); first | exact a_index_d (lq rfl) S22 rfl rfl rfl len_map (by omega) | exact a_index_row (lq rfl) S22 rfl rfl rfl rfl len_map (by omega) | exact a_index_d (lq rfl) S22 rfl rfl (ix_add1 _) len_map (by omega) | exact a_index_row (lq rfl) S22 rfl rfl rfl (ix_add1 _) len_map (by omega) | exact a_index_d (lq rfl) S22 rfl rfl (ix_nat (by omega)) len_map (by omega) | exact a_index_row (lq rfl) S22 rfl rfl rfl (ix_nat (by omega)) len_map (by omega))) | (apply sq_g2 rfl rfl rfl (lq rfl) (lq rfl) rfl; focus (intro hb; simp only [gd, Bool.and_eq_true, Bool.not_eq_true'] at hb; (try rw [hb.1]); (try rw [hb.2]); (try simp only [decide_eq_true_eq, decide_eq_false_iff_not, Bool.and_eq_true, Bool.or_eq_false_iff, Bool.not_eq_true'] at hb); first | exact a_index_d (lq rfl) S22 rfl rfl rfl len_map (by omega) | exact a_index_row (lq rfl) S22 rfl rfl rfl rfl len_map (by omega) | exact a_index_d (lq rfl) S22 rfl rfl (ix_add1 _) len_map (by omega) | exact a_index_row (lq rfl) S22 rfl rfl rfl (ix_add1 _) len_map (by omega) | exact a_index_d (lq rfl) S22 rfl rfl (ix_nat (by omega)) len_map (by omega) | exact a_index_row (lq rfl) S22 rfl rfl rfl (ix_nat (by omega)) len_map (by omega)))
        first | (apply sq_g rfl rfl rfl (lq rfl) (lq rfl) rfl; focus (intro hb; simp only [gd, Bool.not_eq_true'] at hb; (try rw [hb]); (try simp only [decide_eq_true_eq, decide_eq_false_iff_not, Bool.and_eq_true, Bool.or_eq_false_iff, Bool.not_eq_true'] at hb); first | exact a_load_box (lq rfl) O3 rfl rfl rfl | exact a_load_pt (lq rfl) O3 rfl rfl | exact a_load_ip (lq rfl) O3 rfl (get_map 0 (by omega)) | exact a_load_row (lq rfl) O3 rfl rfl (get_map 0 (by omega)))) | (apply sq_g2 rfl rfl rfl (lq rfl) (lq rfl) rfl; focus (intro hb; simp only [gd, Bool.and_eq_true, Bool.not_eq_true'] at hb; (try rw [hb.1]); (try rw [hb.2]); (try simp only [decide_eq_true_eq, decide_eq_false_iff_not, Bool.and_eq_true, Bool.or_eq_false_iff, Bool.not_eq_true'] at hb); first | exact a_load_box (lq rfl) O3 rfl rfl rfl | exact a_load_pt (lq rfl) O3 rfl rfl | exact a_load_ip (lq rfl) O3 rfl (get_map 0 (by omega)) | exact a_load_row (lq rfl) O3 rfl rfl (get_map 0 (by omega))))
        first | (apply sq_g rfl rfl rfl (lq rfl) (lq rfl) rfl; focus (intro hb; simp only [gd, Bool.not_eq_true'] at hb; (try rw [hb]); (try simp only [decide_eq_true_eq, decide_eq_false_iff_not, Bool.and_eq_true, Bool.or_eq_false_iff, Bool.not_eq_true'] at hb); exact a_gtr (lq rfl) rfl rfl)) | (apply sq_g2 rfl rfl rfl (lq rfl) (lq rfl) rfl; focus (intro hb; simp only [gd, Bool.and_eq_true, Bool.not_eq_true'] at hb; (try rw [hb.1]); (try rw [hb.2]); (try simp only [decide_eq_true_eq, decide_eq_false_iff_not, Bool.and_eq_true, Bool.or_eq_false_iff, Bool.not_eq_true'] at hb); exact a_gtr (lq rfl) rfl rfl))
        first | refine sq_a (ag_plain rfl (a_pick_or (lq rfl) rfl rfl)) ?_ | refine sq_a (ag_plain rfl (a_pick_td (lq rfl) rfl rfl)) ?_ | refine sq_a (ag_plain rfl (a_pick_fd (lq rfl) rfl rfl)) ?_
        refine sq_nil ?_
        refine avc_if rfl ⟨fun hc2 => ?_, fun hc2 => ?_⟩
        ·
          try simp only [Bool.and_eq_true, Bool.or_eq_true, Bool.not_eq_true', Bool.and_eq_false_iff, Bool.or_eq_false_iff, Bool.not_eq_false', decide_eq_true_eq, decide_eq_false_iff_not, Int.not_lt, Int.not_le] at hc2
          refine avc_sq2 ?_
          refine avc_sq ?_
          refine sq_a (ag_plain rfl (a_call (lq rfl) rfl (awake_c))) ?_
          first | refine sq_a (ag_plain rfl (a_assign_d (lq rfl) rfl)) ?_ | refine sq_a (ag_plain rfl (a_assign_row (lq rfl) rfl)) ?_ | refine sq_a (ag_plain rfl (a_assign_ptr (lq rfl) rfl)) ?_
          refine sq_nil ?_
          refine avc_ret ?_
          exact ret_bool rfl rfl
        ·
          try simp only [Bool.and_eq_true, Bool.or_eq_true, Bool.not_eq_true', Bool.and_eq_false_iff, Bool.or_eq_false_iff, Bool.not_eq_false', decide_eq_true_eq, decide_eq_false_iff_not, Int.not_lt, Int.not_le] at hc2
          refine avc_skip ?_
          refine avc_sq ?_
          first | refine sq_a (ag_plain rfl (a_move_d (lq rfl) rfl)) ?_ | refine sq_a (ag_plain rfl (a_move_row (lq rfl) rfl)) ?_ | refine sq_a (ag_plain rfl (a_move_ptr (lq rfl) rfl)) ?_ | refine sq_a (ag_plain rfl (a_move_ip (lq rfl) rfl)) ?_ | refine sq_a (ag_plain rfl (a_move_tup (lq rfl) rfl)) ?_
          refine sq_a (ag_plain rfl (a_add (lq rfl) rfl rfl (w64 (by omega) (by omega)))) ?_
          first | refine sq_a (ag_plain rfl (a_assign_d (lq rfl) rfl)) ?_ | refine sq_a (ag_plain rfl (a_assign_row (lq rfl) rfl)) ?_ | refine sq_a (ag_plain rfl (a_assign_ptr (lq rfl) rfl)) ?_
          refine sq_nil ?_
          first | refine loop_end  (j := k + 1) ?_ ?_ ?_ | refine loop_end  (K := fun _ _ => True) (j := k + 1) ?_ ?_ ?_
          · exact ⟨by omega, in_step hra (by omega)⟩
          · omega
          · refine weak_cov ⟨?_, ?_, ?_, ?_, trivial⟩ trivial <;> (first | rfl | exact cov_int (by omega) | exact cov_row (by simp [di, flatDV]))
      ·
        try simp only [Bool.and_eq_true, Bool.or_eq_true, Bool.not_eq_true', Bool.and_eq_false_iff, Bool.or_eq_false_iff, Bool.not_eq_false', decide_eq_true_eq, decide_eq_false_iff_not, Int.not_lt, Int.not_le] at hc1
        refine avc_exit ?_
        refine avc_sq2 ?_
        refine avc_sq2 ?_
        refine avc_sq ?_
        refine sq_a (ag_plain rfl (a_assign_d (lq rfl) rfl)) ?_
        refine sq_nil ?_
        refine avc_block ?_
        refine avc_loop (ι := Nat) (fun k2 => ⟨[(0, .d (.ints a)), (1, .d (.ints b)), (2, .d (di c)), (8, .d (di k2))], []⟩) (fun k2 => k2 ≤ b.length ∧ ∀ j, j < k2 → (1 : Int) ≤ b.getD j 0 ∧ b.getD j 0 ≤ 65535) (fun k2 => b.length - k2) 0 ?_ ?_ ?_
        · exact ⟨by omega, fun j hj => by omega⟩
        · refine weak_cov ⟨?_, ?_, ?_, ?_, trivial⟩ trivial <;> (first | rfl | exact cov_int (by omega) | exact cov_row (by simp [di, flatDV]))
        · rintro k2 hp
          obtain ⟨hpb, hrb⟩ := hp
          refine avc_sq2 ?_
          refine avc_sq2 ?_
          refine avc_sq ?_
          first | refine sq_a (ag_plain rfl (a_move_d (lq rfl) rfl)) ?_ | refine sq_a (ag_plain rfl (a_move_row (lq rfl) rfl)) ?_ | refine sq_a (ag_plain rfl (a_move_ptr (lq rfl) rfl)) ?_ | refine sq_a (ag_plain rfl (a_move_ip (lq rfl) rfl)) ?_ | refine sq_a (ag_plain rfl (a_move_tup (lq rfl) rfl)) ?_
          first | refine sq_a (ag_plain rfl (a_move_d (lq rfl) rfl)) ?_ | refine sq_a (ag_plain rfl (a_move_row (lq rfl) rfl)) ?_ | refine sq_a (ag_plain rfl (a_move_ptr (lq rfl) rfl)) ?_ | refine sq_a (ag_plain rfl (a_move_ip (lq rfl) rfl)) ?_ | refine sq_a (ag_plain rfl (a_move_tup (lq rfl) rfl)) ?_
          first | refine sq_a (ag_plain rfl (a_len_d (lq rfl) S22 rfl len_map)) ?_ | refine sq_a (ag_plain rfl (a_len_row (lq rfl) S22 rfl rfl len_map)) ?_ | refine sq_a (ag_plain rfl (a_len_nil (lq rfl) Try.underlying22 rfl)) ?_
          refine sq_a (ag_plain rfl (a_lss (lq rfl) rfl rfl)) ?_
          refine sq_nil ?_
          refine avc_if rfl ⟨fun hc3 => ?_, fun hc3 => ?_⟩
          ·
            try simp only [Bool.and_eq_true, Bool.or_eq_true, Bool.not_eq_true', Bool.and_eq_false_iff, Bool.or_eq_false_iff, Bool.not_eq_false', decide_eq_true_eq, decide_eq_false_iff_not, Int.not_lt, Int.not_le] at hc3
            refine avc_skip ?_
            refine avc_sq2 ?_
            refine avc_block ?_
            refine avc_sq2 ?_
            refine avc_sq ?_
            first | refine sq_a (ag_plain rfl (a_move_d (lq rfl) rfl)) ?_ | refine sq_a (ag_plain rfl (a_move_row (lq rfl) rfl)) ?_ | refine sq_a (ag_plain rfl (a_move_ptr (lq rfl) rfl)) ?_ | refine sq_a (ag_plain rfl (a_move_ip (lq rfl) rfl)) ?_ | refine sq_a (ag_plain rfl (a_move_tup (lq rfl) rfl)) ?_
            first | refine sq_a (ag_plain rfl (a_move_d (lq rfl) rfl)) ?_ | refine sq_a (ag_plain rfl (a_move_row (lq rfl) rfl)) ?_ | refine sq_a (ag_plain rfl (a_move_ptr (lq rfl) rfl)) ?_ | refine sq_a (ag_plain rfl (a_move_ip (lq rfl) rfl)) ?_ | refine sq_a (ag_plain rfl (a_move_tup (lq rfl) rfl)) ?_
            first | refine sq_a (ag_plain rfl (a_index_d (lq rfl) S22 rfl rfl rfl len_map (by omega))) ?_ | refine sq_a (ag_plain rfl (a_index_row (lq rfl) S22 rfl rfl rfl rfl len_map (by omega))) ?_ | refine sq_a (ag_plain rfl (a_index_d (lq rfl) S22 rfl rfl (ix_add1 _) len_map (by omega))) ?_ | refine sq_a (ag_plain rfl (a_index_row (lq rfl) S22 rfl rfl rfl (ix_add1 _) len_map (by omega))) ?_ | refine sq_a (ag_plain rfl (a_index_d (lq rfl) S22 rfl rfl (ix_nat (by omega)) len_map (by omega))) ?_ | refine sq_a (ag_plain rfl (a_index_row (lq rfl) S22 rfl rfl rfl (ix_nat (by omega)) len_map (by omega))) ?_
            first | refine sq_a (ag_plain rfl (a_load_box (lq rfl) O3 rfl rfl rfl)) ?_ | refine sq_a (ag_plain rfl (a_load_pt (lq rfl) O3 rfl rfl)) ?_ | refine sq_a (ag_plain rfl (a_load_ip (lq rfl) O3 rfl (get_map 0 (by omega)))) ?_ | refine sq_a (ag_plain rfl (a_load_row (lq rfl) O3 rfl rfl (get_map 0 (by omega)))) ?_
            refine sq_a (ag_plain rfl (a_lss (lq rfl) rfl rfl)) ?_
            first | refine sq_a (ag_plain rfl (a_move_d (lq rfl) rfl)) ?_ | refine sq_a (ag_plain rfl (a_move_row (lq rfl) rfl)) ?_ | refine sq_a (ag_plain rfl (a_move_ptr (lq rfl) rfl)) ?_ | refine sq_a (ag_plain rfl (a_move_ip (lq rfl) rfl)) ?_ | refine sq_a (ag_plain rfl (a_move_tup (lq rfl) rfl)) ?_
            first | (apply sq_g rfl rfl rfl (lq rfl) (lq rfl) rfl; focus (intro hb; simp only [gd, Bool.not_eq_true'] at hb; (try rw [hb]); (try simp only [decide_eq_true_eq, decide_eq_false_iff_not, Bool.and_eq_true, Bool.or_eq_false_iff, Bool.not_eq_true'] at hb); first | exact a_move_d (lq rfl) rfl | exact a_move_row (lq rfl) rfl | exact a_move_ptr (lq rfl) rfl | exact a_move_ip (lq rfl) rfl | exact a_move_tup (lq rfl) rfl)) | (apply sq_g2 rfl rfl rfl (lq rfl) (lq rfl) rfl; focus (intro hb; simp only [gd, Bool.and_eq_true, Bool.not_eq_true'] at hb; (try rw [hb.1]); (try rw [hb.2]); (try simp only [decide_eq_true_eq, decide_eq_false_iff_not, Bool.and_eq_true, Bool.or_eq_false_iff, Bool.not_eq_true'] at hb); first | exact a_move_d (lq rfl) rfl | exact a_move_row (lq rfl) rfl | exact a_move_ptr (lq rfl) rfl | exact a_move_ip (lq rfl) rfl | exact a_move_tup (lq rfl) rfl))
            first | (apply sq_g rfl rfl rfl (lq rfl) (lq rfl) rfl; focus (intro hb; simp only [gd, Bool.not_eq_true'] at hb; (try rw [hb]); (try simp only [decide_eq_true_eq, decide_eq_false_iff_not, Bool.and_eq_true, Bool.or_eq_false_iff, Bool.not_eq_true'] at hb); first | exact a_move_d (lq rfl) rfl | exact a_move_row (lq rfl) rfl | exact a_move_ptr (lq rfl) rfl | exact a_move_ip (lq rfl) rfl | exact a_move_tup (lq rfl) rfl)) | (apply sq_g2 rfl rfl rfl (lq rfl) (lq rfl) rfl; focus (intro hb; simp only [gd, Bool.and_eq_true, Bool.not_eq_true'] at hb; (try rw [hb.1]); (try rw [hb.2]); (try simp only [decide_eq_true_eq, decide_eq_false_iff_not, Bool.and_eq_true, Bool.or_eq_false_iff, Bool.not_eq_true'] at hb); first | exact a_move_d (lq rfl) rfl | exact a_move_row (lq rfl) rfl | exact a_move_ptr (lq rfl) rfl | exact a_move_ip (lq rfl) rfl | exact a_move_tup (lq rfl) rfl))
            first | (apply sq_g rfl rfl rfl (lq rfl) (lq rfl) rfl; focus (intro hb; simp only [gd, Bool.not_eq_true'] at hb; (try rw [hb]); (try simp only [decide_eq_true_eq, decide_eq_false_iff_not, Bool.and_eq_true, Bool.or_eq_false_iff, Bool.not_eq_true'] at hb); first | exact a_index_d (lq rfl) S22 rfl rfl rfl len_map (by omega) | exact a_index_row (lq rfl) S22 rfl rfl rfl rfl len_map (by omega) | exact a_index_d (lq rfl) S22 rfl rfl (ix_add1 _) len_map (by omega) | exact a_index_row (lq rfl) S22 rfl rfl rfl (ix_add1 _) len_map (by omega) | exact a_index_d (lq rfl) S22 rfl rfl (ix_nat (by omega)) len_map (by omega) | exact a_index_row (lq rfl) S22 rfl rfl rfl (ix_nat (by omega)) len_map (by omega))) | (apply sq_g2 rfl rfl rfl (lq rfl) (lq rfl) rfl; focus (intro hb; simp only [gd, Bool.and_eq_true, Bool.not_eq_true'] at hb; (try rw [hb.1]); (try rw [hb.2]); (try simp only [decide_eq_true_eq, decide_eq_false_iff_not, Bool.and_eq_true, Bool.or_eq_false_iff, Bool.not_eq_true'] at hb); first | exact a_index_d (lq rfl) S22 rfl rfl rfl len_map (by omega) | exact a_index_row (lq rfl) S22 rfl rfl rfl rfl len_map (by omega) | exact a_index_d (lq rfl) S22 rfl rfl (ix_add1 _) len_map (by omega) | exact a_index_row (lq rfl) S22 rfl rfl rfl (ix_add1 _) len_map (by omega) | exact a_index_d (lq rfl) S22 rfl rfl (ix_nat (by omega)) len_map (by omega) | exact a_index_row (lq rfl) S22 rfl rfl rfl (ix_nat (by omega)) len_map (by omega)))
            first | (apply sq_g rfl rfl rfl (lq rfl) (lq rfl) rfl; focus (intro hb; simp only [gd, Bool.not_eq_true'] at hb; (try rw [hb]); (try simp only [decide_eq_true_eq, decide_eq_false_iff_not, Bool.and_eq_true, Bool.or_eq_false_iff, Bool.not_eq_true'] at hb); first | exact a_load_box (lq rfl) O3 rfl rfl rfl | exact a_load_pt (lq rfl) O3 rfl rfl | exact a_load_ip (lq rfl) O3 rfl (get_map 0 (by omega)) | exact a_load_row (lq rfl) O3 rfl rfl (get_map 0 (by omega)))) | (apply sq_g2 rfl rfl rfl (lq rfl) (lq rfl) rfl; focus (intro hb; simp only [gd, Bool.and_eq_true, Bool.not_eq_true'] at hb; (try rw [hb.1]); (try rw [hb.2]); (try simp only [decide_eq_true_eq, decide_eq_false_iff_not, Bool.and_eq_true, Bool.or_eq_false_iff, Bool.not_eq_true'] at hb); first | exact a_load_box (lq rfl) O3 rfl rfl rfl | exact a_load_pt (lq rfl) O3 rfl rfl | exact a_load_ip (lq rfl) O3 rfl (get_map 0 (by omega)) | exact a_load_row (lq rfl) O3 rfl rfl (get_map 0 (by omega))))
            first | (apply sq_g rfl rfl rfl (lq rfl) (lq rfl) rfl; focus (intro hb; simp only [gd, Bool.not_eq_true'] at hb; (try rw [hb]); (try simp only [decide_eq_true_eq, decide_eq_false_iff_not, Bool.and_eq_true, Bool.or_eq_false_iff, Bool.not_eq_true'] at hb); exact a_gtr (lq rfl) rfl rfl)) | (apply sq_g2 rfl rfl rfl (lq rfl) (lq rfl) rfl; focus (intro hb; simp only [gd, Bool.and_eq_true, Bool.not_eq_true'] at hb; (try rw [hb.1]); (try rw [hb.2]); (try simp only [decide_eq_true_eq, decide_eq_false_iff_not, Bool.and_eq_true, Bool.or_eq_false_iff, Bool.not_eq_true'] at hb); exact a_gtr (lq rfl) rfl rfl))
            first | refine sq_a (ag_plain rfl (a_pick_or (lq rfl) rfl rfl)) ?_ | refine sq_a (ag_plain rfl (a_pick_td (lq rfl) rfl rfl)) ?_ | refine sq_a (ag_plain rfl (a_pick_fd (lq rfl) rfl rfl)) ?_
            refine sq_nil ?_
            refine avc_if rfl ⟨fun hc4 => ?_, fun hc4 => ?_⟩
            ·
              try simp only [Bool.and_eq_true, Bool.or_eq_true, Bool.not_eq_true', Bool.and_eq_false_iff, Bool.or_eq_false_iff, Bool.not_eq_false', decide_eq_true_eq, decide_eq_false_iff_not, Int.not_lt, Int.not_le] at hc4
              refine avc_sq2 ?_
              refine avc_sq ?_
              refine sq_a (ag_plain rfl (a_call (lq rfl) rfl (awake_c))) ?_
              first | refine sq_a (ag_plain rfl (a_assign_d (lq rfl) rfl)) ?_ | refine sq_a (ag_plain rfl (a_assign_row (lq rfl) rfl)) ?_ | refine sq_a (ag_plain rfl (a_assign_ptr (lq rfl) rfl)) ?_
              refine sq_nil ?_
              refine avc_ret ?_
              exact ret_bool rfl rfl
            ·
              try simp only [Bool.and_eq_true, Bool.or_eq_true, Bool.not_eq_true', Bool.and_eq_false_iff, Bool.or_eq_false_iff, Bool.not_eq_false', decide_eq_true_eq, decide_eq_false_iff_not, Int.not_lt, Int.not_le] at hc4
              refine avc_skip ?_
              refine avc_sq ?_
              first | refine sq_a (ag_plain rfl (a_move_d (lq rfl) rfl)) ?_ | refine sq_a (ag_plain rfl (a_move_row (lq rfl) rfl)) ?_ | refine sq_a (ag_plain rfl (a_move_ptr (lq rfl) rfl)) ?_ | refine sq_a (ag_plain rfl (a_move_ip (lq rfl) rfl)) ?_ | refine sq_a (ag_plain rfl (a_move_tup (lq rfl) rfl)) ?_
              refine sq_a (ag_plain rfl (a_add (lq rfl) rfl rfl (w64 (by omega) (by omega)))) ?_
              first | refine sq_a (ag_plain rfl (a_assign_d (lq rfl) rfl)) ?_ | refine sq_a (ag_plain rfl (a_assign_row (lq rfl) rfl)) ?_ | refine sq_a (ag_plain rfl (a_assign_ptr (lq rfl) rfl)) ?_
              refine sq_nil ?_
              first | refine loop_end  (j := k2 + 1) ?_ ?_ ?_ | refine loop_end  (K := fun _ _ => True) (j := k2 + 1) ?_ ?_ ?_
              · exact ⟨by omega, in_step hrb (by omega)⟩
              · omega
              · refine weak_cov ⟨?_, ?_, ?_, ?_, trivial⟩ trivial <;> (first | rfl | exact cov_int (by omega) | exact cov_row (by simp [di, flatDV]))
          ·
            try simp only [Bool.and_eq_true, Bool.or_eq_true, Bool.not_eq_true', Bool.and_eq_false_iff, Bool.or_eq_false_iff, Bool.not_eq_false', decide_eq_true_eq, decide_eq_false_iff_not, Int.not_lt, Int.not_le] at hc3
            refine avc_exit ?_
            refine avc_sq2 ?_
            refine avc_sq ?_
            have pa : plain a = a := plain_of fun v hv => by have := all_in (by omega) hra v hv; omega
            have pb : plain b = b := plain_of fun v hv => by have := all_in (by omega) hrb v hv; omega
            first | refine sq_a (ag_plain rfl (a_move_d (lq rfl) rfl)) ?_ | refine sq_a (ag_plain rfl (a_move_row (lq rfl) rfl)) ?_ | refine sq_a (ag_plain rfl (a_move_ptr (lq rfl) rfl)) ?_ | refine sq_a (ag_plain rfl (a_move_ip (lq rfl) rfl)) ?_ | refine sq_a (ag_plain rfl (a_move_tup (lq rfl) rfl)) ?_
            first | refine sq_a (ag_plain rfl (a_move_d (lq rfl) rfl)) ?_ | refine sq_a (ag_plain rfl (a_move_row (lq rfl) rfl)) ?_ | refine sq_a (ag_plain rfl (a_move_ptr (lq rfl) rfl)) ?_ | refine sq_a (ag_plain rfl (a_move_ip (lq rfl) rfl)) ?_ | refine sq_a (ag_plain rfl (a_move_tup (lq rfl) rfl)) ?_
            refine sq_a (ag_plain rfl (a_call (lq rfl) rfl (pack_c _ _ (by omega)))) ?_
            first | refine sq_a (ag_plain rfl (a_move_d (lq rfl) rfl)) ?_ | refine sq_a (ag_plain rfl (a_move_row (lq rfl) rfl)) ?_ | refine sq_a (ag_plain rfl (a_move_ptr (lq rfl) rfl)) ?_ | refine sq_a (ag_plain rfl (a_move_ip (lq rfl) rfl)) ?_ | refine sq_a (ag_plain rfl (a_move_tup (lq rfl) rfl)) ?_
            first | refine sq_a (ag_plain rfl (a_move_d (lq rfl) rfl)) ?_ | refine sq_a (ag_plain rfl (a_move_row (lq rfl) rfl)) ?_ | refine sq_a (ag_plain rfl (a_move_ptr (lq rfl) rfl)) ?_ | refine sq_a (ag_plain rfl (a_move_ip (lq rfl) rfl)) ?_ | refine sq_a (ag_plain rfl (a_move_tup (lq rfl) rfl)) ?_
            refine sq_a (ag_plain rfl (a_call (lq rfl) rfl (pack_c _ _ (by omega)))) ?_
            refine sq_a (ag_plain rfl (a_call (lq rfl) rfl (refCompare_c _ _ (by omega) (by omega)))) ?_
            first | refine sq_a (ag_plain rfl (a_move_d (lq rfl) rfl)) ?_ | refine sq_a (ag_plain rfl (a_move_row (lq rfl) rfl)) ?_ | refine sq_a (ag_plain rfl (a_move_ptr (lq rfl) rfl)) ?_ | refine sq_a (ag_plain rfl (a_move_ip (lq rfl) rfl)) ?_ | refine sq_a (ag_plain rfl (a_move_tup (lq rfl) rfl)) ?_
            first | refine sq_a (ag_plain rfl (a_move_d (lq rfl) rfl)) ?_ | refine sq_a (ag_plain rfl (a_move_row (lq rfl) rfl)) ?_ | refine sq_a (ag_plain rfl (a_move_ptr (lq rfl) rfl)) ?_ | refine sq_a (ag_plain rfl (a_move_ip (lq rfl) rfl)) ?_ | refine sq_a (ag_plain rfl (a_move_tup (lq rfl) rfl)) ?_
            refine sq_a (ag_plain rfl (a_call (lq rfl) rfl (refCompare_c _ _ (by omega) (by omega)))) ?_
            refine sq_a (ag_plain rfl ((a_eql (lq rfl) rfl rfl).bool (b := true) (decide_eq_true (by rw [pk_cmp, pa, pb])))) ?_
            first | refine sq_a (ag_plain rfl (a_move_d (lq rfl) rfl)) ?_ | refine sq_a (ag_plain rfl (a_move_row (lq rfl) rfl)) ?_ | refine sq_a (ag_plain rfl (a_move_ptr (lq rfl) rfl)) ?_ | refine sq_a (ag_plain rfl (a_move_ip (lq rfl) rfl)) ?_ | refine sq_a (ag_plain rfl (a_move_tup (lq rfl) rfl)) ?_
            first | (apply sq_g rfl rfl rfl (lq rfl) (lq rfl) rfl; focus (intro hb; simp only [gd, Bool.not_eq_true'] at hb; (try rw [hb]); (try simp only [decide_eq_true_eq, decide_eq_false_iff_not, Bool.and_eq_true, Bool.or_eq_false_iff, Bool.not_eq_true'] at hb); exact a_call (lq rfl) rfl (awake_c))) | (apply sq_g2 rfl rfl rfl (lq rfl) (lq rfl) rfl; focus (intro hb; simp only [gd, Bool.and_eq_true, Bool.not_eq_true'] at hb; (try rw [hb.1]); (try rw [hb.2]); (try simp only [decide_eq_true_eq, decide_eq_false_iff_not, Bool.and_eq_true, Bool.or_eq_false_iff, Bool.not_eq_true'] at hb); exact a_call (lq rfl) rfl (awake_c)))
            first | refine sq_a (ag_plain rfl (a_pick_and (lq rfl) rfl rfl)) ?_ | refine sq_a (ag_plain rfl (a_pick_td (lq rfl) rfl rfl)) ?_ | refine sq_a (ag_plain rfl (a_pick_fd (lq rfl) rfl rfl)) ?_
            first | refine sq_a (ag_plain rfl (a_assign_d (lq rfl) rfl)) ?_ | refine sq_a (ag_plain rfl (a_assign_row (lq rfl) rfl)) ?_ | refine sq_a (ag_plain rfl (a_assign_ptr (lq rfl) rfl)) ?_
            refine sq_nil ?_
            refine avc_ret ?_
            exact ret_bool rfl rfl

theorem varints_c (a b : List Int)  : Contract Try.prog 6 [.ints a, .ints b] [db true] := by
  refine contract_of Try.func6 (by kernel_rfl) rfl (lq rfl) (lq rfl) fun w0 I0 => ?_
  refine avc_sq2 ?_
  refine avc_sq ?_
  refine sq_a (ag_plain rfl (a_assign_d (lq rfl) rfl)) ?_
  refine sq_nil ?_
  refine avc_sq2 ?_
  refine avc_sq2 ?_
  refine avc_sq ?_
  first | refine sq_a (ag_plain rfl (a_move_d (lq rfl) rfl)) ?_ | refine sq_a (ag_plain rfl (a_move_row (lq rfl) rfl)) ?_ | refine sq_a (ag_plain rfl (a_move_ptr (lq rfl) rfl)) ?_ | refine sq_a (ag_plain rfl (a_move_ip (lq rfl) rfl)) ?_ | refine sq_a (ag_plain rfl (a_move_tup (lq rfl) rfl)) ?_
  first | refine sq_a (ag_plain rfl (a_len_d (lq rfl) S22 rfl len_map)) ?_ | refine sq_a (ag_plain rfl (a_len_row (lq rfl) S22 rfl rfl len_map)) ?_ | refine sq_a (ag_plain rfl (a_len_nil (lq rfl) Try.underlying22 rfl)) ?_
  refine sq_a (ag_plain rfl (a_gtr (lq rfl) rfl rfl)) ?_
  first | refine sq_a (ag_plain rfl (a_move_d (lq rfl) rfl)) ?_ | refine sq_a (ag_plain rfl (a_move_row (lq rfl) rfl)) ?_ | refine sq_a (ag_plain rfl (a_move_ptr (lq rfl) rfl)) ?_ | refine sq_a (ag_plain rfl (a_move_ip (lq rfl) rfl)) ?_ | refine sq_a (ag_plain rfl (a_move_tup (lq rfl) rfl)) ?_
  first | (apply sq_g rfl rfl rfl (lq rfl) (lq rfl) rfl; focus (intro hb; simp only [gd, Bool.not_eq_true'] at hb; (try rw [hb]); (try simp only [decide_eq_true_eq, decide_eq_false_iff_not, Bool.and_eq_true, Bool.or_eq_false_iff, Bool.not_eq_true'] at hb); first | exact a_move_d (lq rfl) rfl | exact a_move_row (lq rfl) rfl | exact a_move_ptr (lq rfl) rfl | exact a_move_ip (lq rfl) rfl | exact a_move_tup (lq rfl) rfl)) | (apply sq_g2 rfl rfl rfl (lq rfl) (lq rfl) rfl; focus (intro hb; simp only [gd, Bool.and_eq_true, Bool.not_eq_true'] at hb; (try rw [hb.1]); (try rw [hb.2]); (try simp only [decide_eq_true_eq, decide_eq_false_iff_not, Bool.and_eq_true, Bool.or_eq_false_iff, Bool.not_eq_true'] at hb); first | exact a_move_d (lq rfl) rfl | exact a_move_row (lq rfl) rfl | exact a_move_ptr (lq rfl) rfl | exact a_move_ip (lq rfl) rfl | exact a_move_tup (lq rfl) rfl))
  first | (apply sq_g rfl rfl rfl (lq rfl) (lq rfl) rfl; focus (intro hb; simp only [gd, Bool.not_eq_true'] at hb; (try rw [hb]); (try simp only [decide_eq_true_eq, decide_eq_false_iff_not, Bool.and_eq_true, Bool.or_eq_false_iff, Bool.not_eq_true'] at hb); first | exact a_len_d (lq rfl) S22 rfl len_map | exact a_len_row (lq rfl) S22 rfl rfl len_map | exact a_len_nil (lq rfl) Try.underlying22 rfl)) | (apply sq_g2 rfl rfl rfl (lq rfl) (lq rfl) rfl; focus (intro hb; simp only [gd, Bool.and_eq_true, Bool.not_eq_true'] at hb; (try rw [hb.1]); (try rw [hb.2]); (try simp only [decide_eq_true_eq, decide_eq_false_iff_not, Bool.and_eq_true, Bool.or_eq_false_iff, Bool.not_eq_true'] at hb); first | exact a_len_d (lq rfl) S22 rfl len_map | exact a_len_row (lq rfl) S22 rfl rfl len_map | exact a_len_nil (lq rfl) Try.underlying22 rfl))
  first | (apply sq_g rfl rfl rfl (lq rfl) (lq rfl) rfl; focus (intro hb; simp only [gd, Bool.not_eq_true'] at hb; (try rw [hb]); (try simp only [decide_eq_true_eq, decide_eq_false_iff_not, Bool.and_eq_true, Bool.or_eq_false_iff, Bool.not_eq_true'] at hb); exact a_gtr (lq rfl) rfl rfl)) | (apply sq_g2 rfl rfl rfl (lq rfl) (lq rfl) rfl; focus (intro hb; simp only [gd, Bool.and_eq_true, Bool.not_eq_true'] at hb; (try rw [hb.1]); (try rw [hb.2]); (try simp only [decide_eq_true_eq, decide_eq_false_iff_not, Bool.and_eq_true, Bool.or_eq_false_iff, Bool.not_eq_true'] at hb); exact a_gtr (lq rfl) rfl rfl))
  first | refine sq_a (ag_plain rfl (a_pick_or (lq rfl) rfl rfl)) ?_ | refine sq_a (ag_plain rfl (a_pick_td (lq rfl) rfl rfl)) ?_ | refine sq_a (ag_plain rfl (a_pick_fd (lq rfl) rfl rfl)) ?_
  refine sq_nil ?_
  refine avc_if rfl ⟨fun hc0 => ?_, fun hc0 => ?_⟩
  ·
    try simp only [Bool.and_eq_true, Bool.or_eq_true, Bool.not_eq_true', Bool.and_eq_false_iff, Bool.or_eq_false_iff, Bool.not_eq_false', decide_eq_true_eq, decide_eq_false_iff_not, Int.not_lt, Int.not_le] at hc0
    refine avc_sq2 ?_
    refine avc_sq ?_
    refine sq_a (ag_plain rfl (a_call (lq rfl) rfl (awake_c))) ?_
    first | refine sq_a (ag_plain rfl (a_assign_d (lq rfl) rfl)) ?_ | refine sq_a (ag_plain rfl (a_assign_row (lq rfl) rfl)) ?_ | refine sq_a (ag_plain rfl (a_assign_ptr (lq rfl) rfl)) ?_
    refine sq_nil ?_
    refine avc_ret ?_
    exact ret_bool rfl rfl
  ·
    try simp only [Bool.and_eq_true, Bool.or_eq_true, Bool.not_eq_true', Bool.and_eq_false_iff, Bool.or_eq_false_iff, Bool.not_eq_false', decide_eq_true_eq, decide_eq_false_iff_not, Int.not_lt, Int.not_le] at hc0
    refine avc_skip ?_
    refine avc_sq2 ?_
    refine avc_sq ?_
    first | refine sq_a (ag_plain rfl (a_move_d (lq rfl) rfl)) ?_ | refine sq_a (ag_plain rfl (a_move_row (lq rfl) rfl)) ?_ | refine sq_a (ag_plain rfl (a_move_ptr (lq rfl) rfl)) ?_ | refine sq_a (ag_plain rfl (a_move_ip (lq rfl) rfl)) ?_ | refine sq_a (ag_plain rfl (a_move_tup (lq rfl) rfl)) ?_
    refine sq_a (ag_plain rfl (a_call (lq rfl) rfl (varint_c _ (by omega)))) ?_
    first | refine sq_a (ag_plain rfl (a_move_d (lq rfl) rfl)) ?_ | refine sq_a (ag_plain rfl (a_move_row (lq rfl) rfl)) ?_ | refine sq_a (ag_plain rfl (a_move_ptr (lq rfl) rfl)) ?_ | refine sq_a (ag_plain rfl (a_move_ip (lq rfl) rfl)) ?_ | refine sq_a (ag_plain rfl (a_move_tup (lq rfl) rfl)) ?_
    refine sq_a (ag_plain rfl (a_call (lq rfl) rfl (varint_c _ (by omega)))) ?_
    first | refine sq_a (ag_plain rfl (a_assign_d (lq rfl) rfl)) ?_ | refine sq_a (ag_plain rfl (a_assign_row (lq rfl) rfl)) ?_ | refine sq_a (ag_plain rfl (a_assign_ptr (lq rfl) rfl)) ?_
    first | refine sq_a (ag_plain rfl (a_assign_d (lq rfl) rfl)) ?_ | refine sq_a (ag_plain rfl (a_assign_row (lq rfl) rfl)) ?_ | refine sq_a (ag_plain rfl (a_assign_ptr (lq rfl) rfl)) ?_
    refine sq_nil ?_
    refine avc_sq2 ?_
    refine avc_sq2 ?_
    refine avc_sq ?_
    first | refine sq_a (ag_plain rfl (a_move_d (lq rfl) rfl)) ?_ | refine sq_a (ag_plain rfl (a_move_row (lq rfl) rfl)) ?_ | refine sq_a (ag_plain rfl (a_move_ptr (lq rfl) rfl)) ?_ | refine sq_a (ag_plain rfl (a_move_ip (lq rfl) rfl)) ?_ | refine sq_a (ag_plain rfl (a_move_tup (lq rfl) rfl)) ?_
    first | refine sq_a (ag_plain rfl (a_move_d (lq rfl) rfl)) ?_ | refine sq_a (ag_plain rfl (a_move_row (lq rfl) rfl)) ?_ | refine sq_a (ag_plain rfl (a_move_ptr (lq rfl) rfl)) ?_ | refine sq_a (ag_plain rfl (a_move_ip (lq rfl) rfl)) ?_ | refine sq_a (ag_plain rfl (a_move_tup (lq rfl) rfl)) ?_
    refine sq_a (ag_plain rfl (a_call (lq rfl) rfl (refVarint_c _ (by omega)))) ?_
    refine sq_a (ag_plain rfl ((a_sneq (lq rfl) rfl rfl).bool (b := false) (by simp))) ?_
    first | refine sq_a (ag_plain rfl (a_move_d (lq rfl) rfl)) ?_ | refine sq_a (ag_plain rfl (a_move_row (lq rfl) rfl)) ?_ | refine sq_a (ag_plain rfl (a_move_ptr (lq rfl) rfl)) ?_ | refine sq_a (ag_plain rfl (a_move_ip (lq rfl) rfl)) ?_ | refine sq_a (ag_plain rfl (a_move_tup (lq rfl) rfl)) ?_
    first | (apply sq_g rfl rfl rfl (lq rfl) (lq rfl) rfl; focus (intro hb; simp only [gd, Bool.not_eq_true'] at hb; (try rw [hb]); (try simp only [decide_eq_true_eq, decide_eq_false_iff_not, Bool.and_eq_true, Bool.or_eq_false_iff, Bool.not_eq_true'] at hb); first | exact a_move_d (lq rfl) rfl | exact a_move_row (lq rfl) rfl | exact a_move_ptr (lq rfl) rfl | exact a_move_ip (lq rfl) rfl | exact a_move_tup (lq rfl) rfl)) | (apply sq_g2 rfl rfl rfl (lq rfl) (lq rfl) rfl; focus (intro hb; simp only [gd, Bool.and_eq_true, Bool.not_eq_true'] at hb; (try rw [hb.1]); (try rw [hb.2]); (try simp only [decide_eq_true_eq, decide_eq_false_iff_not, Bool.and_eq_true, Bool.or_eq_false_iff, Bool.not_eq_true'] at hb); first | exact a_move_d (lq rfl) rfl | exact a_move_row (lq rfl) rfl | exact a_move_ptr (lq rfl) rfl | exact a_move_ip (lq rfl) rfl | exact a_move_tup (lq rfl) rfl))
    first | (apply sq_g rfl rfl rfl (lq rfl) (lq rfl) rfl; focus (intro hb; simp only [gd, Bool.not_eq_true'] at hb; (try rw [hb]); (try simp only [decide_eq_true_eq, decide_eq_false_iff_not, Bool.and_eq_true, Bool.or_eq_false_iff, Bool.not_eq_true'] at hb); first | exact a_move_d (lq rfl) rfl | exact a_move_row (lq rfl) rfl | exact a_move_ptr (lq rfl) rfl | exact a_move_ip (lq rfl) rfl | exact a_move_tup (lq rfl) rfl)) | (apply sq_g2 rfl rfl rfl (lq rfl) (lq rfl) rfl; focus (intro hb; simp only [gd, Bool.and_eq_true, Bool.not_eq_true'] at hb; (try rw [hb.1]); (try rw [hb.2]); (try simp only [decide_eq_true_eq, decide_eq_false_iff_not, Bool.and_eq_true, Bool.or_eq_false_iff, Bool.not_eq_true'] at hb); first | exact a_move_d (lq rfl) rfl | exact a_move_row (lq rfl) rfl | exact a_move_ptr (lq rfl) rfl | exact a_move_ip (lq rfl) rfl | exact a_move_tup (lq rfl) rfl))
    first | (apply sq_g rfl rfl rfl (lq rfl) (lq rfl) rfl; focus (intro hb; simp only [gd, Bool.not_eq_true'] at hb; (try rw [hb]); (try simp only [decide_eq_true_eq, decide_eq_false_iff_not, Bool.and_eq_true, Bool.or_eq_false_iff, Bool.not_eq_true'] at hb); exact a_call (lq rfl) rfl (refVarint_c _ (by omega)))) | (apply sq_g2 rfl rfl rfl (lq rfl) (lq rfl) rfl; focus (intro hb; simp only [gd, Bool.and_eq_true, Bool.not_eq_true'] at hb; (try rw [hb.1]); (try rw [hb.2]); (try simp only [decide_eq_true_eq, decide_eq_false_iff_not, Bool.and_eq_true, Bool.or_eq_false_iff, Bool.not_eq_true'] at hb); exact a_call (lq rfl) rfl (refVarint_c _ (by omega))))
    first | (apply sq_g rfl rfl rfl (lq rfl) (lq rfl) rfl; focus (intro hb; simp only [gd, Bool.not_eq_true'] at hb; (try rw [hb]); (try simp only [decide_eq_true_eq, decide_eq_false_iff_not, Bool.and_eq_true, Bool.or_eq_false_iff, Bool.not_eq_true'] at hb); exact (a_sneq (lq rfl) rfl rfl).bool (b := false) (by simp))) | (apply sq_g2 rfl rfl rfl (lq rfl) (lq rfl) rfl; focus (intro hb; simp only [gd, Bool.and_eq_true, Bool.not_eq_true'] at hb; (try rw [hb.1]); (try rw [hb.2]); (try simp only [decide_eq_true_eq, decide_eq_false_iff_not, Bool.and_eq_true, Bool.or_eq_false_iff, Bool.not_eq_true'] at hb); exact (a_sneq (lq rfl) rfl rfl).bool (b := false) (by simp)))
    first | refine sq_a (ag_plain rfl (a_pick_or (lq rfl) rfl rfl)) ?_ | refine sq_a (ag_plain rfl (a_pick_td (lq rfl) rfl rfl)) ?_ | refine sq_a (ag_plain rfl (a_pick_fd (lq rfl) rfl rfl)) ?_
    refine sq_nil ?_
    refine avc_if rfl ⟨fun hc1 => ?_, fun hc1 => ?_⟩
    ·
      skip
      cases hc1
    ·
      skip
      refine avc_skip ?_
      refine avc_sq2 ?_
      refine avc_sq2 ?_
      refine avc_sq ?_
      refine sq_a (ag_plain rfl (a_assign_d (lq rfl) rfl)) ?_
      refine sq_nil ?_
      refine avc_block ?_
      refine avc_loop (ι := Nat) (fun k => ⟨[(0, .d (.ints a)), (1, .d (.ints b)), (5, .d (.v (.string (strOfNums (vbs a))))), (6, .d (.v (.string (strOfNums (vbs b))))), (7, .d (di k))], []⟩) (fun k => k ≤ a.length ∧ ∀ j, j < k → (0 : Int) ≤ a.getD j 0 ∧ a.getD j 0 ≤ 16777215) (fun k => a.length - k) 0 ?_ ?_ ?_
      · exact ⟨by omega, fun j hj => by omega⟩
      · refine weak_cov ⟨?_, ?_, ?_, ?_, ?_, trivial⟩ trivial <;> (first | rfl | exact cov_int (by omega) | exact cov_row (by simp [di, flatDV]))
      · rintro k hp
        obtain ⟨hpa, hra⟩ := hp
        refine avc_sq2 ?_
        refine avc_sq2 ?_
        refine avc_sq ?_
        first | refine sq_a (ag_plain rfl (a_move_d (lq rfl) rfl)) ?_ | refine sq_a (ag_plain rfl (a_move_row (lq rfl) rfl)) ?_ | refine sq_a (ag_plain rfl (a_move_ptr (lq rfl) rfl)) ?_ | refine sq_a (ag_plain rfl (a_move_ip (lq rfl) rfl)) ?_ | refine sq_a (ag_plain rfl (a_move_tup (lq rfl) rfl)) ?_
        first | refine sq_a (ag_plain rfl (a_move_d (lq rfl) rfl)) ?_ | refine sq_a (ag_plain rfl (a_move_row (lq rfl) rfl)) ?_ | refine sq_a (ag_plain rfl (a_move_ptr (lq rfl) rfl)) ?_ | refine sq_a (ag_plain rfl (a_move_ip (lq rfl) rfl)) ?_ | refine sq_a (ag_plain rfl (a_move_tup (lq rfl) rfl)) ?_
        first | refine sq_a (ag_plain rfl (a_len_d (lq rfl) S22 rfl len_map)) ?_ | refine sq_a (ag_plain rfl (a_len_row (lq rfl) S22 rfl rfl len_map)) ?_ | refine sq_a (ag_plain rfl (a_len_nil (lq rfl) Try.underlying22 rfl)) ?_
        refine sq_a (ag_plain rfl (a_lss (lq rfl) rfl rfl)) ?_
        refine sq_nil ?_
        refine avc_if rfl ⟨fun hc2 => ?_, fun hc2 => ?_⟩
        ·
          try simp only [Bool.and_eq_true, Bool.or_eq_true, Bool.not_eq_true', Bool.and_eq_false_iff, Bool.or_eq_false_iff, Bool.not_eq_false', decide_eq_true_eq, decide_eq_false_iff_not, Int.not_lt, Int.not_le] at hc2
          refine avc_skip ?_
          refine avc_sq2 ?_
          refine avc_block ?_
          refine avc_sq2 ?_
          refine avc_sq ?_
          first | refine sq_a (ag_plain rfl (a_move_d (lq rfl) rfl)) ?_ | refine sq_a (ag_plain rfl (a_move_row (lq rfl) rfl)) ?_ | refine sq_a (ag_plain rfl (a_move_ptr (lq rfl) rfl)) ?_ | refine sq_a (ag_plain rfl (a_move_ip (lq rfl) rfl)) ?_ | refine sq_a (ag_plain rfl (a_move_tup (lq rfl) rfl)) ?_
          first | refine sq_a (ag_plain rfl (a_move_d (lq rfl) rfl)) ?_ | refine sq_a (ag_plain rfl (a_move_row (lq rfl) rfl)) ?_ | refine sq_a (ag_plain rfl (a_move_ptr (lq rfl) rfl)) ?_ | refine sq_a (ag_plain rfl (a_move_ip (lq rfl) rfl)) ?_ | refine sq_a (ag_plain rfl (a_move_tup (lq rfl) rfl)) ?_
          first | refine sq_a (ag_plain rfl (a_index_d (lq rfl) S22 rfl rfl rfl len_map (by omega))) ?_ | refine sq_a (ag_plain rfl (a_index_row (lq rfl) S22 rfl rfl rfl rfl len_map (by omega))) ?_ | refine sq_a (ag_plain rfl (a_index_d (lq rfl) S22 rfl rfl (ix_add1 _) len_map (by omega))) ?_ | refine sq_a (ag_plain rfl (a_index_row (lq rfl) S22 rfl rfl rfl (ix_add1 _) len_map (by omega))) ?_ | refine sq_a (ag_plain rfl (a_index_d (lq rfl) S22 rfl rfl (ix_nat (by omega)) len_map (by omega))) ?_ | refine sq_a (ag_plain rfl (a_index_row (lq rfl) S22 rfl rfl rfl (ix_nat (by omega)) len_map (by omega))) ?_
          first | refine sq_a (ag_plain rfl (a_load_box (lq rfl) O3 rfl rfl rfl)) ?_ | refine sq_a (ag_plain rfl (a_load_pt (lq rfl) O3 rfl rfl)) ?_ | refine sq_a (ag_plain rfl (a_load_ip (lq rfl) O3 rfl (get_map 0 (by omega)))) ?_ | refine sq_a (ag_plain rfl (a_load_row (lq rfl) O3 rfl rfl (get_map 0 (by omega)))) ?_
          refine sq_a (ag_plain rfl (a_lss (lq rfl) rfl rfl)) ?_
          first | refine sq_a (ag_plain rfl (a_move_d (lq rfl) rfl)) ?_ | refine sq_a (ag_plain rfl (a_move_row (lq rfl) rfl)) ?_ | refine sq_a (ag_plain rfl (a_move_ptr (lq rfl) rfl)) ?_ | refine sq_a (ag_plain rfl (a_move_ip (lq rfl) rfl)) ?_ | refine sq_a (ag_plain rfl (a_move_tup (lq rfl) rfl)) ?_
          first | (apply sq_g rfl rfl rfl (lq rfl) (lq rfl) rfl; focus (intro hb; simp only [gd, Bool.not_eq_true'] at hb; (try rw [hb]); (try simp only [decide_eq_true_eq, decide_eq_false_iff_not, Bool.and_eq_true, Bool.or_eq_false_iff, Bool.not_eq_true'] at hb); first | exact a_move_d (lq rfl) rfl | exact a_move_row (lq rfl) rfl | exact a_move_ptr (lq rfl) rfl | exact a_move_ip (lq rfl) rfl | exact a_move_tup (lq rfl) rfl)) | (apply sq_g2 rfl rfl rfl (lq rfl) (lq rfl) rfl; focus (intro hb; simp only [gd, Bool.and_eq_true, Bool.not_eq_true'] at hb; (try rw [hb.1]); (try rw [hb.2]); (try simp only [decide_eq_true_eq, decide_eq_false_iff_not, Bool.and_eq_true, Bool.or_eq_false_iff, Bool.not_eq_true'] at hb); first | exact a_move_d (lq rfl) rfl | exact a_move_row (lq rfl) rfl | exact a_move_ptr (lq rfl) rfl | exact a_move_ip (lq rfl) rfl | exact a_move_tup (lq rfl) rfl))
          first | (apply sq_g rfl rfl rfl (lq rfl) (lq rfl) rfl; focus (intro hb; simp only [gd, Bool.not_eq_true'] at hb; (try rw [hb]); (try simp only [decide_eq_true_eq, decide_eq_false_iff_not, Bool.and_eq_true, Bool.or_eq_false_iff, Bool.not_eq_true'] at hb); first | exact a_move_d (lq rfl) rfl | exact a_move_row (lq rfl) rfl | exact a_move_ptr (lq rfl) rfl | exact a_move_ip (lq rfl) rfl | exact a_move_tup (lq rfl) rfl)) | (apply sq_g2 rfl rfl rfl (lq rfl) (lq rfl) rfl; focus (intro hb; simp only [gd, Bool.and_eq_true, Bool.not_eq_true'] at hb; (try rw [hb.1]); (try rw [hb.2]); (try simp only [decide_eq_true_eq, decide_eq_false_iff_not, Bool.and_eq_true, Bool.or_eq_false_iff, Bool.not_eq_true'] at hb); first | exact a_move_d (lq rfl) rfl | exact a_move_row (lq rfl) rfl | exact a_move_ptr (lq rfl) rfl | exact a_move_ip (lq rfl) rfl | exact a_move_tup (lq rfl) rfl))
          first | (apply sq_g rfl rfl rfl (lq rfl) (lq rfl) rfl; focus (intro hb; simp only [gd, Bool.not_eq_true'] at hb; (try rw [hb]); (try simp only [decide_eq_true_eq, decide_eq_false_iff_not, Bool.and_eq_true, Bool.or_eq_false_iff, Bool.not_eq_true'] at hb); first | exact a_index_d (lq rfl) S22 rfl rfl rfl len_map (by omega) | exact a_index_row (lq rfl) S22 rfl rfl rfl rfl len_map (by omega) | exact a_index_d (lq rfl) S22 rfl rfl (ix_add1 _) len_map (by omega) | exact a_index_row (lq rfl) S22 rfl rfl rfl (ix_add1 _) len_map (by omega) | exact a_index_d (lq rfl) S22 rfl rfl (ix_nat (by omega)) len_map (by omega) | exact a_index_row (lq rfl) S22 rfl rfl rfl (ix_nat (by omega)) len_map (by omega))) | (apply sq_g2 rfl rfl rfl (lq rfl) (lq rfl) rfl; focus (intro hb; simp only [gd, Bool.and_eq_true, Bool.not_eq_true'] at hb; (try rw [hb.1]); (try rw [hb.2]); (try simp only [decide_eq_true_eq, decide_eq_false_iff_not, Bool.and_eq_true, Bool.or_eq_false_iff, Bool.not_eq_true'] at hb); first | exact a_index_d (lq rfl) S22 rfl rfl rfl len_map (by omega) | exact a_index_row (lq rfl) S22 rfl rfl rfl rfl len_map (by omega) | exact a_index_d (lq rfl) S22 rfl rfl (ix_add1 _) len_map (by omega) | exact a_index_row (lq rfl) S22 rfl rfl rfl (ix_add1 _) len_map (by omega) | exact a_index_d (lq rfl) S22 rfl rfl (ix_nat (by omega)) len_map (by omega) | exact a_index_row (lq rfl) S22 rfl rfl rfl (ix_nat (by omega)) len_map (by omega)))
          first | (apply sq_g rfl rfl rfl (lq rfl) (lq rfl) rfl; focus (intro hb; simp only [gd, Bool.not_eq_true'] at hb; (try rw [hb]); (try simp only [decide_eq_true_eq, decide_eq_false_iff_not, Bool.and_eq_true, Bool.or_eq_false_iff, Bool.not_eq_true'] at hb); first | exact a_load_box (lq rfl) O3 rfl rfl rfl | exact a_load_pt (lq rfl) O3 rfl rfl | exact a_load_ip (lq rfl) O3 rfl (get_map 0 (by omega)) | exact a_load_row (lq rfl) O3 rfl rfl (get_map 0 (by omega)))) | (apply sq_g2 rfl rfl rfl (lq rfl) (lq rfl) rfl; focus (intro hb; simp only [gd, Bool.and_eq_true, Bool.not_eq_true'] at hb; (try rw [hb.1]); (try rw [hb.2]); (try simp only [decide_eq_true_eq, decide_eq_false_iff_not, Bool.and_eq_true, Bool.or_eq_false_iff, Bool.not_eq_true'] at hb); first | exact a_load_box (lq rfl) O3 rfl rfl rfl | exact a_load_pt (lq rfl) O3 rfl rfl | exact a_load_ip (lq rfl) O3 rfl (get_map 0 (by omega)) | exact a_load_row (lq rfl) O3 rfl rfl (get_map 0 (by omega))))
          first | (apply sq_g rfl rfl rfl (lq rfl) (lq rfl) rfl; focus (intro hb; simp only [gd, Bool.not_eq_true'] at hb; (try rw [hb]); (try simp only [decide_eq_true_eq, decide_eq_false_iff_not, Bool.and_eq_true, Bool.or_eq_false_iff, Bool.not_eq_true'] at hb); exact a_geq (lq rfl) rfl rfl)) | (apply sq_g2 rfl rfl rfl (lq rfl) (lq rfl) rfl; focus (intro hb; simp only [gd, Bool.and_eq_true, Bool.not_eq_true'] at hb; (try rw [hb.1]); (try rw [hb.2]); (try simp only [decide_eq_true_eq, decide_eq_false_iff_not, Bool.and_eq_true, Bool.or_eq_false_iff, Bool.not_eq_true'] at hb); exact a_geq (lq rfl) rfl rfl))
          first | refine sq_a (ag_plain rfl (a_pick_or (lq rfl) rfl rfl)) ?_ | refine sq_a (ag_plain rfl (a_pick_td (lq rfl) rfl rfl)) ?_ | refine sq_a (ag_plain rfl (a_pick_fd (lq rfl) rfl rfl)) ?_
          refine sq_nil ?_
          refine avc_if rfl ⟨fun hc3 => ?_, fun hc3 => ?_⟩
          ·
            try simp only [Bool.and_eq_true, Bool.or_eq_true, Bool.not_eq_true', Bool.and_eq_false_iff, Bool.or_eq_false_iff, Bool.not_eq_false', decide_eq_true_eq, decide_eq_false_iff_not, Int.not_lt, Int.not_le] at hc3
            refine avc_sq2 ?_
            refine avc_sq ?_
            refine sq_a (ag_plain rfl (a_call (lq rfl) rfl (awake_c))) ?_
            first | refine sq_a (ag_plain rfl (a_assign_d (lq rfl) rfl)) ?_ | refine sq_a (ag_plain rfl (a_assign_row (lq rfl) rfl)) ?_ | refine sq_a (ag_plain rfl (a_assign_ptr (lq rfl) rfl)) ?_
            refine sq_nil ?_
            refine avc_ret ?_
            exact ret_bool rfl rfl
          ·
            try simp only [Bool.and_eq_true, Bool.or_eq_true, Bool.not_eq_true', Bool.and_eq_false_iff, Bool.or_eq_false_iff, Bool.not_eq_false', decide_eq_true_eq, decide_eq_false_iff_not, Int.not_lt, Int.not_le] at hc3
            refine avc_skip ?_
            refine avc_sq ?_
            first | refine sq_a (ag_plain rfl (a_move_d (lq rfl) rfl)) ?_ | refine sq_a (ag_plain rfl (a_move_row (lq rfl) rfl)) ?_ | refine sq_a (ag_plain rfl (a_move_ptr (lq rfl) rfl)) ?_ | refine sq_a (ag_plain rfl (a_move_ip (lq rfl) rfl)) ?_ | refine sq_a (ag_plain rfl (a_move_tup (lq rfl) rfl)) ?_
            refine sq_a (ag_plain rfl (a_add (lq rfl) rfl rfl (w64 (by omega) (by omega)))) ?_
            first | refine sq_a (ag_plain rfl (a_assign_d (lq rfl) rfl)) ?_ | refine sq_a (ag_plain rfl (a_assign_row (lq rfl) rfl)) ?_ | refine sq_a (ag_plain rfl (a_assign_ptr (lq rfl) rfl)) ?_
            refine sq_nil ?_
            first | refine loop_end  (j := k + 1) ?_ ?_ ?_ | refine loop_end  (K := fun _ _ => True) (j := k + 1) ?_ ?_ ?_
            · exact ⟨by omega, in_step hra (by omega)⟩
            · omega
            · refine weak_cov ⟨?_, ?_, ?_, ?_, ?_, trivial⟩ trivial <;> (first | rfl | exact cov_int (by omega) | exact cov_row (by simp [di, flatDV]))
        ·
          try simp only [Bool.and_eq_true, Bool.or_eq_true, Bool.not_eq_true', Bool.and_eq_false_iff, Bool.or_eq_false_iff, Bool.not_eq_false', decide_eq_true_eq, decide_eq_false_iff_not, Int.not_lt, Int.not_le] at hc2
          refine avc_exit ?_
          refine avc_sq2 ?_
          refine avc_sq2 ?_
          refine avc_sq ?_
          refine sq_a (ag_plain rfl (a_assign_d (lq rfl) rfl)) ?_
          refine sq_nil ?_
          refine avc_block ?_
          refine avc_loop (ι := Nat) (fun k2 => ⟨[(0, .d (.ints a)), (1, .d (.ints b)), (5, .d (.v (.string (strOfNums (vbs a))))), (6, .d (.v (.string (strOfNums (vbs b))))), (8, .d (di k2))], []⟩) (fun k2 => k2 ≤ b.length ∧ ∀ j, j < k2 → (0 : Int) ≤ b.getD j 0 ∧ b.getD j 0 ≤ 16777215) (fun k2 => b.length - k2) 0 ?_ ?_ ?_
          · exact ⟨by omega, fun j hj => by omega⟩
          · refine weak_cov ⟨?_, ?_, ?_, ?_, ?_, trivial⟩ trivial <;> (first | rfl | exact cov_int (by omega) | exact cov_row (by simp [di, flatDV]))
          · rintro k2 hp
            obtain ⟨hpb, hrb⟩ := hp
            refine avc_sq2 ?_
            refine avc_sq2 ?_
            refine avc_sq ?_
            first | refine sq_a (ag_plain rfl (a_move_d (lq rfl) rfl)) ?_ | refine sq_a (ag_plain rfl (a_move_row (lq rfl) rfl)) ?_ | refine sq_a (ag_plain rfl (a_move_ptr (lq rfl) rfl)) ?_ | refine sq_a (ag_plain rfl (a_move_ip (lq rfl) rfl)) ?_ | refine sq_a (ag_plain rfl (a_move_tup (lq rfl) rfl)) ?_
            first | refine sq_a (ag_plain rfl (a_move_d (lq rfl) rfl)) ?_ | refine sq_a (ag_plain rfl (a_move_row (lq rfl) rfl)) ?_ | refine sq_a (ag_plain rfl (a_move_ptr (lq rfl) rfl)) ?_ | refine sq_a (ag_plain rfl (a_move_ip (lq rfl) rfl)) ?_ | refine sq_a (ag_plain rfl (a_move_tup (lq rfl) rfl)) ?_
            first | refine sq_a (ag_plain rfl (a_len_d (lq rfl) S22 rfl len_map)) ?_ | refine sq_a (ag_plain rfl (a_len_row (lq rfl) S22 rfl rfl len_map)) ?_ | refine sq_a (ag_plain rfl (a_len_nil (lq rfl) Try.underlying22 rfl)) ?_
            refine sq_a (ag_plain rfl (a_lss (lq rfl) rfl rfl)) ?_
            refine sq_nil ?_
            refine avc_if rfl ⟨fun hc4 => ?_, fun hc4 => ?_⟩
            ·
              try simp only [Bool.and_eq_true, Bool.or_eq_true, Bool.not_eq_true', Bool.and_eq_false_iff, Bool.or_eq_false_iff, Bool.not_eq_false', decide_eq_true_eq, decide_eq_false_iff_not, Int.not_lt, Int.not_le] at hc4
              refine avc_skip ?_
              refine avc_sq2 ?_
              refine avc_block ?_
              refine avc_sq2 ?_
              refine avc_sq ?_
              first | refine sq_a (ag_plain rfl (a_move_d (lq rfl) rfl)) ?_ | refine sq_a (ag_plain rfl (a_move_row (lq rfl) rfl)) ?_ | refine sq_a (ag_plain rfl (a_move_ptr (lq rfl) rfl)) ?_ | refine sq_a (ag_plain rfl (a_move_ip (lq rfl) rfl)) ?_ | refine sq_a (ag_plain rfl (a_move_tup (lq rfl) rfl)) ?_
              first | refine sq_a (ag_plain rfl (a_move_d (lq rfl) rfl)) ?_ | refine sq_a (ag_plain rfl (a_move_row (lq rfl) rfl)) ?_ | refine sq_a (ag_plain rfl (a_move_ptr (lq rfl) rfl)) ?_ | refine sq_a (ag_plain rfl (a_move_ip (lq rfl) rfl)) ?_ | refine sq_a (ag_plain rfl (a_move_tup (lq rfl) rfl)) ?_
              first | refine sq_a (ag_plain rfl (a_index_d (lq rfl) S22 rfl rfl rfl len_map (by omega))) ?_ | refine sq_a (ag_plain rfl (a_index_row (lq rfl) S22 rfl rfl rfl rfl len_map (by omega))) ?_ | refine sq_a (ag_plain rfl (a_index_d (lq rfl) S22 rfl rfl (ix_add1 _) len_map (by omega))) ?_ | refine sq_a (ag_plain rfl (a_index_row (lq rfl) S22 rfl rfl rfl (ix_add1 _) len_map (by omega))) ?_ | refine sq_a (ag_plain rfl (a_index_d (lq rfl) S22 rfl rfl (ix_nat (by omega)) len_map (by omega))) ?_ | refine sq_a (ag_plain rfl (a_index_row (lq rfl) S22 rfl rfl rfl (ix_nat (by omega)) len_map (by omega))) ?_
              first | refine sq_a (ag_plain rfl (a_load_box (lq rfl) O3 rfl rfl rfl)) ?_ | refine sq_a (ag_plain rfl (a_load_pt (lq rfl) O3 rfl rfl)) ?_ | refine sq_a (ag_plain rfl (a_load_ip (lq rfl) O3 rfl (get_map 0 (by omega)))) ?_ | refine sq_a (ag_plain rfl (a_load_row (lq rfl) O3 rfl rfl (get_map 0 (by omega)))) ?_
              refine sq_a (ag_plain rfl (a_lss (lq rfl) rfl rfl)) ?_
              first | refine sq_a (ag_plain rfl (a_move_d (lq rfl) rfl)) ?_ | refine sq_a (ag_plain rfl (a_move_row (lq rfl) rfl)) ?_ | refine sq_a (ag_plain rfl (a_move_ptr (lq rfl) rfl)) ?_ | refine sq_a (ag_plain rfl (a_move_ip (lq rfl) rfl)) ?_ | refine sq_a (ag_plain rfl (a_move_tup (lq rfl) rfl)) ?_
              first | (apply sq_g rfl rfl rfl (lq rfl) (lq rfl) rfl; focus (intro hb; simp only [gd, Bool.not_eq_true'] at hb; (try rw [hb]); (try simp only [decide_eq_true_eq, decide_eq_false_iff_not, Bool.and_eq_true, Bool.or_eq_false_iff, Bool.not_eq_true'] at hb); first | exact a_move_d (lq rfl) rfl | exact a_move_row (lq rfl) rfl | exact a_move_ptr (lq rfl) rfl | exact a_move_ip (lq rfl) rfl | exact a_move_tup (lq rfl) rfl)) | (apply sq_g2 rfl rfl rfl (lq rfl) (lq rfl) rfl; focus (intro hb; simp only [gd, Bool.and_eq_true, Bool.not_eq_true'] at hb; (try rw [hb.1]); (try rw [hb.2]); (try simp only [decide_eq_true_eq, decide_eq_false_iff_not, Bool.and_eq_true, Bool.or_eq_false_iff, Bool.not_eq_true'] at hb); first | exact a_move_d (lq rfl) rfl | exact a_move_row (lq rfl) rfl | exact a_move_ptr (lq rfl) rfl | exact a_move_ip (lq rfl) rfl | exact a_move_tup (lq rfl) rfl))
              first | (apply sq_g rfl rfl rfl (lq rfl) (lq rfl) rfl; focus (intro hb; simp only [gd, Bool.not_eq_true'] at hb; (try rw [hb]); (try simp only [decide_eq_true_eq, decide_eq_false_iff_not, Bool.and_eq_true, Bool.or_eq_false_iff, Bool.not_eq_true'] at hb); first | exact a_move_d (lq rfl) rfl | exact a_move_row (lq rfl) rfl | exact a_move_ptr (lq rfl) rfl | exact a_move_ip (lq rfl) rfl | exact a_move_tup (lq rfl) rfl)) | (apply sq_g2 rfl rfl rfl (lq rfl) (lq rfl) rfl; focus (intro hb; simp only [gd, Bool.and_eq_true, Bool.not_eq_true'] at hb; (try rw [hb.1]); (try rw [hb.2]); (try simp only [decide_eq_true_eq, decide_eq_false_iff_not, Bool.and_eq_true, Bool.or_eq_false_iff, Bool.not_eq_true'] at hb); first | exact a_move_d (lq rfl) rfl | exact a_move_row (lq rfl) rfl | exact a_move_ptr (lq rfl) rfl | exact a_move_ip (lq rfl) rfl | exact a_move_tup (lq rfl) rfl))
              first | (apply sq_g rfl rfl rfl (lq rfl) (lq rfl) rfl; focus (intro hb; simp only [gd, Bool.not_eq_true'] at hb; (try rw [hb]); (try simp only [decide_eq_true_eq, decide_eq_false_iff_not, Bool.and_eq_true, Bool.or_eq_false_iff, Bool.not_eq_true'] at hb); first | exact a_index_d (lq rfl) S22 rfl rfl rfl len_map (by omega) | exact a_index_row (lq rfl) S22 rfl rfl rfl rfl len_map (by omega) | exact a_index_d (lq rfl) S22 rfl rfl (ix_add1 _) len_map (by omega) | exact a_index_row (lq rfl) S22 rfl rfl rfl (ix_add1 _) len_map (by omega) | exact a_index_d (lq rfl) S22 rfl rfl (ix_nat (by omega)) len_map (by omega) | exact a_index_row (lq rfl) S22 rfl rfl rfl (ix_nat (by omega)) len_map (by omega))) | (apply sq_g2 rfl rfl rfl (lq rfl) (lq rfl) rfl; focus (intro hb; simp only [gd, Bool.and_eq_true, Bool.not_eq_true'] at hb; (try rw [hb.1]); (try rw [hb.2]); (try simp only [decide_eq_true_eq, decide_eq_false_iff_not, Bool.and_eq_true, Bool.or_eq_false_iff, Bool.not_eq_true'] at hb); first | exact a_index_d (lq rfl) S22 rfl rfl rfl len_map (by omega) | exact a_index_row (lq rfl) S22 rfl rfl rfl rfl len_map (by omega) | exact a_index_d (lq rfl) S22 rfl rfl (ix_add1 _) len_map (by omega) | exact a_index_row (lq rfl) S22 rfl rfl rfl (ix_add1 _) len_map (by omega) | exact a_index_d (lq rfl) S22 rfl rfl (ix_nat (by omega)) len_map (by omega) | exact a_index_row (lq rfl) S22 rfl rfl rfl (ix_nat (by omega)) len_map (by omega)))
              first | (apply sq_g rfl rfl rfl (lq rfl) (lq rfl) rfl; focus (intro hb; simp only [gd, Bool.not_eq_true'] at hb; (try rw [hb]); (try simp only [decide_eq_true_eq, decide_eq_false_iff_not, Bool.and_eq_true, Bool.or_eq_false_iff, Bool.not_eq_true'] at hb); first | exact a_load_box (lq rfl) O3 rfl rfl rfl | exact a_load_pt (lq rfl) O3 rfl rfl | exact a_load_ip (lq rfl) O3 rfl (get_map 0 (by omega)) | exact a_load_row (lq rfl) O3 rfl rfl (get_map 0 (by omega)))) | (apply sq_g2 rfl rfl rfl (lq rfl) (lq rfl) rfl; focus (intro hb; simp only [gd, Bool.and_eq_true, Bool.not_eq_true'] at hb; (try rw [hb.1]); (try rw [hb.2]); (try simp only [decide_eq_true_eq, decide_eq_false_iff_not, Bool.and_eq_true, Bool.or_eq_false_iff, Bool.not_eq_true'] at hb); first | exact a_load_box (lq rfl) O3 rfl rfl rfl | exact a_load_pt (lq rfl) O3 rfl rfl | exact a_load_ip (lq rfl) O3 rfl (get_map 0 (by omega)) | exact a_load_row (lq rfl) O3 rfl rfl (get_map 0 (by omega))))
              first | (apply sq_g rfl rfl rfl (lq rfl) (lq rfl) rfl; focus (intro hb; simp only [gd, Bool.not_eq_true'] at hb; (try rw [hb]); (try simp only [decide_eq_true_eq, decide_eq_false_iff_not, Bool.and_eq_true, Bool.or_eq_false_iff, Bool.not_eq_true'] at hb); exact a_geq (lq rfl) rfl rfl)) | (apply sq_g2 rfl rfl rfl (lq rfl) (lq rfl) rfl; focus (intro hb; simp only [gd, Bool.and_eq_true, Bool.not_eq_true'] at hb; (try rw [hb.1]); (try rw [hb.2]); (try simp only [decide_eq_true_eq, decide_eq_false_iff_not, Bool.and_eq_true, Bool.or_eq_false_iff, Bool.not_eq_true'] at hb); exact a_geq (lq rfl) rfl rfl))
              first | refine sq_a (ag_plain rfl (a_pick_or (lq rfl) rfl rfl)) ?_ | refine sq_a (ag_plain rfl (a_pick_td (lq rfl) rfl rfl)) ?_ | refine sq_a (ag_plain rfl (a_pick_fd (lq rfl) rfl rfl)) ?_
              refine sq_nil ?_
              refine avc_if rfl ⟨fun hc5 => ?_, fun hc5 => ?_⟩
              ·
                try simp only [Bool.and_eq_true, Bool.or_eq_true, Bool.not_eq_true', Bool.and_eq_false_iff, Bool.or_eq_false_iff, Bool.not_eq_false', decide_eq_true_eq, decide_eq_false_iff_not, Int.not_lt, Int.not_le] at hc5
                refine avc_sq2 ?_
                refine avc_sq ?_
                refine sq_a (ag_plain rfl (a_call (lq rfl) rfl (awake_c))) ?_
                first | refine sq_a (ag_plain rfl (a_assign_d (lq rfl) rfl)) ?_ | refine sq_a (ag_plain rfl (a_assign_row (lq rfl) rfl)) ?_ | refine sq_a (ag_plain rfl (a_assign_ptr (lq rfl) rfl)) ?_
                refine sq_nil ?_
                refine avc_ret ?_
                exact ret_bool rfl rfl
              ·
                try simp only [Bool.and_eq_true, Bool.or_eq_true, Bool.not_eq_true', Bool.and_eq_false_iff, Bool.or_eq_false_iff, Bool.not_eq_false', decide_eq_true_eq, decide_eq_false_iff_not, Int.not_lt, Int.not_le] at hc5
                refine avc_skip ?_
                refine avc_sq ?_
                first | refine sq_a (ag_plain rfl (a_move_d (lq rfl) rfl)) ?_ | refine sq_a (ag_plain rfl (a_move_row (lq rfl) rfl)) ?_ | refine sq_a (ag_plain rfl (a_move_ptr (lq rfl) rfl)) ?_ | refine sq_a (ag_plain rfl (a_move_ip (lq rfl) rfl)) ?_ | refine sq_a (ag_plain rfl (a_move_tup (lq rfl) rfl)) ?_
                refine sq_a (ag_plain rfl (a_add (lq rfl) rfl rfl (w64 (by omega) (by omega)))) ?_
                first | refine sq_a (ag_plain rfl (a_assign_d (lq rfl) rfl)) ?_ | refine sq_a (ag_plain rfl (a_assign_row (lq rfl) rfl)) ?_ | refine sq_a (ag_plain rfl (a_assign_ptr (lq rfl) rfl)) ?_
                refine sq_nil ?_
                first | refine loop_end  (j := k2 + 1) ?_ ?_ ?_ | refine loop_end  (K := fun _ _ => True) (j := k2 + 1) ?_ ?_ ?_
                · exact ⟨by omega, in_step hrb (by omega)⟩
                · omega
                · refine weak_cov ⟨?_, ?_, ?_, ?_, ?_, trivial⟩ trivial <;> (first | rfl | exact cov_int (by omega) | exact cov_row (by simp [di, flatDV]))
            ·
              try simp only [Bool.and_eq_true, Bool.or_eq_true, Bool.not_eq_true', Bool.and_eq_false_iff, Bool.or_eq_false_iff, Bool.not_eq_false', decide_eq_true_eq, decide_eq_false_iff_not, Int.not_lt, Int.not_le] at hc4
              refine avc_exit ?_
              refine avc_sq2 ?_
              refine avc_sq ?_
              have pa : ∀ v ∈ a, 0 ≤ v ∧ v < 16777216 := fun v hv => by have := all_in (by omega) hra v hv; omega
              have pb : ∀ v ∈ b, 0 ≤ v ∧ v < 16777216 := fun v hv => by have := all_in (by omega) hrb v hv; omega
              first | refine sq_a (ag_plain rfl (a_move_d (lq rfl) rfl)) ?_ | refine sq_a (ag_plain rfl (a_move_row (lq rfl) rfl)) ?_ | refine sq_a (ag_plain rfl (a_move_ptr (lq rfl) rfl)) ?_ | refine sq_a (ag_plain rfl (a_move_ip (lq rfl) rfl)) ?_ | refine sq_a (ag_plain rfl (a_move_tup (lq rfl) rfl)) ?_
              first | refine sq_a (ag_plain rfl (a_move_d (lq rfl) rfl)) ?_ | refine sq_a (ag_plain rfl (a_move_row (lq rfl) rfl)) ?_ | refine sq_a (ag_plain rfl (a_move_ptr (lq rfl) rfl)) ?_ | refine sq_a (ag_plain rfl (a_move_ip (lq rfl) rfl)) ?_ | refine sq_a (ag_plain rfl (a_move_tup (lq rfl) rfl)) ?_
              refine sq_a (ag_plain rfl (a_call (lq rfl) rfl (refCompare_c _ _ (by omega) (by omega)))) ?_
              first | refine sq_a (ag_plain rfl (a_assign_d (lq rfl) rfl)) ?_ | refine sq_a (ag_plain rfl (a_assign_row (lq rfl) rfl)) ?_ | refine sq_a (ag_plain rfl (a_assign_ptr (lq rfl) rfl)) ?_
              refine sq_nil ?_
              refine avc_sq2 ?_
              refine avc_sq ?_
              first | refine sq_a (ag_plain rfl (a_move_d (lq rfl) rfl)) ?_ | refine sq_a (ag_plain rfl (a_move_row (lq rfl) rfl)) ?_ | refine sq_a (ag_plain rfl (a_move_ptr (lq rfl) rfl)) ?_ | refine sq_a (ag_plain rfl (a_move_ip (lq rfl) rfl)) ?_ | refine sq_a (ag_plain rfl (a_move_tup (lq rfl) rfl)) ?_
              first | refine sq_a (ag_plain rfl (a_move_d (lq rfl) rfl)) ?_ | refine sq_a (ag_plain rfl (a_move_row (lq rfl) rfl)) ?_ | refine sq_a (ag_plain rfl (a_move_ptr (lq rfl) rfl)) ?_ | refine sq_a (ag_plain rfl (a_move_ip (lq rfl) rfl)) ?_ | refine sq_a (ag_plain rfl (a_move_tup (lq rfl) rfl)) ?_
              refine sq_a (ag_plain rfl ((a_slss (lq rfl) rfl rfl).bool (b := decide (cmpL a b < 0)) (by rw [str_less (fun v hv => vbs_in hv) (fun v hv => vbs_in hv), vbs_cmp a b pa pb]))) ?_
              first | refine sq_a (ag_plain rfl (a_move_d (lq rfl) rfl)) ?_ | refine sq_a (ag_plain rfl (a_move_row (lq rfl) rfl)) ?_ | refine sq_a (ag_plain rfl (a_move_ptr (lq rfl) rfl)) ?_ | refine sq_a (ag_plain rfl (a_move_ip (lq rfl) rfl)) ?_ | refine sq_a (ag_plain rfl (a_move_tup (lq rfl) rfl)) ?_
              refine sq_a (ag_plain rfl (a_lss (lq rfl) rfl rfl)) ?_
              refine sq_a (ag_plain rfl ((a_beql (lq rfl) Try.underlying4 rfl rfl).bool (b := true) (by simp))) ?_
              first | refine sq_a (ag_plain rfl (a_move_d (lq rfl) rfl)) ?_ | refine sq_a (ag_plain rfl (a_move_row (lq rfl) rfl)) ?_ | refine sq_a (ag_plain rfl (a_move_ptr (lq rfl) rfl)) ?_ | refine sq_a (ag_plain rfl (a_move_ip (lq rfl) rfl)) ?_ | refine sq_a (ag_plain rfl (a_move_tup (lq rfl) rfl)) ?_
              first | (apply sq_g rfl rfl rfl (lq rfl) (lq rfl) rfl; focus (intro hb; simp only [gd, Bool.not_eq_true'] at hb; (try rw [hb]); (try simp only [decide_eq_true_eq, decide_eq_false_iff_not, Bool.and_eq_true, Bool.or_eq_false_iff, Bool.not_eq_true'] at hb); first | exact a_move_d (lq rfl) rfl | exact a_move_row (lq rfl) rfl | exact a_move_ptr (lq rfl) rfl | exact a_move_ip (lq rfl) rfl | exact a_move_tup (lq rfl) rfl)) | (apply sq_g2 rfl rfl rfl (lq rfl) (lq rfl) rfl; focus (intro hb; simp only [gd, Bool.and_eq_true, Bool.not_eq_true'] at hb; (try rw [hb.1]); (try rw [hb.2]); (try simp only [decide_eq_true_eq, decide_eq_false_iff_not, Bool.and_eq_true, Bool.or_eq_false_iff, Bool.not_eq_true'] at hb); first | exact a_move_d (lq rfl) rfl | exact a_move_row (lq rfl) rfl | exact a_move_ptr (lq rfl) rfl | exact a_move_ip (lq rfl) rfl | exact a_move_tup (lq rfl) rfl))
              first | (apply sq_g rfl rfl rfl (lq rfl) (lq rfl) rfl; focus (intro hb; simp only [gd, Bool.not_eq_true'] at hb; (try rw [hb]); (try simp only [decide_eq_true_eq, decide_eq_false_iff_not, Bool.and_eq_true, Bool.or_eq_false_iff, Bool.not_eq_true'] at hb); first | exact a_move_d (lq rfl) rfl | exact a_move_row (lq rfl) rfl | exact a_move_ptr (lq rfl) rfl | exact a_move_ip (lq rfl) rfl | exact a_move_tup (lq rfl) rfl)) | (apply sq_g2 rfl rfl rfl (lq rfl) (lq rfl) rfl; focus (intro hb; simp only [gd, Bool.and_eq_true, Bool.not_eq_true'] at hb; (try rw [hb.1]); (try rw [hb.2]); (try simp only [decide_eq_true_eq, decide_eq_false_iff_not, Bool.and_eq_true, Bool.or_eq_false_iff, Bool.not_eq_true'] at hb); first | exact a_move_d (lq rfl) rfl | exact a_move_row (lq rfl) rfl | exact a_move_ptr (lq rfl) rfl | exact a_move_ip (lq rfl) rfl | exact a_move_tup (lq rfl) rfl))
              first | (apply sq_g rfl rfl rfl (lq rfl) (lq rfl) rfl; focus (intro hb; simp only [gd, Bool.not_eq_true'] at hb; (try rw [hb]); (try simp only [decide_eq_true_eq, decide_eq_false_iff_not, Bool.and_eq_true, Bool.or_eq_false_iff, Bool.not_eq_true'] at hb); exact (a_seql (lq rfl) rfl rfl).bool (b := decide (cmpL a b = 0)) (by rw [str_eq (fun v hv => vbs_in hv) (fun v hv => vbs_in hv), vbs_cmp a b pa pb]))) | (apply sq_g2 rfl rfl rfl (lq rfl) (lq rfl) rfl; focus (intro hb; simp only [gd, Bool.and_eq_true, Bool.not_eq_true'] at hb; (try rw [hb.1]); (try rw [hb.2]); (try simp only [decide_eq_true_eq, decide_eq_false_iff_not, Bool.and_eq_true, Bool.or_eq_false_iff, Bool.not_eq_true'] at hb); exact (a_seql (lq rfl) rfl rfl).bool (b := decide (cmpL a b = 0)) (by rw [str_eq (fun v hv => vbs_in hv) (fun v hv => vbs_in hv), vbs_cmp a b pa pb])))
              first | (apply sq_g rfl rfl rfl (lq rfl) (lq rfl) rfl; focus (intro hb; simp only [gd, Bool.not_eq_true'] at hb; (try rw [hb]); (try simp only [decide_eq_true_eq, decide_eq_false_iff_not, Bool.and_eq_true, Bool.or_eq_false_iff, Bool.not_eq_true'] at hb); first | exact a_move_d (lq rfl) rfl | exact a_move_row (lq rfl) rfl | exact a_move_ptr (lq rfl) rfl | exact a_move_ip (lq rfl) rfl | exact a_move_tup (lq rfl) rfl)) | (apply sq_g2 rfl rfl rfl (lq rfl) (lq rfl) rfl; focus (intro hb; simp only [gd, Bool.and_eq_true, Bool.not_eq_true'] at hb; (try rw [hb.1]); (try rw [hb.2]); (try simp only [decide_eq_true_eq, decide_eq_false_iff_not, Bool.and_eq_true, Bool.or_eq_false_iff, Bool.not_eq_true'] at hb); first | exact a_move_d (lq rfl) rfl | exact a_move_row (lq rfl) rfl | exact a_move_ptr (lq rfl) rfl | exact a_move_ip (lq rfl) rfl | exact a_move_tup (lq rfl) rfl))
              first | (apply sq_g rfl rfl rfl (lq rfl) (lq rfl) rfl; focus (intro hb; simp only [gd, Bool.not_eq_true'] at hb; (try rw [hb]); (try simp only [decide_eq_true_eq, decide_eq_false_iff_not, Bool.and_eq_true, Bool.or_eq_false_iff, Bool.not_eq_true'] at hb); exact a_eql (lq rfl) rfl rfl)) | (apply sq_g2 rfl rfl rfl (lq rfl) (lq rfl) rfl; focus (intro hb; simp only [gd, Bool.and_eq_true, Bool.not_eq_true'] at hb; (try rw [hb.1]); (try rw [hb.2]); (try simp only [decide_eq_true_eq, decide_eq_false_iff_not, Bool.and_eq_true, Bool.or_eq_false_iff, Bool.not_eq_true'] at hb); exact a_eql (lq rfl) rfl rfl))
              first | (apply sq_g rfl rfl rfl (lq rfl) (lq rfl) rfl; focus (intro hb; simp only [gd, Bool.not_eq_true'] at hb; (try rw [hb]); (try simp only [decide_eq_true_eq, decide_eq_false_iff_not, Bool.and_eq_true, Bool.or_eq_false_iff, Bool.not_eq_true'] at hb); exact (a_beql (lq rfl) Try.underlying4 rfl rfl).bool (b := true) (by simp))) | (apply sq_g2 rfl rfl rfl (lq rfl) (lq rfl) rfl; focus (intro hb; simp only [gd, Bool.and_eq_true, Bool.not_eq_true'] at hb; (try rw [hb.1]); (try rw [hb.2]); (try simp only [decide_eq_true_eq, decide_eq_false_iff_not, Bool.and_eq_true, Bool.or_eq_false_iff, Bool.not_eq_true'] at hb); exact (a_beql (lq rfl) Try.underlying4 rfl rfl).bool (b := true) (by simp)))
              first | refine sq_a (ag_plain rfl (a_pick_and (lq rfl) rfl rfl)) ?_ | refine sq_a (ag_plain rfl (a_pick_td (lq rfl) rfl rfl)) ?_ | refine sq_a (ag_plain rfl (a_pick_fd (lq rfl) rfl rfl)) ?_
              first | refine sq_a (ag_plain rfl (a_move_d (lq rfl) rfl)) ?_ | refine sq_a (ag_plain rfl (a_move_row (lq rfl) rfl)) ?_ | refine sq_a (ag_plain rfl (a_move_ptr (lq rfl) rfl)) ?_ | refine sq_a (ag_plain rfl (a_move_ip (lq rfl) rfl)) ?_ | refine sq_a (ag_plain rfl (a_move_tup (lq rfl) rfl)) ?_
              first | (apply sq_g rfl rfl rfl (lq rfl) (lq rfl) rfl; focus (intro hb; simp only [gd, Bool.not_eq_true'] at hb; (try rw [hb]); (try simp only [decide_eq_true_eq, decide_eq_false_iff_not, Bool.and_eq_true, Bool.or_eq_false_iff, Bool.not_eq_true'] at hb); exact a_call (lq rfl) rfl (awake_c))) | (apply sq_g2 rfl rfl rfl (lq rfl) (lq rfl) rfl; focus (intro hb; simp only [gd, Bool.and_eq_true, Bool.not_eq_true'] at hb; (try rw [hb.1]); (try rw [hb.2]); (try simp only [decide_eq_true_eq, decide_eq_false_iff_not, Bool.and_eq_true, Bool.or_eq_false_iff, Bool.not_eq_true'] at hb); exact a_call (lq rfl) rfl (awake_c)))
              first | refine sq_a (ag_plain rfl (a_pick_and (lq rfl) rfl rfl)) ?_ | refine sq_a (ag_plain rfl (a_pick_td (lq rfl) rfl rfl)) ?_ | refine sq_a (ag_plain rfl (a_pick_fd (lq rfl) rfl rfl)) ?_
              first | refine sq_a (ag_plain rfl (a_assign_d (lq rfl) rfl)) ?_ | refine sq_a (ag_plain rfl (a_assign_row (lq rfl) rfl)) ?_ | refine sq_a (ag_plain rfl (a_assign_ptr (lq rfl) rfl)) ?_
              refine sq_nil ?_
              refine avc_ret ?_
              exact ret_bool rfl rfl

theorem packs_c (l : List Int) (c : Int)  : Contract Try.prog 3 [.ints l, di c] [db true] := by
  have hpk := pk_le (common c) (plain l)
  have hpl : (plain l).length = l.length := by simp [plain]
  refine contract_of Try.func3 (by kernel_rfl) rfl (lq rfl) (lq rfl) fun w0 I0 => ?_
  refine avc_sq2 ?_
  refine avc_sq ?_
  refine sq_a (ag_plain rfl (a_assign_d (lq rfl) rfl)) ?_
  refine sq_nil ?_
  refine avc_sq2 ?_
  refine avc_sq2 ?_
  refine avc_sq ?_
  first | refine sq_a (ag_plain rfl (a_move_d (lq rfl) rfl)) ?_ | refine sq_a (ag_plain rfl (a_move_row (lq rfl) rfl)) ?_ | refine sq_a (ag_plain rfl (a_move_ptr (lq rfl) rfl)) ?_ | refine sq_a (ag_plain rfl (a_move_ip (lq rfl) rfl)) ?_ | refine sq_a (ag_plain rfl (a_move_tup (lq rfl) rfl)) ?_
  first | refine sq_a (ag_plain rfl (a_len_d (lq rfl) S22 rfl len_map)) ?_ | refine sq_a (ag_plain rfl (a_len_row (lq rfl) S22 rfl rfl len_map)) ?_ | refine sq_a (ag_plain rfl (a_len_nil (lq rfl) Try.underlying22 rfl)) ?_
  refine sq_a (ag_plain rfl (a_gtr (lq rfl) rfl rfl)) ?_
  refine sq_nil ?_
  refine avc_if rfl ⟨fun hc0 => ?_, fun hc0 => ?_⟩
  ·
    try simp only [Bool.and_eq_true, Bool.or_eq_true, Bool.not_eq_true', Bool.and_eq_false_iff, Bool.or_eq_false_iff, Bool.not_eq_false', decide_eq_true_eq, decide_eq_false_iff_not, Int.not_lt, Int.not_le] at hc0
    refine avc_sq2 ?_
    refine avc_sq ?_
    refine sq_a (ag_plain rfl (a_call (lq rfl) rfl (awake_c))) ?_
    first | refine sq_a (ag_plain rfl (a_assign_d (lq rfl) rfl)) ?_ | refine sq_a (ag_plain rfl (a_assign_row (lq rfl) rfl)) ?_ | refine sq_a (ag_plain rfl (a_assign_ptr (lq rfl) rfl)) ?_
    refine sq_nil ?_
    refine avc_ret ?_
    exact ret_bool rfl rfl
  ·
    try simp only [Bool.and_eq_true, Bool.or_eq_true, Bool.not_eq_true', Bool.and_eq_false_iff, Bool.or_eq_false_iff, Bool.not_eq_false', decide_eq_true_eq, decide_eq_false_iff_not, Int.not_lt, Int.not_le] at hc0
    refine avc_skip ?_
    refine avc_sq2 ?_
    refine avc_sq ?_
    first | refine sq_a (ag_plain rfl (a_move_d (lq rfl) rfl)) ?_ | refine sq_a (ag_plain rfl (a_move_row (lq rfl) rfl)) ?_ | refine sq_a (ag_plain rfl (a_move_ptr (lq rfl) rfl)) ?_ | refine sq_a (ag_plain rfl (a_move_ip (lq rfl) rfl)) ?_ | refine sq_a (ag_plain rfl (a_move_tup (lq rfl) rfl)) ?_
    first | refine sq_a (ag_plain rfl (a_move_d (lq rfl) rfl)) ?_ | refine sq_a (ag_plain rfl (a_move_row (lq rfl) rfl)) ?_ | refine sq_a (ag_plain rfl (a_move_ptr (lq rfl) rfl)) ?_ | refine sq_a (ag_plain rfl (a_move_ip (lq rfl) rfl)) ?_ | refine sq_a (ag_plain rfl (a_move_tup (lq rfl) rfl)) ?_
    refine sq_a (ag_plain rfl (a_call (lq rfl) rfl (pack_c _ _ (by omega)))) ?_
    first | refine sq_a (ag_plain rfl (a_move_d (lq rfl) rfl)) ?_ | refine sq_a (ag_plain rfl (a_move_row (lq rfl) rfl)) ?_ | refine sq_a (ag_plain rfl (a_move_ptr (lq rfl) rfl)) ?_ | refine sq_a (ag_plain rfl (a_move_ip (lq rfl) rfl)) ?_ | refine sq_a (ag_plain rfl (a_move_tup (lq rfl) rfl)) ?_
    first | refine sq_a (ag_plain rfl (a_move_d (lq rfl) rfl)) ?_ | refine sq_a (ag_plain rfl (a_move_row (lq rfl) rfl)) ?_ | refine sq_a (ag_plain rfl (a_move_ptr (lq rfl) rfl)) ?_ | refine sq_a (ag_plain rfl (a_move_ip (lq rfl) rfl)) ?_ | refine sq_a (ag_plain rfl (a_move_tup (lq rfl) rfl)) ?_
    refine sq_a (ag_plain rfl (a_call (lq rfl) rfl (refPack_c _ _ (by omega)))) ?_
    refine sq_a (ag_plain rfl (a_call (lq rfl) rfl (refSame_c _ (by omega)))) ?_
    first | refine sq_a (ag_plain rfl (a_move_d (lq rfl) rfl)) ?_ | refine sq_a (ag_plain rfl (a_move_row (lq rfl) rfl)) ?_ | refine sq_a (ag_plain rfl (a_move_ptr (lq rfl) rfl)) ?_ | refine sq_a (ag_plain rfl (a_move_ip (lq rfl) rfl)) ?_ | refine sq_a (ag_plain rfl (a_move_tup (lq rfl) rfl)) ?_
    first | (apply sq_g rfl rfl rfl (lq rfl) (lq rfl) rfl; focus (intro hb; simp only [gd, Bool.not_eq_true'] at hb; (try rw [hb]); (try simp only [decide_eq_true_eq, decide_eq_false_iff_not, Bool.and_eq_true, Bool.or_eq_false_iff, Bool.not_eq_true'] at hb); first | exact a_move_d (lq rfl) rfl | exact a_move_row (lq rfl) rfl | exact a_move_ptr (lq rfl) rfl | exact a_move_ip (lq rfl) rfl | exact a_move_tup (lq rfl) rfl)) | (apply sq_g2 rfl rfl rfl (lq rfl) (lq rfl) rfl; focus (intro hb; simp only [gd, Bool.and_eq_true, Bool.not_eq_true'] at hb; (try rw [hb.1]); (try rw [hb.2]); (try simp only [decide_eq_true_eq, decide_eq_false_iff_not, Bool.and_eq_true, Bool.or_eq_false_iff, Bool.not_eq_true'] at hb); first | exact a_move_d (lq rfl) rfl | exact a_move_row (lq rfl) rfl | exact a_move_ptr (lq rfl) rfl | exact a_move_ip (lq rfl) rfl | exact a_move_tup (lq rfl) rfl))
    first | (apply sq_g rfl rfl rfl (lq rfl) (lq rfl) rfl; focus (intro hb; simp only [gd, Bool.not_eq_true'] at hb; (try rw [hb]); (try simp only [decide_eq_true_eq, decide_eq_false_iff_not, Bool.and_eq_true, Bool.or_eq_false_iff, Bool.not_eq_true'] at hb); first | exact a_move_d (lq rfl) rfl | exact a_move_row (lq rfl) rfl | exact a_move_ptr (lq rfl) rfl | exact a_move_ip (lq rfl) rfl | exact a_move_tup (lq rfl) rfl)) | (apply sq_g2 rfl rfl rfl (lq rfl) (lq rfl) rfl; focus (intro hb; simp only [gd, Bool.and_eq_true, Bool.not_eq_true'] at hb; (try rw [hb.1]); (try rw [hb.2]); (try simp only [decide_eq_true_eq, decide_eq_false_iff_not, Bool.and_eq_true, Bool.or_eq_false_iff, Bool.not_eq_true'] at hb); first | exact a_move_d (lq rfl) rfl | exact a_move_row (lq rfl) rfl | exact a_move_ptr (lq rfl) rfl | exact a_move_ip (lq rfl) rfl | exact a_move_tup (lq rfl) rfl))
    first | (apply sq_g rfl rfl rfl (lq rfl) (lq rfl) rfl; focus (intro hb; simp only [gd, Bool.not_eq_true'] at hb; (try rw [hb]); (try simp only [decide_eq_true_eq, decide_eq_false_iff_not, Bool.and_eq_true, Bool.or_eq_false_iff, Bool.not_eq_true'] at hb); exact a_call (lq rfl) rfl (bytes_c _ _ (by omega)))) | (apply sq_g2 rfl rfl rfl (lq rfl) (lq rfl) rfl; focus (intro hb; simp only [gd, Bool.and_eq_true, Bool.not_eq_true'] at hb; (try rw [hb.1]); (try rw [hb.2]); (try simp only [decide_eq_true_eq, decide_eq_false_iff_not, Bool.and_eq_true, Bool.or_eq_false_iff, Bool.not_eq_true'] at hb); exact a_call (lq rfl) rfl (bytes_c _ _ (by omega))))
    first | (apply sq_g rfl rfl rfl (lq rfl) (lq rfl) rfl; focus (intro hb; simp only [gd, Bool.not_eq_true'] at hb; (try rw [hb]); (try simp only [decide_eq_true_eq, decide_eq_false_iff_not, Bool.and_eq_true, Bool.or_eq_false_iff, Bool.not_eq_true'] at hb); first | exact a_move_d (lq rfl) rfl | exact a_move_row (lq rfl) rfl | exact a_move_ptr (lq rfl) rfl | exact a_move_ip (lq rfl) rfl | exact a_move_tup (lq rfl) rfl)) | (apply sq_g2 rfl rfl rfl (lq rfl) (lq rfl) rfl; focus (intro hb; simp only [gd, Bool.and_eq_true, Bool.not_eq_true'] at hb; (try rw [hb.1]); (try rw [hb.2]); (try simp only [decide_eq_true_eq, decide_eq_false_iff_not, Bool.and_eq_true, Bool.or_eq_false_iff, Bool.not_eq_true'] at hb); first | exact a_move_d (lq rfl) rfl | exact a_move_row (lq rfl) rfl | exact a_move_ptr (lq rfl) rfl | exact a_move_ip (lq rfl) rfl | exact a_move_tup (lq rfl) rfl))
    first | (apply sq_g rfl rfl rfl (lq rfl) (lq rfl) rfl; focus (intro hb; simp only [gd, Bool.not_eq_true'] at hb; (try rw [hb]); (try simp only [decide_eq_true_eq, decide_eq_false_iff_not, Bool.and_eq_true, Bool.or_eq_false_iff, Bool.not_eq_true'] at hb); first | exact a_move_d (lq rfl) rfl | exact a_move_row (lq rfl) rfl | exact a_move_ptr (lq rfl) rfl | exact a_move_ip (lq rfl) rfl | exact a_move_tup (lq rfl) rfl)) | (apply sq_g2 rfl rfl rfl (lq rfl) (lq rfl) rfl; focus (intro hb; simp only [gd, Bool.and_eq_true, Bool.not_eq_true'] at hb; (try rw [hb.1]); (try rw [hb.2]); (try simp only [decide_eq_true_eq, decide_eq_false_iff_not, Bool.and_eq_true, Bool.or_eq_false_iff, Bool.not_eq_true'] at hb); first | exact a_move_d (lq rfl) rfl | exact a_move_row (lq rfl) rfl | exact a_move_ptr (lq rfl) rfl | exact a_move_ip (lq rfl) rfl | exact a_move_tup (lq rfl) rfl))
    first | (apply sq_g rfl rfl rfl (lq rfl) (lq rfl) rfl; focus (intro hb; simp only [gd, Bool.not_eq_true'] at hb; (try rw [hb]); (try simp only [decide_eq_true_eq, decide_eq_false_iff_not, Bool.and_eq_true, Bool.or_eq_false_iff, Bool.not_eq_true'] at hb); exact a_call (lq rfl) rfl (refBytes_c _ _ (by omega)))) | (apply sq_g2 rfl rfl rfl (lq rfl) (lq rfl) rfl; focus (intro hb; simp only [gd, Bool.and_eq_true, Bool.not_eq_true'] at hb; (try rw [hb.1]); (try rw [hb.2]); (try simp only [decide_eq_true_eq, decide_eq_false_iff_not, Bool.and_eq_true, Bool.or_eq_false_iff, Bool.not_eq_true'] at hb); exact a_call (lq rfl) rfl (refBytes_c _ _ (by omega))))
    first | (apply sq_g rfl rfl rfl (lq rfl) (lq rfl) rfl; focus (intro hb; simp only [gd, Bool.not_eq_true'] at hb; (try rw [hb]); (try simp only [decide_eq_true_eq, decide_eq_false_iff_not, Bool.and_eq_true, Bool.or_eq_false_iff, Bool.not_eq_true'] at hb); exact a_eql (lq rfl) rfl rfl)) | (apply sq_g2 rfl rfl rfl (lq rfl) (lq rfl) rfl; focus (intro hb; simp only [gd, Bool.and_eq_true, Bool.not_eq_true'] at hb; (try rw [hb.1]); (try rw [hb.2]); (try simp only [decide_eq_true_eq, decide_eq_false_iff_not, Bool.and_eq_true, Bool.or_eq_false_iff, Bool.not_eq_true'] at hb); exact a_eql (lq rfl) rfl rfl))
    first | refine sq_a (ag_plain rfl (a_pick_and (lq rfl) rfl rfl)) ?_ | refine sq_a (ag_plain rfl (a_pick_td (lq rfl) rfl rfl)) ?_ | refine sq_a (ag_plain rfl (a_pick_fd (lq rfl) rfl rfl)) ?_
    first | refine sq_a (ag_plain rfl (a_move_d (lq rfl) rfl)) ?_ | refine sq_a (ag_plain rfl (a_move_row (lq rfl) rfl)) ?_ | refine sq_a (ag_plain rfl (a_move_ptr (lq rfl) rfl)) ?_ | refine sq_a (ag_plain rfl (a_move_ip (lq rfl) rfl)) ?_ | refine sq_a (ag_plain rfl (a_move_tup (lq rfl) rfl)) ?_
    first | (apply sq_g rfl rfl rfl (lq rfl) (lq rfl) rfl; focus (intro hb; simp only [gd, Bool.not_eq_true'] at hb; (try rw [hb]); (try simp only [decide_eq_true_eq, decide_eq_false_iff_not, Bool.and_eq_true, Bool.or_eq_false_iff, Bool.not_eq_true'] at hb); exact a_call (lq rfl) rfl (awake_c))) | (apply sq_g2 rfl rfl rfl (lq rfl) (lq rfl) rfl; focus (intro hb; simp only [gd, Bool.and_eq_true, Bool.not_eq_true'] at hb; (try rw [hb.1]); (try rw [hb.2]); (try simp only [decide_eq_true_eq, decide_eq_false_iff_not, Bool.and_eq_true, Bool.or_eq_false_iff, Bool.not_eq_true'] at hb); exact a_call (lq rfl) rfl (awake_c)))
    first | refine sq_a (ag_plain rfl (a_pick_and (lq rfl) rfl rfl)) ?_ | refine sq_a (ag_plain rfl (a_pick_td (lq rfl) rfl rfl)) ?_ | refine sq_a (ag_plain rfl (a_pick_fd (lq rfl) rfl rfl)) ?_
    first | refine sq_a (ag_plain rfl (a_assign_d (lq rfl) rfl)) ?_ | refine sq_a (ag_plain rfl (a_assign_row (lq rfl) rfl)) ?_ | refine sq_a (ag_plain rfl (a_assign_ptr (lq rfl) rfl)) ?_
    refine sq_nil ?_
    refine avc_ret ?_
    exact ret_bool rfl (by simp)
end Go.Proofs.Ytdelglnpgpaaiaa.Walk

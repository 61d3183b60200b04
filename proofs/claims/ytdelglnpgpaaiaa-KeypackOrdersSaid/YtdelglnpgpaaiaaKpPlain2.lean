/- Unpacking, lengths and orders of packed lists, in plain Lean. Conditions: none. -/
import Derived.Test.YtdelglnpgpaaiaaKpPlain
set_option linter.unusedSimpArgs false
set_option linter.unusedVariables false
set_option linter.unnecessarySimpa false
namespace Go.Plain
/-! ## Unpacking what was packed -/
theorem plain_idem (l : List Int) : plain (plain l) = plain l := by
  simp only [plain, List.map_map]
  apply List.map_congr_left
  intro v _
  simp only [Function.comp, cl]
  by_cases h : 0 ≤ v ∧ v ≤ 65535
  · simp [h]
  · simp [h]
theorem plain_of {l : List Int} (h : ∀ v ∈ l, 0 ≤ v ∧ v ≤ 65535) : plain l = l := by
  simp only [plain]
  conv => rhs; rw [← List.map_id l]
  apply List.map_congr_left
  intro v hv
  simp only [cl]; rw [if_pos (h v hv)]; rfl
theorem unpV_app (m : Int) (a b : List Int) : unpV m (a ++ b) = unpV m a ++ unpV m b := by simp [unpV]
theorem unpV_one {m x : Int} {n : Nat} {v : Int} (hn : exN x m = n) (hv : exV x m = v) : unpV m [x] = List.replicate n v := by
  simp [unpV, hn, hv]
theorem unpV_rep (m x : Int) (k : Nat) : unpV m (List.replicate k x) = List.replicate (k * (exN x m).toNat) (exV x m) := by
  induction k with
  | zero => simp [unpV]
  | succ k ih =>
    rw [List.replicate_succ, show x :: List.replicate k x = [x] ++ List.replicate k x from rfl, unpV_app, ih]
    simp only [unpV, List.flatMap_cons, List.flatMap_nil, List.append_nil]
    rw [List.replicate_append_replicate]
    congr 1; rw [Nat.succ_mul]; omega
theorem ex_full {m : Int} (hm : 1 ≤ m ∧ m ≤ 65535) : exN (m + 7) m = 8 ∧ exV (m + 7) m = m ∧ exOk (m + 7) = true := by
  refine ⟨?_, ?_, ?_⟩
  · unfold exN; rw [if_neg (by omega), if_neg (by omega), if_pos (by omega)]; omega
  · unfold exV; rw [if_neg (by omega), if_neg (by omega), if_pos (by omega)]
  · simp only [exOk, decide_eq_true_eq]; omega
theorem ex_lo {m : Int} {r : Nat} (hm : 1 ≤ m ∧ m ≤ 65535) (h0 : 0 < r) (h8 : r < 8) : exN (m + r - 1) m = r ∧ exV (m + r - 1) m = m ∧ exOk (m + r - 1) = true := by
  refine ⟨?_, ?_, ?_⟩
  · unfold exN; rw [if_neg (by omega), if_neg (by omega), if_pos (by omega)]; omega
  · unfold exV; rw [if_neg (by omega), if_neg (by omega), if_pos (by omega)]
  · simp only [exOk, decide_eq_true_eq]; omega
theorem ex_hi {m : Int} {r : Nat} (hm : 1 ≤ m ∧ m ≤ 65535) (h0 : 0 < r) (h8 : r < 8) : exN (m + 15 - r) m = r ∧ exV (m + 15 - r) m = m ∧ exOk (m + 15 - r) = true := by
  refine ⟨?_, ?_, ?_⟩
  · unfold exN; rw [if_neg (by omega), if_neg (by omega), if_neg (by omega), if_pos (by omega)]; omega
  · unfold exV; rw [if_neg (by omega), if_neg (by omega), if_pos (by omega)]
  · simp only [exOk, decide_eq_true_eq]; omega
theorem ex_oth {m x : Int} (hm : 1 ≤ m ∧ m ≤ 65535) (hx : 0 ≤ x ∧ x ≤ 65535) (hne : x ≠ m) : exN (if x < m then x else x + 14) m = 1 ∧ exV (if x < m then x else x + 14) m = x ∧ exOk (if x < m then x else x + 14) = true := by
  split
  · refine ⟨?_, ?_, ?_⟩
    · unfold exN; rw [if_neg (by omega), if_pos (by omega)]
    · unfold exV; rw [if_neg (by omega), if_pos (by omega)]
    · simp only [exOk, decide_eq_true_eq]; omega
  · refine ⟨?_, ?_, ?_⟩
    · unfold exN; rw [if_neg (by omega), if_neg (by omega), if_neg (by omega), if_neg (by omega)]
    · unfold exV; rw [if_neg (by omega), if_neg (by omega), if_neg (by omega)]; omega
    · simp only [exOk, decide_eq_true_eq]; omega
theorem unpV_flush {m : Int} (hm : 1 ≤ m ∧ m ≤ 65535) (c : Nat) (lo : Bool) : unpV m (flush m c lo) = List.replicate c m ∧ (flush m c lo).all exOk = true := by
  have hf := ex_full hm
  have h8 : c % 8 < 8 := Nat.mod_lt _ (by omega)
  unfold flush
  rw [unpV_app, unpV_rep, hf.1, hf.2.1, List.all_append]
  have e1 : (List.replicate (c / 8) (m + 7)).all exOk = true := by simp [hf.2.2]
  rw [e1, Bool.true_and]
  by_cases h0 : c % 8 = 0
  · rw [if_pos h0]
    refine ⟨?_, rfl⟩
    simp only [unpV, List.flatMap_nil, List.append_nil]
    congr 1
    show c / 8 * 8 = c
    omega
  · rw [if_neg h0]
    cases lo with
    | true =>
      have h := ex_lo hm (r := c % 8) (by omega) h8
      rw [if_pos rfl, unpV_one h.1 h.2.1, List.replicate_append_replicate]
      refine ⟨?_, by rw [List.all_cons, h.2.2]; rfl⟩
      congr 1
      show c / 8 * 8 + c % 8 = c
      omega
    | false =>
      have h := ex_hi hm (r := c % 8) (by omega) h8
      rw [if_neg (by simp), unpV_one h.1 h.2.1, List.replicate_append_replicate]
      refine ⟨?_, by rw [List.all_cons, h.2.2]; rfl⟩
      congr 1
      show c / 8 * 8 + c % 8 = c
      omega
theorem unp_pkc {m : Int} (hm : 1 ≤ m ∧ m ≤ 65535) : ∀ (l : List Int) (c : Nat), (∀ v ∈ l, 0 ≤ v ∧ v ≤ 65535) → unpV m (pkc m c l) = List.replicate c m ++ l ∧ (pkc m c l).all exOk = true
  | [], c, _ => by
    have := unpV_flush hm c true
    simp only [pkc, List.append_nil]; exact this
  | x :: xs, c, h => by
    have hx := h x (by simp)
    have hxs : ∀ v ∈ xs, 0 ≤ v ∧ v ≤ 65535 := fun v hv => h v (by simp [hv])
    unfold pkc
    split
    · rename_i e; subst e
      obtain ⟨h1, h2⟩ := unp_pkc hm xs (c + 1) hxs
      refine ⟨?_, h2⟩
      rw [h1, List.replicate_succ']
      simp
    · rename_i e
      obtain ⟨h1, h2⟩ := unp_pkc hm xs 0 hxs
      obtain ⟨h3, h4⟩ := unpV_flush hm c (decide (x < m))
      obtain ⟨h5, h6, h7⟩ := ex_oth hm hx e
      constructor
      · rw [unpV_app, h3, show (if x < m then x else x + 14) :: pkc m 0 xs = [if x < m then x else x + 14] ++ pkc m 0 xs from rfl, unpV_app, h1, unpV_one (n := 1) h5 h6]
        simp
      · rw [List.all_append, h4, List.all_cons, h7, h2]; rfl
/-- Unpack of Pack. -/
theorem unp_pk (c : Int) (l : List Int) : unpR c (pk (common c) (plain l)) = (plain l, 0) := by
  have hm := common_in c
  obtain ⟨h1, h2⟩ := unp_pkc hm (plain l) 0 (fun v hv => plain_in hv)
  have h1' : unpV (common c) (pk (common c) (plain l)) = plain l := by simpa [pk] using h1
  rw [unpR, h1', plain_idem, if_pos ⟨h2, rfl⟩]

/-! ## The lengths of runs -/
theorem run_len {m : Int} (n : Nat) (lo : Bool) : (flush m n lo).length = (n + 7) / 8 := by
  unfold flush
  rw [List.length_append, List.length_replicate]
  split
  · simp; omega
  · split <;> (simp; omega)
theorem runs_a {m : Int} (hm : 1 ≤ m ∧ m ≤ 65535) (n : Nat) : (pk (common m) (plain (List.replicate n m))).length = (n + 7) / 8 := by
  have e1 : common m = m := by unfold common; rw [if_neg (by omega)]
  have e2 : plain (List.replicate n m) = List.replicate n m := plain_of fun v hv => by
    rw [List.mem_replicate] at hv; omega
  have := pkc_rep (m := m) (c := 0) n []
  rw [List.append_nil] at this
  rw [e1, e2, pk, this, pkc, run_len]; congr 1; omega
theorem runs_b {m x : Int} (hm : 1 ≤ m ∧ m ≤ 65535) (hx : 0 ≤ x ∧ x ≤ 65535) (hne : x ≠ m) (n : Nat) : (pk (common m) (plain (List.replicate n m ++ [x]))).length = (n + 7) / 8 + 1 := by
  have e1 : common m = m := by unfold common; rw [if_neg (by omega)]
  have e2 : plain (List.replicate n m ++ [x]) = List.replicate n m ++ [x] := plain_of fun v hv => by
    rw [List.mem_append, List.mem_replicate, List.mem_singleton] at hv; omega
  rw [e1, e2, pk, pkc_rep, pkc, if_neg hne, List.length_append, run_len]
  simp [pkc, flush0]
end Go.Plain

/- The order of packed lists and of bytes, in plain Lean. Conditions: none. -/
import Derived.Test.YtdelglnpgpaaiaaKpPlain2
set_option linter.unusedSimpArgs false
set_option linter.unusedVariables false
set_option linter.unnecessarySimpa false
namespace Go.Plain
theorem cmpL_refl (a : List Int) : cmpL a a = 0 := cmpL_zero.2 rfl
theorem cmpL_cons (x : Int) (a b : List Int) : cmpL (x :: a) (x :: b) = cmpL a b := by
  rw [cmpL, if_neg (by omega), if_neg (by omega)]
theorem cmpL_app (p a b : List Int) : cmpL (p ++ a) (p ++ b) = cmpL a b := by
  induction p with
  | nil => rfl
  | cons x p ih => rw [List.cons_append, List.cons_append, cmpL_cons, ih]
theorem cmpL_lt {x y : Int} (h : x < y) (a b : List Int) : cmpL (x :: a) (y :: b) = -1 := by rw [cmpL, if_pos h]
theorem cmpL_neg : ∀ a b : List Int, cmpL b a = - cmpL a b
  | [], [] => by simp [cmpL]
  | [], _ :: _ => by simp [cmpL]
  | _ :: _, [] => by simp [cmpL]
  | x :: a, y :: b => by
    have := cmpL_neg a b
    rcases Int.lt_trichotomy x y with h | h | h
    · rw [cmpL_lt h, cmpL, if_neg (by omega), if_pos h]; rfl
    · subst h; rw [cmpL_cons, cmpL_cons, this]
    · rw [cmpL_lt h, cmpL, if_neg (by omega), if_pos h]
theorem flush8 (m : Int) (c : Nat) (lo : Bool) : flush m (c + 8) lo = (m + 7) :: flush m c lo := by
  have e1 : (c + 8) / 8 = c / 8 + 1 := by omega
  have e2 : (c + 8) % 8 = c % 8 := by omega
  unfold flush
  rw [e1, e2, List.replicate_succ]; rfl
theorem pkc8 (m : Int) : ∀ (l : List Int) (c : Nat), pkc m (c + 8) l = (m + 7) :: pkc m c l
  | [], c => flush8 m c true
  | x :: xs, c => by
    unfold pkc
    split
    · have := pkc8 m xs (c + 1)
      rw [← this]
    · rw [flush8]; rfl
theorem flush_r {m : Int} {r : Nat} (h0 : 0 < r) (h8 : r < 8) (lo : Bool) : flush m r lo = [if lo then m + r - 1 else m + 15 - r] := by
  have e1 : r / 8 = 0 := by omega
  have e2 : r % 8 = r := by omega
  unfold flush
  rw [e1, e2, if_neg (by omega)]
  cases lo <;> simp
theorem pkc_head (m : Int) : ∀ (l : List Int) (n : Nat), 1 ≤ n → n ≤ 8 → ∃ h t, pkc m n l = h :: t ∧ m + n - 1 ≤ h ∧ h ≤ m + 15 - n
  | l, n, h1, h8 => by
    rcases Nat.lt_or_ge n 8 with hlt | hge
    · cases l with
      | nil => exact ⟨_, [], by rw [pkc, flush_r h1 hlt], by simp, by simp; omega⟩
      | cons x xs =>
        by_cases hx : x = m
        · obtain ⟨h, t, e, p1, p2⟩ := pkc_head m xs (n + 1) (by omega) (by omega)
          exact ⟨h, t, by rw [pkc, if_pos hx, e], by omega, by omega⟩
        · refine ⟨_, _, by rw [pkc, if_neg hx, flush_r h1 hlt]; rfl, ?_, ?_⟩
          · cases decide (x < m) <;> simp; omega
          · cases decide (x < m) <;> simp; omega
    · obtain rfl : n = 8 := by omega
      exact ⟨m + 7, pkc m 0 l, pkc8 m l 0, by omega, by omega⟩
/-- A list's end comes first. -/
theorem pkc_end (m : Int) (y : Int) (ys : List Int) (r : Nat) (h8 : r < 8) : cmpL (pkc m r []) (pkc m r (y :: ys)) = -1 := by
  rcases Nat.eq_zero_or_pos r with rfl | h0
  · by_cases hy : y = m
    · obtain ⟨h, t, e, _, _⟩ := pkc_head m ys 1 (by omega) (by omega)
      rw [pkc, pkc, if_pos hy, e, flush0, cmpL]
    · rw [pkc, pkc, if_neg hy, flush0, flush0, List.nil_append, cmpL]
  · by_cases hy : y = m
    · obtain ⟨h, t, e, p1, _⟩ := pkc_head m ys (r + 1) (by omega) (by omega)
      rw [pkc, pkc, if_pos hy, e, flush_r h0 h8, if_pos rfl, cmpL_lt (by omega)]
    · rw [pkc, pkc, if_neg hy, flush_r h0 h8, flush_r h0 h8, if_pos rfl]
      by_cases hl : y < m
      · rw [if_pos (by simpa using hl), if_pos hl]
        show cmpL (_ :: []) (_ :: (_ :: _)) = -1
        rw [cmpL_cons, cmpL]
      · rw [if_neg (by simpa using hl)]
        exact cmpL_lt (by omega) _ _
theorem pkc_lt (m : Int) {x y : Int} (hxy : x < y) (xs ys : List Int) (r : Nat) (h8 : r < 8) : cmpL (pkc m r (x :: xs)) (pkc m r (y :: ys)) = -1 := by
  by_cases hx : x = m
  · have hy : ¬ y = m := by omega
    have hy2 : ¬ y < m := by omega
    obtain ⟨h, t, e, _, p2⟩ := pkc_head m xs (r + 1) (by omega) (by omega)
    rw [pkc, pkc, if_pos hx, if_neg hy, e]
    rcases Nat.eq_zero_or_pos r with rfl | h0
    · rw [flush0, List.nil_append, if_neg hy2]; exact cmpL_lt (by omega) _ _
    · rw [flush_r h0 h8, if_neg (by simpa using hy2)]; exact cmpL_lt (by omega) _ _
  · by_cases hxm : x < m
    · by_cases hy : y = m
      · obtain ⟨h, t, e, p1, _⟩ := pkc_head m ys (r + 1) (by omega) (by omega)
        rw [pkc, pkc, if_neg hx, if_pos hy, e]
        rcases Nat.eq_zero_or_pos r with rfl | h0
        · rw [flush0, List.nil_append, if_pos hxm]; exact cmpL_lt (by omega) _ _
        · rw [flush_r h0 h8, if_pos (by simpa using hxm)]; exact cmpL_lt (by omega) _ _
      · rw [pkc, pkc, if_neg hx, if_neg hy, if_pos hxm]
        by_cases hym : y < m
        · rw [decide_eq_true hxm, decide_eq_true hym, cmpL_app, if_pos hym]; exact cmpL_lt hxy _ _
        · rw [if_neg hym]
          rcases Nat.eq_zero_or_pos r with rfl | h0
          · rw [flush0, flush0]; exact cmpL_lt (by omega) _ _
          · rw [flush_r h0 h8, flush_r h0 h8, if_pos (by simpa using hxm), if_neg (by simpa using hym)]; exact cmpL_lt (by omega) _ _
    · have hy : ¬ y = m := by omega
      have hym : ¬ y < m := by omega
      rw [pkc, pkc, if_neg hx, if_neg hy, decide_eq_false hxm, decide_eq_false hym, cmpL_app, if_neg hxm, if_neg hym]
      exact cmpL_lt (by omega) _ _
theorem pkc_down (m : Int) (a b : List Int) (c : Nat) : cmpL (pkc m c a) (pkc m c b) = cmpL (pkc m (c % 8) a) (pkc m (c % 8) b) := by
  have key : ∀ q r : Nat, cmpL (pkc m (8 * q + r) a) (pkc m (8 * q + r) b) = cmpL (pkc m r a) (pkc m r b) := by
    intro q
    induction q with
    | zero => intro r; rw [Nat.mul_zero, Nat.zero_add]
    | succ q ih =>
      intro r
      rw [show 8 * (q + 1) + r = (8 * q + r) + 8 by omega, pkc8, pkc8, cmpL_cons, ih]
  have := key (c / 8) (c % 8)
  rwa [show 8 * (c / 8) + c % 8 = c by omega] at this
theorem pkc_cmp (m : Int) : ∀ (a b : List Int) (c : Nat), cmpL (pkc m c a) (pkc m c b) = cmpL a b
  | [], [], c => by rw [cmpL_refl, cmpL_refl]
  | [], y :: ys, c => by rw [pkc_down, pkc_end m y ys _ (Nat.mod_lt _ (by omega)), cmpL]
  | x :: xs, [], c => by rw [cmpL_neg, pkc_down, pkc_end m x xs _ (Nat.mod_lt _ (by omega)), cmpL]; rfl
  | x :: xs, y :: ys, c => by
    rcases Int.lt_trichotomy x y with h | h | h
    · rw [pkc_down, pkc_lt m h xs ys _ (Nat.mod_lt _ (by omega)), cmpL_lt h]
    · subst h
      rw [cmpL_cons, pkc, pkc]
      by_cases hx : x = m
      · rw [if_pos hx, if_pos hx, pkc_cmp m xs ys (c + 1)]
      · rw [if_neg hx, if_neg hx, cmpL_app, cmpL_cons, pkc_cmp m xs ys 0]
    · rw [cmpL_neg, pkc_down, pkc_lt m h ys xs _ (Nat.mod_lt _ (by omega)), cmpL_neg, cmpL_lt h]
theorem pk_cmp (m : Int) (a b : List Int) : cmpL (pk m a) (pk m b) = cmpL a b := pkc_cmp m a b 0

/-! ## Bytes -/
theorem vb_ne (y : Int) : ∃ h t, vb y = h :: t := by
  unfold vb; split
  · exact ⟨_, _, rfl⟩
  · split
    · exact ⟨_, _, rfl⟩
    · split <;> exact ⟨_, _, rfl⟩
theorem vb_lt {x y : Int} (hx : 0 ≤ x) (hy : y < 16777216) (h : x < y) (a b : List Int) : cmpL (vb x ++ a) (vb y ++ b) = -1 := by
  have e1 : ¬ (x < 0 ∨ x ≥ 16777216) := by omega
  have e2 : ¬ (y < 0 ∨ y ≥ 16777216) := by omega
  simp only [vb, if_neg e1, if_neg e2]
  by_cases x1 : x < 64
  · simp only [if_pos x1]
    by_cases y1 : y < 64
    · simp only [if_pos y1]; exact cmpL_lt h _ _
    · simp only [if_neg y1]
      by_cases y2 : y < 16384
      · simp only [if_pos y2]; exact cmpL_lt (by omega) _ _
      · simp only [if_neg y2]; exact cmpL_lt (by omega) _ _
  · have y1 : ¬ y < 64 := by omega
    simp only [if_neg x1, if_neg y1]
    by_cases x2 : x < 16384
    · simp only [if_pos x2]
      by_cases y2 : y < 16384
      · simp only [if_pos y2, List.cons_append, cmpL]
        by_cases q : x / 256 = y / 256
        · rw [q, if_neg (by omega), if_neg (by omega), if_pos (by omega)]
        · rw [if_pos (by omega)]
      · simp only [if_neg y2]; exact cmpL_lt (by omega) _ _
    · have y2 : ¬ y < 16384 := by omega
      simp only [if_neg x2, if_neg y2, List.cons_append, cmpL]
      rw [if_neg (by omega), if_neg (by omega)]
      by_cases q : x / 65536 = y / 65536
      · rw [q, if_neg (by omega), if_neg (by omega)]
        by_cases q2 : x / 256 % 256 = y / 256 % 256
        · rw [q2, if_neg (by omega), if_neg (by omega), if_pos (by omega)]
        · rw [if_pos (by omega)]
      · rw [if_pos (by omega)]
theorem vbs_cmp : ∀ (a b : List Int), (∀ v ∈ a, 0 ≤ v ∧ v < 16777216) → (∀ v ∈ b, 0 ≤ v ∧ v < 16777216) → cmpL (vbs a) (vbs b) = cmpL a b
  | [], [], _, _ => by rw [cmpL_refl, cmpL_refl]
  | [], y :: ys, _, _ => by
    obtain ⟨h, t, e⟩ := vb_ne y
    simp [vbs, e, cmpL]
  | x :: xs, [], _, _ => by
    obtain ⟨h, t, e⟩ := vb_ne x
    simp [vbs, e, cmpL]
  | x :: xs, y :: ys, hx, hy => by
    have hx0 := hx x (by simp)
    have hy0 := hy y (by simp)
    have ex : vbs (x :: xs) = vb x ++ vbs xs := by simp [vbs]
    have ey : vbs (y :: ys) = vb y ++ vbs ys := by simp [vbs]
    rw [ex, ey]
    rcases Int.lt_trichotomy x y with h | h | h
    · rw [vb_lt hx0.1 hy0.2 h, cmpL_lt h]
    · subst h
      rw [cmpL_app, cmpL_cons, vbs_cmp xs ys (fun v hv => hx v (by simp [hv])) (fun v hv => hy v (by simp [hv]))]
    · rw [cmpL_neg, vb_lt hy0.1 hx0.2 h, cmpL_neg, cmpL_lt h]
theorem vb_in {x v : Int} (h : v ∈ vb x) : 0 ≤ v ∧ v < 256 := by
  unfold vb at h
  split at h
  · simp at h; omega
  · split at h
    · simp at h; omega
    · split at h <;> (simp at h; omega)
theorem vbs_in {l : List Int} {v : Int} (h : v ∈ vbs l) : 0 ≤ v ∧ v < 256 := by
  simp only [vbs, List.mem_flatMap] at h
  obtain ⟨x, _, hx⟩ := h
  exact vb_in hx
end Go.Plain
namespace Go.AV
open Go.Plain
theorem byte_lt {x y : Int} (hx : 0 ≤ x ∧ x < 256) (hy : 0 ≤ y ∧ y < 256) : (UInt8.ofNat x.toNat < UInt8.ofNat y.toNat) ↔ x < y := by
  rw [UInt8.lt_iff_toNat_lt, UInt8.toNat_ofNat', UInt8.toNat_ofNat', Nat.mod_eq_of_lt (by omega), Nat.mod_eq_of_lt (by omega)]
  omega
theorem byte_eq {x y : Int} (hx : 0 ≤ x ∧ x < 256) (hy : 0 ≤ y ∧ y < 256) (h : UInt8.ofNat x.toNat = UInt8.ofNat y.toNat) : x = y := by
  have := congrArg UInt8.toNat h
  rw [UInt8.toNat_ofNat', UInt8.toNat_ofNat', Nat.mod_eq_of_lt (by omega), Nat.mod_eq_of_lt (by omega)] at this
  omega
theorem nums_less : ∀ (a b : List Int), (∀ v ∈ a, 0 ≤ v ∧ v < 256) → (∀ v ∈ b, 0 ≤ v ∧ v < 256) → Op.bytesLess (a.map fun n => UInt8.ofNat n.toNat) (b.map fun n => UInt8.ofNat n.toNat) = decide (cmpL a b < 0)
  | [], [], _, _ => by simp [Op.bytesLess, cmpL]
  | [], y :: ys, _, _ => by simp [Op.bytesLess, cmpL]
  | x :: xs, [], _, _ => by simp [Op.bytesLess, cmpL]
  | x :: xs, y :: ys, hx, hy => by
    have hx0 := hx x (by simp)
    have hy0 := hy y (by simp)
    have ih := nums_less xs ys (fun v hv => hx v (by simp [hv])) (fun v hv => hy v (by simp [hv]))
    simp only [List.map_cons, Op.bytesLess, ih]
    rcases Int.lt_trichotomy x y with h | h | h
    · have := (byte_lt hx0 hy0).2 h
      rw [cmpL_lt h]; simp [this]
    · subst h
      rw [cmpL_cons]
      simp
    · have h1 : ¬ UInt8.ofNat x.toNat < UInt8.ofNat y.toNat := fun hh => by have := (byte_lt hx0 hy0).1 hh; omega
      have h2 : ¬ UInt8.ofNat x.toNat = UInt8.ofNat y.toNat := fun hh => by have := byte_eq hx0 hy0 hh; omega
      rw [cmpL, if_neg (by omega), if_pos h]
      simp [h1, h2]
theorem str_less {a b : List Int} (ha : ∀ v ∈ a, 0 ≤ v ∧ v < 256) (hb : ∀ v ∈ b, 0 ≤ v ∧ v < 256) : Op.bytesLess (strOfNums a).toList (strOfNums b).toList = decide (cmpL a b < 0) := by
  rw [ByteArray.toList_eq, ByteArray.toList_eq, strOfNums_data, strOfNums_data, nums_less a b ha hb]
theorem nums_eq : ∀ {a b : List Int}, (∀ v ∈ a, 0 ≤ v ∧ v < 256) → (∀ v ∈ b, 0 ≤ v ∧ v < 256) → (a.map fun n => UInt8.ofNat n.toNat) = (b.map fun n => UInt8.ofNat n.toNat) → a = b
  | [], [], _, _, _ => rfl
  | [], _ :: _, _, _, h => by simp at h
  | _ :: _, [], _, _, h => by simp at h
  | x :: xs, y :: ys, hx, hy, h => by
    simp only [List.map_cons, List.cons.injEq] at h
    rw [byte_eq (hx x (by simp)) (hy y (by simp)) h.1, nums_eq (fun v hv => hx v (by simp [hv])) (fun v hv => hy v (by simp [hv])) h.2]
theorem str_eq {a b : List Int} (ha : ∀ v ∈ a, 0 ≤ v ∧ v < 256) (hb : ∀ v ∈ b, 0 ≤ v ∧ v < 256) : ((strOfNums a).toList == (strOfNums b).toList) = decide (cmpL a b = 0) := by
  rw [ByteArray.toList_eq, ByteArray.toList_eq, strOfNums_data, strOfNums_data]
  rw [Bool.eq_iff_iff, beq_iff_eq, decide_eq_true_eq, cmpL_zero]
  exact ⟨nums_eq ha hb, fun h => by rw [h]⟩
end Go.AV
namespace Go.Plain
theorem all_in {l : List Int} {k : Nat} {lo hi : Int} (h : l.length ≤ k) (hA : ∀ j, j < k → lo ≤ l.getD j 0 ∧ l.getD j 0 ≤ hi) : ∀ v ∈ l, lo ≤ v ∧ v ≤ hi := by
  intro v hv
  obtain ⟨j, hj, rfl⟩ := List.getElem_of_mem hv
  have := hA j (by omega)
  simpa [List.getD, hj] using this
theorem in_step {l : List Int} {k : Nat} {lo hi : Int} (hA : ∀ j, j < k → lo ≤ l.getD j 0 ∧ l.getD j 0 ≤ hi) (h : lo ≤ l.getD k 0 ∧ l.getD k 0 ≤ hi) : ∀ j, j < k + 1 → lo ≤ l.getD j 0 ∧ l.getD j 0 ≤ hi := by
  intro j hj
  rcases Nat.lt_or_ge j k with h' | h'
  · exact hA j h'
  · rw [show j = k by omega]; exact h
end Go.Plain

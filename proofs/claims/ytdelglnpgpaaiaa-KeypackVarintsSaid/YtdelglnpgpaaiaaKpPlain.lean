/- The packed list, its runs, the bytes of numbers: plain Lean, no program in sight. Conditions: none. -/
import Derived.Test.YtdelglnpgpaaiaaKp
set_option linter.unusedSimpArgs false
set_option linter.unusedVariables false
set_option linter.unnecessarySimpa false
namespace Go.Plain
def common (m : Int) : Int := if m < 1 ∨ m > 65535 then 65535 else m
def cl (v : Int) : Int := if 0 ≤ v ∧ v ≤ 65535 then v else 0
def plain (l : List Int) : List Int := l.map cl
def flush (m : Int) (c : Nat) (lo : Bool) : List Int :=
  List.replicate (c / 8) (m + 7) ++ (if c % 8 = 0 then [] else if lo then [m + (c % 8 : Nat) - 1] else [m + 15 - (c % 8 : Nat)])
def pkc (m : Int) (c : Nat) : List Int → List Int
  | [] => flush m c true
  | x :: xs => if x = m then pkc m (c + 1) xs else flush m c (decide (x < m)) ++ (if x < m then x else x + 14) :: pkc m 0 xs
def pk (m : Int) (l : List Int) : List Int := pkc m 0 l
theorem flush0 (m : Int) (b : Bool) : flush m 0 b = [] := rfl
/-- Is the rest's first number low? -/
def low (m : Int) : List Int → Bool
  | [] => true
  | x :: _ => decide (x < m)
theorem pkc_flush {m : Int} {c : Nat} {r : List Int} (h : ∀ x, r.head? = some x → x ≠ m) : pkc m c r = flush m c (low m r) ++ pkc m 0 r := by
  cases r with
  | nil => simp [pkc, low, flush0]
  | cons x xs =>
    have := h x rfl
    simp [pkc, low, this, flush0]
theorem pkc_rep {m : Int} {c : Nat} : ∀ (k : Nat) (r : List Int), pkc m c (List.replicate k m ++ r) = pkc m (c + k) r
  | 0, r => rfl
  | k + 1, r => by
    simp only [List.replicate_succ, List.cons_append, pkc, if_true]
    rw [pkc_rep (c := c + 1) k r]
    congr 1; omega
theorem pkc_oth {m v : Int} (hv : v ≠ m) : ∀ (k : Nat) (r : List Int), pkc m 0 (List.replicate k v ++ r) = List.replicate k (if v < m then v else v + 14) ++ pkc m 0 r
  | 0, r => rfl
  | k + 1, r => by
    simp only [List.replicate_succ, List.cons_append, pkc, if_neg hv, flush0, List.nil_append]
    rw [pkc_oth hv k r]

/-! ## Runs -/
def runsF : List Int → List (Int × Nat)
  | [] => []
  | x :: xs => match runsF xs with
    | [] => [(x, 1)]
    | (y, c) :: r => if x = y then (y, c + 1) :: r else (x, 1) :: (y, c) :: r
def okR : List (Int × Nat) → Prop
  | [] => True
  | (v, c) :: r => 0 < c ∧ (∀ x d r', r = (x, d) :: r' → x ≠ v) ∧ okR r
def unR (r : List (Int × Nat)) : List Int := r.flatMap fun p => List.replicate p.2 p.1
theorem runsF_ok : ∀ l, okR (runsF l)
  | [] => trivial
  | x :: xs => by
    have ih := runsF_ok xs
    unfold runsF
    split
    · simp [okR]
    · rename_i y c r h
      rw [h] at ih
      obtain ⟨h1, h2, h3⟩ := ih
      split
      · rename_i e; subst e
        exact ⟨by omega, h2, h3⟩
      · rename_i e
        exact ⟨by omega, fun z d r' hz => by cases hz; exact fun h => e h.symm, h1, h2, h3⟩
theorem unR_runsF : ∀ l, unR (runsF l) = l
  | [] => rfl
  | x :: xs => by
    have ih := unR_runsF xs
    unfold runsF
    split
    · rename_i h
      rw [h] at ih
      simp [unR] at ih ⊢; exact ih
    · rename_i y c r h
      rw [h] at ih
      split
      · rename_i e; subst e
        simp only [unR, List.flatMap_cons, List.replicate_succ, List.cons_append] at ih ⊢
        rw [ih]
      · simp only [unR, List.flatMap_cons, List.replicate_succ, List.cons_append, List.replicate_zero, List.nil_append] at ih ⊢
        rw [ih]
theorem runsF_head (x : Int) (xs : List Int) : ∃ c r, runsF (x :: xs) = (x, c) :: r := by
  unfold runsF
  split
  · exact ⟨_, _, rfl⟩
  · rename_i y c r h
    split
    · rename_i e; subst e; exact ⟨_, _, rfl⟩
    · exact ⟨_, _, rfl⟩
theorem runsF_rep {v : Int} {r : List Int} (h : ∀ x, r.head? = some x → x ≠ v) : ∀ c : Nat, runsF (List.replicate (c + 1) v ++ r) = (v, c + 1) :: runsF r
  | 0 => by
    simp only [Nat.zero_add, List.replicate_one, List.cons_append, List.nil_append]
    cases r with
    | nil => rfl
    | cons y ys =>
      obtain ⟨c, r', e⟩ := runsF_head y ys
      rw [runsF, e]
      have hne : ¬ v = y := fun h' => h y rfl h'.symm
      simp [hne]
  | c + 1 => by
    rw [List.replicate_succ, List.cons_append, runsF, runsF_rep h c]
    simp
theorem drop_rep {l : List Int} {a e : Nat} (he : e ≤ l.length) (hae : a ≤ e) (h : ∀ j, a ≤ j → j < e → l.getD j 0 = l.getD a 0) : l.drop a = List.replicate (e - a) (l.getD a 0) ++ l.drop e := by
  apply List.ext_getElem?
  intro i
  rw [List.getElem?_drop]
  by_cases hi : i < e - a
  · rw [List.getElem?_append_left (by simpa using hi)]
    have h1 := h (a + i) (by omega) (by omega)
    have h2 : a + i < l.length := by omega
    rw [List.getElem?_replicate, if_pos hi]
    rw [List.getD_eq_getElem?_getD] at h1
    rw [List.getElem?_eq_getElem h2] at h1 ⊢
    simp at h1
    rw [h1]; rfl
  · rw [List.getElem?_append_right (by simp; omega), List.length_replicate, List.getElem?_drop]
    congr 1; omega
theorem runs_step {l : List Int} {a e : Nat} (ha : a < e) (he : e ≤ l.length) (h : ∀ j, a ≤ j → j < e → l.getD j 0 = l.getD a 0) (hx : e < l.length → l.getD e 0 ≠ l.getD a 0) :
    runsF (l.drop a) = (l.getD a 0, e - a) :: runsF (l.drop e) := by
  rw [drop_rep he (by omega) h]
  obtain ⟨c, hc⟩ : ∃ c, e - a = c + 1 := ⟨e - a - 1, by omega⟩
  rw [hc]
  refine runsF_rep (fun x hxh => ?_) c
  rw [List.head?_drop] at hxh
  obtain ⟨h1, h2⟩ := List.getElem?_eq_some_iff.1 hxh
  have := hx h1
  rw [List.getD_eq_getElem?_getD, hxh] at this
  exact this

/-! ## The pieces -/
def encR (m v : Int) (c : Nat) (lo : Bool) : List Int := if v = m then flush m c lo else List.replicate c (if v < m then v else v + 14)
def lowR (m : Int) : List (Int × Nat) → Bool
  | [] => true
  | (x, _) :: _ => decide (x < m)
def pieces (m : Int) : List (Int × Nat) → List (List Int)
  | [] => []
  | (v, c) :: r => encR m v c (lowR m r) :: pieces m r
theorem pieces_len (m : Int) : ∀ r, (pieces m r).length = r.length
  | [] => rfl
  | (v, c) :: r => by simp [pieces, pieces_len m r]
theorem pieces_get (m : Int) : ∀ (r : List (Int × Nat)) (k : Nat) v c, r[k]? = some (v, c) → (pieces m r)[k]? = some (encR m v c (lowR m (r.drop (k + 1))))
  | [], k, v, c, h => by simp at h
  | (v', c') :: r, 0, v, c, h => by simp at h; obtain ⟨rfl, rfl⟩ := h; rfl
  | (v', c') :: r, k + 1, v, c, h => by simpa [pieces] using pieces_get m r k v c (by simpa using h)
def atR (r : List (Int × Nat)) (k : Nat) : Nat := ((r.take k).map (·.2)).sum
def outR (m : Int) (r : List (Int × Nat)) (k : Nat) : List Int := ((pieces m r).take k).flatten
theorem atR_succ {r : List (Int × Nat)} {k : Nat} {v : Int} {c : Nat} (h : r[k]? = some (v, c)) : atR r (k + 1) = atR r k + c := by
  simp [atR, List.take_add_one, h]
theorem outR_succ {m : Int} {r : List (Int × Nat)} {k : Nat} {v : Int} {c : Nat} (h : r[k]? = some (v, c)) : outR m r (k + 1) = outR m r k ++ encR m v c (lowR m (r.drop (k + 1))) := by
  simp [outR, List.take_add_one, pieces_get m r k v c h]
theorem unR_drop : ∀ (r : List (Int × Nat)) (k : Nat), (unR r).drop (atR r k) = unR (r.drop k)
  | r, 0 => by simp [atR]
  | [], k + 1 => by simp [unR]
  | (v, c) :: r, k + 1 => by
    have := unR_drop r k
    simp only [atR, List.take_succ_cons, List.map_cons, List.sum_cons, List.drop_succ_cons, unR, List.flatMap_cons] at this ⊢
    rw [← this, List.drop_append]
    simp
theorem unR_len (r : List (Int × Nat)) : (unR r).length = (r.map (·.2)).sum := by
  induction r with
  | nil => rfl
  | cons p r ih => simp [unR] at ih ⊢
theorem okR_drop : ∀ (r : List (Int × Nat)) (k : Nat), okR r → okR (r.drop k)
  | r, 0, h => h
  | [], k + 1, _ => by simp [okR]
  | (v, c) :: r, k + 1, h => okR_drop r k h.2.2
theorem low_unR {m : Int} : ∀ {r : List (Int × Nat)}, okR r → low m (unR r) = lowR m r
  | [], _ => rfl
  | (v, c) :: r, h => by
    obtain ⟨c', rfl⟩ : ∃ c', c = c' + 1 := ⟨c - 1, by have := h.1; omega⟩
    simp [unR, List.replicate_succ, low, lowR]
theorem head_unR {r : List (Int × Nat)} (h : okR r) : (unR r).head? = (r.head?).map (·.1) := by
  cases r with
  | nil => rfl
  | cons p r =>
    obtain ⟨v, c⟩ := p
    obtain ⟨c', rfl⟩ : ∃ c', c = c' + 1 := ⟨c - 1, by have := h.1; omega⟩
    simp [unR, List.replicate_succ]
theorem pieces_pk {m : Int} : ∀ {r : List (Int × Nat)}, okR r → (pieces m r).flatten = pk m (unR r)
  | [], _ => by simp [pieces, pk, unR, pkc, flush0]
  | (v, c) :: r, h => by
    obtain ⟨h1, h2, h3⟩ := h
    have ih := pieces_pk (m := m) h3
    simp only [pieces, List.flatten_cons, ih, pk, encR]
    have e : unR ((v, c) :: r) = List.replicate c v ++ unR r := by simp [unR]
    rw [e]
    by_cases hv : v = m
    · subst hv
      rw [if_pos rfl, pkc_rep, Nat.zero_add, pkc_flush (c := c), low_unR h3]
      intro x hx
      rw [head_unR h3] at hx
      cases r with
      | nil => simp at hx
      | cons p r => obtain ⟨y, d⟩ := p; simp at hx; subst hx; exact h2 _ _ _ rfl
    · rw [if_neg hv, pkc_oth hv]
/-- All the runs' pieces are the packed list. -/
theorem outR_all (m : Int) (l : List Int) : outR m (runsF l) (runsF l).length = pk m l := by
  unfold outR
  rw [List.take_of_length_le (by rw [pieces_len]; exact Nat.le_refl _), pieces_pk (runsF_ok l), unR_runsF]
/-- What stands behind the first k + 1 runs. -/
theorem atR_low {m : Int} {l : List Int} {k : Nat} {v : Int} {c : Nat} (h : (runsF l)[k]? = some (v, c)) :
    atR (runsF l) (k + 1) ≤ l.length ∧ lowR m ((runsF l).drop (k + 1)) = (if atR (runsF l) (k + 1) = l.length then true else decide (l.getD (atR (runsF l) (k + 1)) 0 < m)) := by
  have e := unR_drop (runsF l) (k + 1)
  rw [unR_runsF] at e
  have hle : atR (runsF l) (k + 1) ≤ l.length := by
    have h1 := unR_len (runsF l)
    rw [unR_runsF] at h1
    rw [h1]
    unfold atR
    have h2 : ((runsF l).map (·.2)).sum = (((runsF l).take (k + 1)).map (·.2)).sum + (((runsF l).drop (k + 1)).map (·.2)).sum := by
      rw [← List.sum_append, ← List.map_append, List.take_append_drop]
    omega
  refine ⟨hle, ?_⟩
  rw [← low_unR (okR_drop _ _ (runsF_ok l)), ← e]
  split
  · rename_i h2; rw [h2, List.drop_length]; rfl
  · rename_i h2
    have hlt : atR (runsF l) (k + 1) < l.length := by omega
    rw [drop_at hlt]; rfl
theorem runsF_mem {l : List Int} {v : Int} {c : Nat} (h : (v, c) ∈ runsF l) : 0 < c ∧ v ∈ l ∧ c ≤ l.length := by
  have h0 : ∀ r : List (Int × Nat), okR r → (v, c) ∈ r → 0 < c := by
    intro r
    induction r with
    | nil => intro _ h; simp at h
    | cons p r ih =>
      intro hk h
      obtain ⟨a, b⟩ := p
      rcases List.mem_cons.1 h with h | h
      · cases h; exact hk.1
      · exact ih hk.2.2 h
  have h1 := h0 _ (runsF_ok l) h
  obtain ⟨s, t, e⟩ := List.append_of_mem h
  have e2 := unR_runsF l
  rw [e] at e2
  have e3 : l = unR s ++ (List.replicate c v ++ unR t) := by rw [← e2]; simp [unR]
  refine ⟨h1, ?_, ?_⟩
  · rw [e3]; simp; right; left; omega
  · rw [e3]; simp; omega

/-! ## The values -/
def cw (l : List Int) (k : Nat) : List Int := (l.take k).map cl ++ List.replicate (l.length - k) 0
theorem cw_len (l : List Int) {k : Nat} (h : k ≤ l.length) : (cw l k).length = l.length := by simp [cw]; omega
theorem cw_full (l : List Int) : cw l l.length = plain l := by simp [cw, plain]
theorem cw_skip {l : List Int} {k : Nat} (h : k < l.length) (hc : ¬ (0 ≤ l.getD k 0 ∧ l.getD k 0 ≤ 65535)) : cw l k = cw l (k + 1) := by
  have e1 : l.length - k = (l.length - (k + 1)) + 1 := by omega
  have e2 : cl (l.getD k 0) = 0 := by simp only [cl]; rw [if_neg hc]
  simp only [cw]
  rw [e1, List.replicate_succ, List.take_add_one, List.getElem?_eq_getElem h]
  simp only [List.getD_eq_getElem?_getD, List.getElem?_eq_getElem h, Option.getD_some] at e2
  simp only [List.map_append, List.append_assoc, Option.toList_some, List.map_cons, List.map_nil, e2, List.cons_append, List.nil_append]
theorem cw_set {l : List Int} {k : Nat} (h : k < l.length) (hc : 0 ≤ l.getD k 0 ∧ l.getD k 0 ≤ 65535) : (cw l k).set k (l.getD k 0) = cw l (k + 1) := by
  have e1 : l.length - k = (l.length - (k + 1)) + 1 := by omega
  have e2 : cl (l.getD k 0) = l.getD k 0 := by simp only [cl]; rw [if_pos hc]
  simp only [cw]
  rw [e1, List.replicate_succ, List.take_add_one, List.getElem?_eq_getElem h]
  simp only [List.getD_eq_getElem?_getD, List.getElem?_eq_getElem h, Option.getD_some] at e2 ⊢
  have e3 : ((l.take k).map cl).length = k := by simp; omega
  rw [List.set_append_right _ _ (by omega), e3]
  simp only [List.map_append, List.append_assoc, Option.toList_some, List.map_cons, List.map_nil, e2, List.cons_append, List.nil_append, Nat.sub_self, List.set_cons_zero]
end Go.Plain
namespace Go.AV
open Go.Plain
theorem cw_zero (l : List Int) : zerosDV (.int .i64 0) l.length = (cw l 0).map di := by rw [zeros_int]; simp [cw]
theorem cw_setD {l : List Int} {k : Nat} (h : k < l.length) (hc : 0 ≤ l.getD k 0 ∧ l.getD k 0 ≤ 65535) : ((cw l k).map di).set (k * 1) (di (l.getD k 0)) = (cw l (k + 1)).map di := by
  rw [← cw_set h hc, Nat.mul_one, List.map_set]
end Go.AV
namespace Go.Plain
def exV (x m : Int) : Int := if x < 0 ∨ x > 65549 then 0 else if x < m then x else if x ≤ m + 14 then m else x - 14
def exN (x m : Int) : Int := if x < 0 ∨ x > 65549 then 0 else if x < m then 1 else if x < m + 8 then x - m + 1 else if x ≤ m + 14 then m + 16 - 1 - x else 1
def exOk (x : Int) : Bool := decide (0 ≤ x ∧ x ≤ 65549)
def exD (_ _ : Int) : Prop := True
theorem exd (x m : Int) : exD x m := trivial
theorem ex0 {x m : Int} (h : x < 0 ∨ x > 65549) : 0 = exV x m ∧ 0 = exN x m ∧ false = exOk x := by
  refine ⟨by rw [exV, if_pos h], by rw [exN, if_pos h], ?_⟩
  rw [exOk, eq_comm, decide_eq_false_iff_not]; omega
theorem exk {x : Int} (h : ¬ (x < 0 ∨ x > 65549)) : true = exOk x := by
  rw [exOk, eq_comm, decide_eq_true_eq]; omega
theorem ex1 {x m : Int} (h : ¬ (x < 0 ∨ x > 65549)) (h1 : x < m) : x = exV x m ∧ 1 = exN x m ∧ true = exOk x := by
  refine ⟨by rw [exV, if_neg h, if_pos h1], by rw [exN, if_neg h, if_pos h1], exk h⟩
theorem ex2 {x m : Int} (h : ¬ (x < 0 ∨ x > 65549)) (h1 : ¬ x < m) (h2 : x < m + 8) : m = exV x m ∧ x - m + 1 = exN x m ∧ true = exOk x := by
  refine ⟨by rw [exV, if_neg h, if_neg h1, if_pos (by omega)], by rw [exN, if_neg h, if_neg h1, if_pos h2], exk h⟩
theorem ex3 {x m : Int} (h : ¬ (x < 0 ∨ x > 65549)) (h1 : ¬ x < m) (h2 : ¬ x < m + 8) (h3 : x ≤ m + 14) : m = exV x m ∧ m + 16 - 1 - x = exN x m ∧ true = exOk x := by
  refine ⟨by rw [exV, if_neg h, if_neg h1, if_pos h3], by rw [exN, if_neg h, if_neg h1, if_neg h2, if_pos h3], exk h⟩
theorem ex4 {x m : Int} (h : ¬ (x < 0 ∨ x > 65549)) (h1 : ¬ x < m) (h2 : ¬ x < m + 8) (h3 : ¬ x ≤ m + 14) : x - 14 = exV x m ∧ 1 = exN x m ∧ true = exOk x := by
  refine ⟨by rw [exV, if_neg h, if_neg h1, if_neg h3], by rw [exN, if_neg h, if_neg h1, if_neg h2, if_neg h3], exk h⟩
end Go.Plain
namespace Go.AV
open Go.Plain
theorem rd {a b : Int} (h : a = b) : some (di a) = some (di b) := by rw [h]
theorem rb {a b : Bool} (h : a = b) : some (db a) = some (db b) := by rw [h]
def runI (l : List Int) : List (List DV) := (runsF l).map fun p => [di p.1, di p.2]
theorem run_item {l : List Int} {k : Nat} {v : Int} {c : Nat} {i : Int} {rest : List (Int × Nat)} (h : (runsF l).drop k = (v, c) :: rest) (hi : (c : Int) = i) : (runI l)[k]? = some [di v, di i] := by
  have h1 : ((runsF l).drop k)[0]? = some (v, c) := by rw [h]; rfl
  rw [List.getElem?_drop] at h1
  simp only [Nat.add_zero] at h1
  simp [runI, h1, hi]
theorem run_next {l : List Int} {k e : Nat} {p : Int × Nat} (h : (runsF l).drop k = p :: runsF (l.drop e)) : k + 1 ≤ (runsF l).length ∧ (runsF l).drop (k + 1) = runsF (l.drop e) := by
  constructor
  · rcases Nat.lt_or_ge k (runsF l).length with h' | h'
    · exact h'
    · rw [List.drop_of_length_le h'] at h; cases h
  · rw [← List.drop_drop, h]; rfl
theorem run_end {l : List Int} {k a : Nat} (h2 : k ≤ (runsF l).length) (h3 : (runsF l).drop k = runsF (l.drop a)) (ha : l.length ≤ a) : k = (runI l).length := by
  rw [List.drop_of_length_le ha] at h3
  have : ((runsF l).drop k).length = 0 := by rw [h3]; rfl
  rw [List.length_drop] at this
  simp [runI]; omega
end Go.AV
namespace Go.Plain
theorem common_in (c : Int) : 1 ≤ common c ∧ common c ≤ 65535 := by unfold common; split <;> omega
theorem plain_in {l : List Int} {v : Int} (h : v ∈ plain l) : 0 ≤ v ∧ v ≤ 65535 := by
  simp only [plain, List.mem_map] at h
  obtain ⟨a, _, rfl⟩ := h
  unfold cl; split <;> omega
theorem flush_le (m : Int) {c : Nat} (h : 0 < c) (lo : Bool) : (flush m c lo).length ≤ c := by
  unfold flush
  rw [List.length_append, List.length_replicate]
  split
  · simp; omega
  · split <;> (simp; omega)
theorem encR_le (m v : Int) {c : Nat} (h : 0 < c) (lo : Bool) : (encR m v c lo).length ≤ c := by
  unfold encR; split
  · exact flush_le m h lo
  · simp
theorem outR_le (m : Int) {r : List (Int × Nat)} (h : okR r) (k : Nat) : (outR m r k).length ≤ atR r k := by
  unfold outR atR
  induction r generalizing k with
  | nil => simp [pieces]
  | cons p r ih =>
    obtain ⟨v, c⟩ := p
    cases k with
    | zero => simp
    | succ k =>
      have := ih h.2.2 k
      have h2 := encR_le m v h.1 (lowR m r)
      simp only [pieces, List.take_succ_cons, List.flatten_cons, List.length_append, List.map_cons, List.sum_cons]
      omega
end Go.Plain
namespace Go.AV
open Go.Plain
theorem len_rep {n : Nat} {v : Int} : ((List.replicate n v).map di).length = n * 1 := by simp
theorem runI_len (l : List Int) : ∀ x ∈ runI l, [39, 40].length = x.length := by
  intro x hx
  simp only [runI, List.mem_map] at hx
  obtain ⟨p, _, rfl⟩ := hx
  rfl
theorem runI_get {l : List Int} {k : Nat} {x : List DV} (h : (runI l)[k]? = some x) : ∃ v n, (runsF l)[k]? = some (v, n) ∧ x = [di v, di (n : Int)] := by
  simp only [runI, List.getElem?_map, Option.map_eq_some_iff] at h
  obtain ⟨⟨v, n⟩, h1, h2⟩ := h
  exact ⟨v, n, h1, h2.symm⟩
theorem pack_oth {m v w : Int} {n : Nat} {lo : Bool} {o o' : List Int} (h : o' = o ++ encR m v n lo) (hv : v ≠ m) (hw : (if v < m then v else v + 14) = w) : o.map di ++ (List.replicate n w).map di = o'.map di := by
  rw [h, encR, if_neg hv, hw, List.map_append]
theorem len_app2 {a : List Int} {n : Nat} {v : Int} : (a.map di ++ (List.replicate n v).map di).length = (a.length + n) * 1 := by simp
theorem pack_z {m v : Int} {n : Nat} {lo : Bool} {o o' : List Int} (h : o' = o ++ encR m v n lo) (hv : v = m) (h0 : n % 8 = 0) : o.map di ++ (List.replicate (n / 8) (m + 8 - 1)).map di = o'.map di := by
  rw [h, encR, if_pos hv, flush, if_pos h0, List.map_append, show m + 8 - 1 = m + 7 by omega, List.append_nil]
theorem pack_lo {m v : Int} {n : Nat} {lo lo' : Bool} {o o' : List Int} (h : o' = o ++ encR m v n lo) (hv : v = m) (h0 : n % 8 ≠ 0) (hlo : lo = lo') (h1 : lo' = true) : (o.map di ++ (List.replicate (n / 8) (m + 8 - 1)).map di) ++ [di (m + (n % 8 : Nat) - 1)] = o'.map di := by
  subst hlo
  rw [h, encR, if_pos hv, flush, if_neg h0, if_pos h1, show m + 8 - 1 = m + 7 by omega]
  simp
theorem pack_hi {m v : Int} {n : Nat} {lo lo' : Bool} {o o' : List Int} (h : o' = o ++ encR m v n lo) (hv : v = m) (h0 : n % 8 ≠ 0) (hlo : lo = lo') (h1 : lo' = false) : (o.map di ++ (List.replicate (n / 8) (m + 8 - 1)).map di) ++ [di (m + 16 - 1 - (n % 8 : Nat))] = o'.map di := by
  subst hlo
  rw [h, encR, if_pos hv, flush, if_neg h0, h1, if_neg (by simp), show m + 8 - 1 = m + 7 by omega, show m + 16 - 1 = m + 15 by omega]
  simp
end Go.AV
namespace Go.Plain
theorem common_idem (c : Int) : common (common c) = common c := by
  have := common_in c
  generalize common c = m at *
  unfold common; rw [if_neg (by omega)]
theorem pk_le (m : Int) (l : List Int) : (pk m l).length ≤ l.length := by
  have h := outR_le m (runsF_ok l) (runsF l).length
  rw [outR_all] at h
  have h1 := unR_len (runsF l)
  rw [unR_runsF] at h1
  have h2 : atR (runsF l) (runsF l).length = ((runsF l).map (·.2)).sum := by unfold atR; rw [List.take_of_length_le (Nat.le_refl _)]
  omega
theorem take_step {l : List Int} {k : Nat} (h : k < l.length) : l.take (k + 1) = l.take k ++ [l.getD k 0] := by
  rw [List.take_add_one, List.getElem?_eq_getElem h]; simp [List.getD, h]
/-! ## Unpack -/
def unpV (m : Int) (l : List Int) : List Int := l.flatMap fun x => List.replicate (exN x m).toNat (exV x m)
def unpR (c : Int) (l : List Int) : List Int × Int :=
  if l.all exOk = true ∧ pk (common c) (plain (unpV (common c) l)) = l then (unpV (common c) l, 0) else ([], 11)
theorem unpV_step {m : Int} {l : List Int} {k : Nat} (h : k < l.length) : unpV m (l.take (k + 1)) = unpV m (l.take k) ++ List.replicate (exN (l.getD k 0) m).toNat (exV (l.getD k 0) m) := by
  rw [take_step h]; simp [unpV]
theorem exN_in {x m : Int} : 0 ≤ exN x m ∧ exN x m ≤ 8 := by
  unfold exN
  split
  · omega
  · split
    · omega
    · split
      · omega
      · split <;> omega
theorem unpV_le (m : Int) (l : List Int) : (unpV m l).length ≤ 8 * l.length := by
  induction l with
  | nil => simp [unpV]
  | cons x l ih =>
    have := exN_in (x := x) (m := m)
    simp [unpV] at ih ⊢; omega
theorem unp_bad1 {c : Int} {l : List Int} {k : Nat} (h : k < l.length) (hb : exOk (l.getD k 0) = false) : unpR c l = ([], 11) := by
  rw [unpR, if_neg]
  rintro ⟨h1, _⟩
  rw [List.all_eq_true] at h1
  have := h1 (l.getD k 0) (by simp [List.getD, h])
  rw [hb] at this; cases this
theorem unp_bad2 {c : Int} {l : List Int} (hb : ¬ pk (common c) (plain (unpV (common c) l)) = l) : unpR c l = ([], 11) := by
  rw [unpR, if_neg]; exact fun h => hb h.2
theorem unp_good {c : Int} {l : List Int} (h : l.all exOk = true) (hb : pk (common c) (plain (unpV (common c) l)) = l) : unpR c l = (unpV (common c) l, 0) := by
  rw [unpR, if_pos ⟨h, hb⟩]
theorem all_step {l : List Int} {k : Nat} {p : Int → Bool} (h : k < l.length) (h1 : (l.take k).all p = true) (h2 : p (l.getD k 0) = true) : (l.take (k + 1)).all p = true := by
  rw [take_step h, List.all_append, h1, Bool.true_and]
  simpa using h2
theorem take_all {l : List Int} {k : Nat} (h : l.length ≤ k) : l.take k = l := List.take_of_length_le h
/-! ## Bytes -/
def vb (x : Int) : List Int :=
  if x < 0 ∨ x ≥ 16777216 then [0] else if x < 64 then [x] else if x < 16384 then [64 + x / 256, x % 256] else [128, x / 65536, x / 256 % 256, x % 256]
def vbs (l : List Int) : List Int := l.flatMap vb
theorem vb_le (x : Int) : (vb x).length ≤ 4 := by
  unfold vb; split
  · simp
  · split
    · simp
    · split <;> simp
theorem vbs_le (l : List Int) : (vbs l).length ≤ 4 * l.length := by
  induction l with
  | nil => simp [vbs]
  | cons x l ih => have := vb_le x; simp [vbs] at ih ⊢; omega
theorem vbs_step {l : List Int} {k : Nat} (h : k < l.length) : vbs (l.take (k + 1)) = vbs (l.take k) ++ vb (l.getD k 0) := by
  rw [take_step h]; simp [vbs]
def b8 (n : Int) : Int := n % 256
theorem vb0 {x : Int} (h : x < 0 ∨ x ≥ 16777216) : vb x = [0].map b8 := by rw [vb, if_pos h]; rfl
theorem vb1 {x : Int} (h : ¬ (x < 0 ∨ x ≥ 16777216)) (h1 : x < 64) : vb x = [x].map b8 := by
  rw [vb, if_neg h, if_pos h1]; simp [b8]; omega
theorem vb2 {x : Int} (h : ¬ (x < 0 ∨ x ≥ 16777216)) (h1 : ¬ x < 64) (h2 : x < 16384) : vb x = [64 + x / 256, x % 256].map b8 := by
  rw [vb, if_neg h, if_neg h1, if_pos h2]; simp [b8]; omega
theorem vb4 {x : Int} (h : ¬ (x < 0 ∨ x ≥ 16777216)) (h1 : ¬ x < 64) (h2 : ¬ x < 16384) : vb x = [128, x / 65536, x / 256 % 256, x % 256].map b8 := by
  rw [vb, if_neg h, if_neg h1, if_neg h2]; simp [b8]; omega
/-! ## The reference's way through a list -/
theorem ref_in {m : Int} {L : List Int} {i k : Nat} (h : i + k < L.length) (hm : L.getD (i + k) 0 = m) (hk : pkc m 0 (L.drop i) = pkc m k (L.drop (i + k))) : pkc m 0 (L.drop i) = pkc m (k + 1) (L.drop (i + (k + 1))) := by
  rw [hk, drop_at h, pkc, if_pos hm, Nat.add_assoc]
theorem ref_run {m : Int} {L o : List Int} {i k : Nat} (ho : o ++ pkc m 0 (L.drop i) = pk m L) (hk : pkc m 0 (L.drop i) = pkc m k (L.drop (i + k))) (hx : i + k < L.length → L.getD (i + k) 0 ≠ m) :
    (o ++ flush m k (low m (L.drop (i + k)))) ++ pkc m 0 (L.drop (i + k)) = pk m L := by
  rw [← ho, hk, List.append_assoc]
  congr 1
  refine (pkc_flush fun x hxh => ?_).symm
  rw [List.head?_drop] at hxh
  obtain ⟨h1, h2⟩ := List.getElem?_eq_some_iff.1 hxh
  have := hx h1
  rw [List.getD_eq_getElem?_getD, hxh] at this
  exact this
theorem low_drop {m : Int} {L : List Int} {j : Nat} : low m (L.drop j) = true ↔ (L.length ≤ j ∨ L.getD j 0 < m) := by
  rcases Nat.lt_or_ge j L.length with h | h
  · rw [drop_at h]; simp only [low, decide_eq_true_eq]; omega
  · rw [List.drop_of_length_le h]; simp [low]; omega
theorem ref_lo {m w : Int} {L o : List Int} {i k : Nat} (ho : o ++ pkc m 0 (L.drop i) = pk m L) (hk : pkc m 0 (L.drop i) = pkc m k (L.drop (i + k))) (hx : i + k < L.length → L.getD (i + k) 0 ≠ m)
    (h0 : k % 8 ≠ 0) (hl : L.length ≤ i + k ∨ L.getD (i + k) 0 < m) (hw : w = m + (k % 8 : Nat) - 1) : ((o ++ List.replicate (k / 8) (m + 7)) ++ [w]) ++ pkc m 0 (L.drop (i + k)) = pk m L := by
  have := ref_run ho hk hx
  rw [low_drop.2 hl, flush, if_neg h0, if_pos rfl, ← List.append_assoc, ← hw] at this
  exact this
theorem ref_hi {m w : Int} {L o : List Int} {i k : Nat} (ho : o ++ pkc m 0 (L.drop i) = pk m L) (hk : pkc m 0 (L.drop i) = pkc m k (L.drop (i + k))) (hx : i + k < L.length → L.getD (i + k) 0 ≠ m)
    (h0 : k % 8 ≠ 0) (hl : ¬ (L.length ≤ i + k ∨ L.getD (i + k) 0 < m)) (hw : w = m + 15 - (k % 8 : Nat)) : ((o ++ List.replicate (k / 8) (m + 7)) ++ [w]) ++ pkc m 0 (L.drop (i + k)) = pk m L := by
  have := ref_run ho hk hx
  have e : low m (L.drop (i + k)) = false := by
    cases h : low m (L.drop (i + k)) with
    | false => rfl
    | true => exact absurd (low_drop.1 h) hl
  rw [e, flush, if_neg h0, if_neg (by simp), ← List.append_assoc, ← hw] at this
  exact this
theorem ref_z {m : Int} {L o : List Int} {i k : Nat} (ho : o ++ pkc m 0 (L.drop i) = pk m L) (hk : pkc m 0 (L.drop i) = pkc m k (L.drop (i + k))) (hx : i + k < L.length → L.getD (i + k) 0 ≠ m)
    (h0 : k % 8 = 0) : (o ++ List.replicate (k / 8) (m + 7)) ++ pkc m 0 (L.drop (i + k)) = pk m L := by
  have := ref_run ho hk hx
  rw [flush, if_pos h0, List.append_nil] at this
  exact this
theorem ref_one {m w : Int} {L o : List Int} {i : Nat} (ho : o ++ pkc m 0 (L.drop i) = pk m L) (h : i < L.length) (hx : L.getD i 0 ≠ m) (hw : w = if L.getD i 0 < m then L.getD i 0 else L.getD i 0 + 14) :
    (o ++ [w]) ++ pkc m 0 (L.drop (i + 1)) = pk m L := by
  rw [← ho, drop_at h, pkc, if_neg hx, flush0, List.nil_append, ← hw, List.append_assoc]; rfl
theorem ref_end {m : Int} {L o : List Int} {i : Nat} (ho : o ++ pkc m 0 (L.drop i) = pk m L) (h : L.length ≤ i) : o = pk m L := by
  rw [List.drop_of_length_le h] at ho
  simpa [pkc, flush0] using ho
end Go.Plain
namespace Go.AV
open Go.Plain
theorem u8w (n : Int) : IntKind.u8.wrap n = b8 n := by
  simp [IntKind.wrap, b8, IntKind.bits, IntKind.signed]
theorem dby_isV (l : List Int) : (l.map dby).all DV.isV = true := by
  rw [List.all_eq_true]; intro x hx
  simp only [List.mem_map] at hx
  obtain ⟨n, _, rfl⟩ := hx
  rfl
theorem add_step {bs ns : List Int} {k : Nat} (h : k < ns.length) : (bs ++ (ns.take k).map b8).map dby ++ [dby (b8 (ns.getD k 0))] = (bs ++ (ns.take (k + 1)).map b8).map dby := by
  rw [take_step h]; simp
theorem add_end {bs ns : List Int} {k : Nat} (h : ns.length ≤ k) : (bs ++ (ns.take k).map b8).map dby = (bs ++ ns.map b8).map dby := by
  rw [take_all h]
end Go.AV
namespace Go.Plain
theorem plain_step {l : List Int} {k : Nat} (h : k < l.length) : plain (l.take (k + 1)) = plain (l.take k) ++ [cl (l.getD k 0)] := by
  rw [take_step h]; simp [plain]
end Go.Plain
namespace Go.Plain
theorem getD_mem {l : List Int} {k : Nat} (h : k < l.length) : l.getD k 0 ∈ l := by simp [List.getD, h]
end Go.Plain

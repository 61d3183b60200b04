/- What the plain counterparts answer. Conditions: none. -/
import Derived.Test.YthcpioecmdfabaaPS4
set_option linter.unusedSimpArgs false
set_option linter.unusedVariables false
set_option linter.unnecessarySimpa false
namespace Go.M
open Go.AV

/-! ## Equality of lists -/
theorem all2_eq {α : Type} [DecidableEq α] {a b : List α} (h : a.length = b.length) (hn : a.length ≤ 9223372036854775806) {body : Int → Option (Stp Int (Unit ⊕ Bool))}
    (hs : ∀ k (h1 : k < a.length) (h2 : k < b.length), body (k : Int) = if a[k] = b[k] then some (.next ((k + 1 : Nat) : Int)) else some (.done (.inr false))) (he : body (a.length : Int) = some (.done (.inl ()))) :
    (loopM body 0).bind (fun (y1 : (Unit) ⊕ (Bool)) => y1.elim (fun _ => some true) (fun y1 => some y1)) = some (decide (a = b)) := by
  have key : ∀ (n k : Nat), k + n = a.length → loopM body (k : Int) = some (if a.drop k = b.drop k then .inl () else .inr false) := by
    intro n
    induction n with
    | zero =>
      intro k hk
      have e : k = a.length := by omega
      rw [loopM_done (by rw [e]; exact he)]
      rw [e, List.drop_length, h, List.drop_length]; rfl
    | succ n ih =>
      intro k hk
      have h1 : k < a.length := by omega
      have h2 : k < b.length := by omega
      rw [List.drop_eq_getElem_cons h1, List.drop_eq_getElem_cons h2]
      by_cases e : a[k] = b[k]
      · rw [loopM_next (by rw [hs k h1 h2, if_pos e]), ih (k + 1) (by omega)]
        simp only [e, List.cons.injEq, true_and]
      · rw [loopM_done (by rw [hs k h1 h2, if_neg e])]
        simp only [e, List.cons.injEq, false_and, if_false]
  have := key a.length 0 (by omega)
  rw [z0] at this
  rw [this, some_bind]
  simp only [List.drop_zero]
  by_cases e : a = b <;> simp [e]

theorem Strings_eq (a b : List Str) (ha : a.length ≤ 1000) : ref09_Strings a b = some (decide (a = b)) := by
  unfold ref09_Strings
  by_cases h : a.length = b.length
  · have h' : decide ((a.length : Int) = (b.length : Int)) = true := by simp [h]
    simp only [h', Bool.not_true, cond_false]
    refine all2_eq h (by omega) ?_ ?_
    · intro k h1 h2
      simp only [ref09_Strings_L0, lt_t h1, cond_true, idx_nat h1, idx_nat h2, some_bind, wi_succ (k := k) (by omega)]
      by_cases e : a[k] = b[k]
      · simp [e]
      · simp only [e, if_false]
        have : (a[k] == b[k]) = false := by simpa using e
        rw [this]; rfl
    · simp only [ref09_Strings_L0, lt_f (Nat.le_refl _), cond_false]
  · have h' : decide ((a.length : Int) = (b.length : Int)) = false := by simp; omega
    have : ¬ a = b := fun e => h (by rw [e])
    simp [h', this]

theorem SameRanges_eq (a b : List Range) (ha : a.length ≤ 1000) : ref30_SameRanges a b = some (decide (a = b)) := by
  unfold ref30_SameRanges
  by_cases h : a.length = b.length
  · have h' : decide ((a.length : Int) = (b.length : Int)) = true := by simp [h]
    simp only [h', Bool.not_true, cond_false]
    refine all2_eq h (by omega) ?_ ?_
    · intro k h1 h2
      simp only [ref30_SameRanges_L0, lt_t h1, cond_true, idx_nat h1, idx_nat h2, some_bind, wi_succ (k := k) (by omega)]
      by_cases e : a[k] = b[k] <;> simp [e]
    · simp only [ref30_SameRanges_L0, lt_f (Nat.le_refl _), cond_false]
  · have h' : decide ((a.length : Int) = (b.length : Int)) = false := by simp; omega
    have : ¬ a = b := fun e => h (by rw [e])
    simp [h', this]

/-! ## The resolved scripts -/
def firstR : List Str → Str
  | [] => []
  | x :: xs => if x = [] then firstR xs else x
def carry : Str → List Str → List Str
  | _, [] => []
  | c, x :: xs => (if x = [] then c else x) :: carry (if x = [] then c else x) xs
theorem carry_len : ∀ (rs : List Str) (c : Str), (carry c rs).length = rs.length := by
  intro rs
  induction rs with
  | nil => intro c; rfl
  | cons x xs ih => intro c; simp [carry, ih]
def resS (rs : List Str) : List Str := carry (firstR rs) rs
theorem resS_len (rs : List Str) : (resS rs).length = rs.length := carry_len _ _

theorem first_loop (rs : List Str) (hl : rs.length ≤ 1000) : loopM (fun (x : Int) => scripts_resolved_L0 rs x) 0 = some (firstR rs) := by
  have h := loop_list0 (B := Unit) rs (fun k _ => (k : Int)) (body := fun (i : Int) => scripts_resolved_L0 rs i)
    (fun _ y _ => if y = [] then some (.next ()) else some (.done y)) (fun _ => []) ?_ ?_ ()
  · rw [z0] at h
    rw [h]
    clear h hl
    generalize 0 = k
    induction rs generalizing k with
    | nil => rfl
    | cons x xs ih =>
      simp only [runL, firstR]
      by_cases e : x = []
      · simp only [e, if_true]; exact ih (k + 1)
      · simp [e]
  · intro k _ hk
    simp only [scripts_resolved_L0, lt_t hk, cond_true, idx_nat hk, some_bind, wi_succ (k := k) (by omega)]
    by_cases e : rs[k] = []
    · simp [e]
    · have : (rs[k] == []) = false := by simpa using e
      simp [e, this]
  · intro _
    simp only [scripts_resolved_L0, lt_f (Nat.le_refl _), cond_false]

theorem carry_loop (t : List Str) (ht : t.length ≤ 1000) : ∀ (n k : Nat) (c : Str) (r : List Str), k + n = t.length → r.length = t.length →
    loopM (fun (x : Str × Int × (List Str)) => scripts_resolved_L1 t x.1 x.2.1 x.2.2) (c, (k : Int), r) = some (r.take k ++ carry c (r.drop k)) := by
  intro n
  induction n with
  | zero =>
    intro k c r hk hr
    have e : k = t.length := by omega
    rw [loopM_done (y := r) (by subst e; simp only [scripts_resolved_L1, lt_f (Nat.le_refl _), cond_false])]
    rw [e, ← hr, List.drop_length, List.take_length]; simp [carry]
  | succ n ih =>
    intro k c r hk hr
    have hkt : k < t.length := by omega
    have hkr : k < r.length := by omega
    rw [List.drop_eq_getElem_cons hkr]
    simp only [carry]
    generalize hc' : (if r[k] = [] then c else r[k]) = c'
    rw [loopM_next (x' := (c', ((k + 1 : Nat) : Int), r.set k c')) (by
      have : (cond (!(r[k] == [])) (some r[k]) (some c)) = some c' := by
        rw [← hc']
        by_cases e : r[k] = []
        · simp [e]
        · have e' : (r[k] == []) = false := by simpa using e
          simp [e, e']
      simp only [scripts_resolved_L1, lt_t hkt, cond_true, idx_nat hkr, some_bind, wi_succ (k := k) (by omega), setM_nat hkr, this])]
    rw [ih (k + 1) c' _ (by omega) (by simp [hr])]
    rw [List.take_add_one, List.take_set_of_le (Nat.le_refl _), List.getElem?_set_self hkr, List.drop_set_of_lt (by omega)]
    simp

theorem resolved_eq (p : Property) (hp : Sm p) (t : List Int) (ht : t.length ≤ 500) : scripts_resolved p t = some (resS (t.map (realOf p))) := by
  unfold scripts_resolved
  rw [realScripts_eq p hp t (by omega), some_bind]
  have hl : (t.map (realOf p)).length ≤ 1000 := by simp; omega
  generalize t.map (realOf p) = rs at hl
  rw [first_loop rs hl, some_bind]
  have := carry_loop rs hl rs.length 0 (firstR rs) rs (by omega) rfl
  rw [z0] at this
  rw [this, some_bind]
  simp [resS]

/-! ## The reference's script at a place -/
theorem carry_get : ∀ (rs : List Str) (c : Str) (i : Nat) (h : i < rs.length), (carry c rs)[i]? = some (if rs[i] = [] then (if i = 0 then c else ((carry c rs)[i - 1]?).getD []) else rs[i]) := by
  intro rs
  induction rs with
  | nil => intro c i h; simp at h
  | cons x xs ih =>
    intro c i h
    cases i with
    | zero => simp [carry]
    | succ i =>
      have hi : i < xs.length := by simpa using h
      simp only [carry, List.getElem?_cons_succ, List.getElem_cons_succ]
      rw [ih _ i hi]
      cases i with
      | zero => simp
      | succ i => simp

/-- Nothing real up to i. -/
theorem carry_none : ∀ (rs : List Str) (c : Str) (i : Nat), i < rs.length → (∀ j (h : j < rs.length), j ≤ i → rs[j] = []) → (carry c rs)[i]? = some c := by
  intro rs c i
  induction i with
  | zero => intro h hn; rw [carry_get rs c 0 h, hn 0 h (by omega)]; simp
  | succ i ih =>
    intro h hn
    rw [carry_get rs c (i + 1) h, hn (i + 1) h (by omega)]
    simp [ih (by omega) (fun j hj hji => hn j hj (by omega))]

theorem firstR_drop : ∀ (rs : List Str) (i : Nat), (∀ j (h : j < rs.length), j < i → rs[j] = []) → firstR rs = firstR (rs.drop i) := by
  intro rs
  induction rs with
  | nil => intro i _; simp
  | cons x xs ih =>
    intro i h
    cases i with
    | zero => rfl
    | succ i =>
      have hx := h 0 (by simp) (by omega)
      simp only [List.getElem_cons_zero] at hx
      simp only [firstR, hx, if_true, List.drop_succ_cons]
      exact ih i (fun j hj hji => by have := h (j + 1) (by simpa using hj) (by omega); simpa using this)

theorem Script_eq (p : Property) (hp : Sm p) (t : List Int) (ht : t.length ≤ 500) {i : Nat} (hi : i < t.length) : ref40_Script p t (i : Int) = some ((resS (t.map (realOf p)))[i]?.getD []) := by
  have hrl : (t.map (realOf p)).length = t.length := by simp
  generalize hrs : t.map (realOf p) = rs at hrl
  have hri : ∀ j (h : j < t.length), rs[j]'(by omega) = realOf p t[j] := by intro j h; subst hrs; simp
  -- backwards
  have back : ∀ (k : Nat), k < t.length → loopM (fun (x : Int) => ref40_Script_L0 t p x) (k : Int) = some (if ∀ j, j ≤ k → rs[j]?.getD [] = [] then .inl () else .inr ((resS rs)[k]?.getD [])) := by
    intro k
    induction k with
    | zero =>
      intro hk
      cases hr : isReal (nameOf p t[0]) with
      | false =>
        have hz := (realOf_nil p t[0]).2 hr
        rw [loopM_next (x' := -1) (by
          have := idx_nat hk
          rw [z0] at this ⊢
          simp only [ref40_Script_L0, this, some_bind, RName_eq p hp, Real_eq, hr]
          rfl)]
        rw [loopM_done (y := .inl ()) rfl]
        rw [if_pos]
        intro j hj
        have : j = 0 := by omega
        subst this
        simp [List.getElem?_eq_getElem (show 0 < rs.length by omega), hri 0 hk, hz]
      | true =>
        have hz := realOf_eq hr
        have hne : nameOf p t[0] ≠ [] := isNm_ne (idx_name p t[0]).2
        rw [loopM_done (y := .inr (nameOf p t[0])) (by
          have := idx_nat hk
          rw [z0] at this ⊢
          simp only [ref40_Script_L0, this, some_bind, RName_eq p hp, Real_eq, hr]
          rfl)]
        have h0 : rs[0]'(by omega) = nameOf p t[0] := by rw [hri 0 hk, hz]
        rw [if_neg]
        · unfold resS
          rw [carry_get rs _ 0 (by omega), h0]; simp [hne]
        · intro h
          have := h 0 (by omega)
          simp [List.getElem?_eq_getElem (show 0 < rs.length by omega), h0] at this
          exact hne this
    | succ k ih =>
      intro hk
      have h0 : decide (0 ≤ ((k + 1 : Nat) : Int)) = true := by simp; omega
      cases hr : isReal (nameOf p t[k + 1]) with
      | false =>
        have hz := (realOf_nil p t[k + 1]).2 hr
        rw [loopM_next (x' := (k : Int)) (by simp only [ref40_Script_L0, h0, cond_true, idx_nat hk, some_bind, RName_eq p hp, Real_eq, hr, cond_false, wi_pred (k := k) (by omega)])]
        rw [ih (by omega)]
        have hzz : rs[k + 1]'(by omega) = [] := by rw [hri (k + 1) hk, hz]
        by_cases hall : ∀ j, j ≤ k → rs[j]?.getD [] = []
        · rw [if_pos hall, if_pos]
          intro j hj
          by_cases e : j = k + 1
          · subst e; simp [List.getElem?_eq_getElem (show k + 1 < rs.length by omega), hzz]
          · exact hall j (by omega)
        · rw [if_neg hall, if_neg (fun h => hall (fun j hj => h j (by omega)))]
          congr 2
          unfold resS
          rw [carry_get rs _ (k + 1) (by omega), hzz]
          simp
      | true =>
        have hz := realOf_eq hr
        have hne : nameOf p t[k + 1] ≠ [] := isNm_ne (idx_name p t[k + 1]).2
        rw [loopM_done (y := .inr (nameOf p t[k + 1])) (by simp only [ref40_Script_L0, h0, cond_true, idx_nat hk, some_bind, RName_eq p hp, Real_eq, hr])]
        have h0 : rs[k + 1]'(by omega) = nameOf p t[k + 1] := by rw [hri (k + 1) hk, hz]
        rw [if_neg]
        · unfold resS
          rw [carry_get rs _ (k + 1) (by omega), h0]; simp [hne]
        · intro h
          have := h (k + 1) (by omega)
          simp [List.getElem?_eq_getElem (show k + 1 < rs.length by omega), h0] at this
          exact hne this
  have fwd : ∀ (n k : Nat), k + n = t.length → (loopM (fun (x : Int) => ref40_Script_L1 t p x) (k : Int)).bind (fun (y2 : (Unit) ⊕ (Str)) => y2.elim (fun y2 => some []) (fun y2 => some y2)) = some (firstR (rs.drop k)) := by
    intro n
    induction n with
    | zero =>
      intro k hk
      rw [loopM_done (y := .inl ()) (by simp only [ref40_Script_L1, lt_f (n := t.length) (k := k) (by omega), cond_false])]
      rw [List.drop_eq_nil_of_le (by omega)]; rfl
    | succ n ih =>
      intro k hk
      have hkt : k < t.length := by omega
      rw [List.drop_eq_getElem_cons (show k < rs.length by omega)]
      cases hr : isReal (nameOf p t[k]) with
      | false =>
        have hz := (realOf_nil p t[k]).2 hr
        rw [loopM_next (x' := ((k + 1 : Nat) : Int)) (by simp only [ref40_Script_L1, lt_t hkt, cond_true, idx_nat hkt, some_bind, RName_eq p hp, Real_eq, hr, cond_false, wi_succ (k := k) (by omega)])]
        rw [ih (k + 1) (by omega)]
        simp [firstR, hri k hkt, hz]
      | true =>
        have hz := realOf_eq hr
        have hne : nameOf p t[k] ≠ [] := isNm_ne (idx_name p t[k]).2
        rw [loopM_done (y := .inr (nameOf p t[k])) (by simp only [ref40_Script_L1, lt_t hkt, cond_true, idx_nat hkt, some_bind, RName_eq p hp, Real_eq, hr])]
        simp [firstR, hri k hkt, hz, hne]
  unfold ref40_Script
  rw [back i hi, some_bind]
  by_cases hall : ∀ j, j ≤ i → rs[j]?.getD [] = []
  · rw [if_pos hall]
    have hall' : ∀ j (h : j < rs.length), j ≤ i → rs[j] = [] := by
      intro j h hj
      have := hall j hj
      simpa [List.getElem?_eq_getElem h] using this
    simp only [Sum.elim_inl, wi_succ (k := i) (by omega), fwd (t.length - (i + 1)) (i + 1) (by omega)]
    unfold resS
    rw [carry_none rs _ i (by omega) hall', firstR_drop rs (i + 1) (fun j h hj => hall' j h (by omega))]
    rfl
  · rw [if_neg hall]; rfl
end Go.M

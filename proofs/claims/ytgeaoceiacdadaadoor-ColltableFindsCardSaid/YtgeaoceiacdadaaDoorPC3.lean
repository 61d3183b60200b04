/- What the plain counterparts answer. Conditions: none. -/
import Derived.Test.YtgeaoceiacdadaaDoorPC2
set_option linter.unusedSimpArgs false
set_option linter.unusedVariables false
set_option linter.unnecessarySimpa false
namespace Go.M
open Go.AV

/-- What a small collation is. -/
structure Sm (c : Collation) : Prop where
  en : c.Entries.length ≤ 12
  gr : c.Groups.length ≤ 8
  co : ∀ x ∈ c.Entries, x.Codes.length ≤ 10
  el : ∀ x ∈ c.Entries, x.Elements.length ≤ 20

def smB (c : Collation) : Bool := if 12 < c.Entries.length ∨ 8 < c.Groups.length then false else match chk (fun _ (x : Entry) => if 10 < x.Codes.length ∨ 20 < x.Elements.length then some false else none) c.Entries 0 with
  | some y => y
  | none => true
theorem chk_none {A Y : Type} {p : Nat → A → Option Y} : ∀ {l : List A} {k : Nat}, chk p l k = none → ∀ j (h : j < l.length), p (k + j) l[j] = none
  | [], _, _, j, h => by simp at h
  | x :: xs, k, hc, j, h => by
    simp only [chk] at hc
    cases hp : p k x with
    | some y => rw [hp] at hc; cases hc
    | none =>
      rw [hp] at hc
      cases j with
      | zero => simpa using hp
      | succ j =>
        have := chk_none hc j (by simp at h; omega)
        rw [show k + 1 + j = k + (j + 1) by omega] at this
        simpa using this
theorem chk_prop {A Y : Type} {p : Nat → A → Option Y} {P : Y → Prop} (hp : ∀ k x y, p k x = some y → P y) : ∀ {l : List A} {k : Nat} {y : Y}, chk p l k = some y → P y
  | [], _, _, h => by cases h
  | x :: xs, k, y, h => by
    simp only [chk] at h
    cases hq : p k x with
    | some y' => rw [hq] at h; cases h; exact hp _ _ _ hq
    | none => rw [hq] at h; exact chk_prop hp h
theorem small_eq (c : Collation) : ref43_Small c = some (smB c) := by
  unfold ref43_Small smB
  simp only [pv_bind]
  by_cases hz : 12 < c.Entries.length ∨ 8 < c.Groups.length
  · have : (decide (12 < (c.Entries.length : Int)) || decide (8 < (c.Groups.length : Int))) = true := by simp only [Bool.or_eq_true, decide_eq_true_eq]; omega
    simp only [this, cond_true, hz, if_true]
  · have h0 : (decide (12 < (c.Entries.length : Int)) || decide (8 < (c.Groups.length : Int))) = false := by simp only [Bool.or_eq_false_iff, decide_eq_false_iff_not]; omega
    have hl : loopM (fun (v : Int) => ref43_Small_L0 c v) 0 = some (toS (chk (fun _ (x : Entry) => if 10 < x.Codes.length ∨ 20 < x.Elements.length then some false else none) c.Entries 0)) := by
      refine loop_chk0 c.Entries _ (fun k h => ?_) (fun k h => ?_)
      · simp only [ref43_Small_L0, lt_t h, cond_true, idx_nat h, some_bind, pv_bind, wi_succ (k := k) (by omega)]
        by_cases h1 : 10 < (c.Entries[k]).Codes.length
        · have h1' : (10 : Int) < (c.Entries[k]).Codes.length := by omega
          simp [h1, h1', gM_f, some_bind, stp]
        · have h1' : ¬ (10 : Int) < (c.Entries[k]).Codes.length := by omega
          by_cases h2 : 20 < (c.Entries[k]).Elements.length
          · have h2' : (20 : Int) < (c.Entries[k]).Elements.length := by omega
            simp [h1, h1', h2, h2', gM_t, some_bind, stp]
          · have h2' : ¬ (20 : Int) < (c.Entries[k]).Elements.length := by omega
            simp [h1, h1', h2, h2', gM_t, some_bind, stp]
      · simp only [ref43_Small_L0, lt_f h, cond_false]
    simp only [h0, cond_false, hz, if_false]
    rw [hl, some_bind, toS_elim]
    cases chk (fun _ (x : Entry) => if 10 < x.Codes.length ∨ 20 < x.Elements.length then some false else none) c.Entries 0 <;> rfl
theorem smB_sm {c : Collation} (h : smB c = true) : Sm c := by
  unfold smB at h
  split at h
  · cases h
  · rename_i hz
    cases hc : chk (fun _ (x : Entry) => if 10 < x.Codes.length ∨ 20 < x.Elements.length then some false else none) c.Entries 0 with
    | some y =>
      exfalso
      rw [hc] at h
      have h' : y = true := h
      subst h'
      have := chk_prop (P := fun y => y = false) (fun k x y hy => by
        split at hy
        · cases hy; rfl
        · cases hy) hc
      cases this
    | none =>
      have hn := chk_none hc
      have hq : ∀ x ∈ c.Entries, ¬ (10 < x.Codes.length ∨ 20 < x.Elements.length) := by
        intro x hx
        obtain ⟨j, hj, rfl⟩ := List.getElem_of_mem hx
        have this : (if 10 < (c.Entries[j]).Codes.length ∨ 20 < (c.Entries[j]).Elements.length then some false else none) = none := hn j hj
        split at this
        · cases this
        · assumption
      exact ⟨by omega, by omega, fun x hx => by have := hq x hx; omega, fun x hx => by have := hq x hx; omega⟩

/-! ## Check -/
def pK (c : Collation) (k : Nat) (x : Entry) : Option Int :=
  if enE x c.Base ≠ 0 then some (enE x c.Base) else if 0 < k ∧ 0 ≤ cmpE (c.Entries.getD (k - 1) default).Codes x.Codes then some 4 else none
def wOk (w : Int) : Bool := decide (1 ≤ w) && decide (w ≤ 65535)
def ckE (c : Collation) : Int :=
  if c.Base < 1 ∨ 65502 < c.Base ∨ wOk c.Second = false ∨ wOk c.Third = false then 1
  else if grpE c ≠ 0 then grpE c
  else match chk (pK c) c.Entries 0 with
    | some y => y
    | none => 0
section
variable {c : Collation} (hs : Sm c) (hn : ∀ g ∈ c.Groups, g.Name.length ≤ MX)
include hs
theorem kL0 : loopM (fun (v : Int) => colltable_Check_L0 c v) 0 = some (toS (chk (pK c) c.Entries 0)) := by
  refine loop_chk0 c.Entries _ (fun k h => ?_) (fun k h => ?_)
  · have hx := List.getElem_mem h
    have h12 := hs.en
    simp only [colltable_Check_L0, lt_t h, cond_true, idx_nat h, some_bind, pv_bind, entry_eq (Nat.le_trans (hs.co _ hx) (by omega)) (Nat.le_trans (hs.el _ hx) (by omega)), wi_succ (k := k) (by omega), pK]
    by_cases he : enE c.Entries[k] c.Base = 0
    · simp only [he, decide_true, Bool.not_true, cond_false, ne_eq, not_true, if_false]
      cases k with
      | zero => simp [gM_f, some_bind, stp]
      | succ k =>
        have hk : k < c.Entries.length := by omega
        have e1 : wi (((k + 1 : Nat) : Int) - 1) = (k : Int) := wi_pred (by omega)
        have e2 : decide ((0 : Int) < ((k + 1 : Nat) : Int)) = true := by simp
        have e3 : c.Entries.getD (k + 1 - 1) default = c.Entries[k] := by simp [hk]
        rw [e2, gM_t, e1, idx_nat hk, some_bind, gM_t, compare_eq (Nat.le_trans (hs.co _ (List.getElem_mem hk)) (by omega)), some_bind, e3]
        by_cases hq : 0 ≤ cmpE (c.Entries[k]).Codes (c.Entries[k + 1]).Codes <;> simp [hq, stp]
    · simp [he, stp]
  · simp only [colltable_Check_L0, lt_f h, cond_false]
theorem rentry_eq {k : Nat} (h : k < c.Entries.length) : ref43_entry c (k : Int) = some (match pK c k c.Entries[k] with | some y => y | none => 0) := by
  have hx := List.getElem_mem h
  have h12 := hs.en
  have hc := Nat.le_trans (hs.co _ hx) (by omega : 10 ≤ 1000)
  have he := Nat.le_trans (hs.el _ hx) (by omega : 20 ≤ 1000)
  unfold ref43_entry
  simp only [idx_nat h, some_bind, pv_bind, szc, e0_eq, e2_eq]
  unfold pK enE
  by_cases hz : (c.Entries[k]).Codes.length < 1 ∨ 8 < (c.Entries[k]).Codes.length ∨ 16 < (c.Entries[k]).Elements.length
  · simp only [hz, decide_true, cond_true, if_true]
    rfl
  · simp only [hz, decide_false, cond_false, if_false]
    rw [eL0 hc, some_bind, toS_elim]
    cases h1 : chk pV (c.Entries[k]).Codes 0 with
    | some y =>
      have hy : y ≠ 0 := chk_prop (P := fun y => y ≠ 0) (fun k x y hy => by
            unfold pV at hy
            split at hy
            · first | (cases hy; done) | (cases hy; decide) | (cases hy; assumption)
            · first | (cases hy; done) | (cases hy; decide) | (cases hy; assumption)) h1
      simp [hy]
    | none =>
      simp only []
      rw [reL1 he, some_bind, toS_elim]
      cases h2 : chk pE (c.Entries[k]).Elements 0 with
      | some y =>
        have hy : y ≠ 0 := chk_prop (P := fun y => y ≠ 0) (fun k x y hy => by
            unfold pE at hy
            split at hy
            · first | (cases hy; done) | (cases hy; decide) | (cases hy; assumption)
            · first | (cases hy; done) | (cases hy; decide) | (cases hy; assumption)) h2
        simp [hy]
      | none =>
        simp only []
        rw [eL2 he, some_bind, toS_elim]
        cases h3 : chk (pP c.Base) (c.Entries[k]).Elements 0 with
        | some y =>
          have hy : y ≠ 0 := chk_prop (P := fun y => y ≠ 0) (fun k x y hy => by
            unfold pP at hy
            split at hy
            · first | (cases hy; done) | (cases hy; decide) | (cases hy; assumption)
            · first | (cases hy; done) | (cases hy; decide) | (cases hy; assumption)) h3
          simp [hy]
        | none =>
          simp only [ne_eq, not_true, if_false]
          cases k with
          | zero => simp [gM_f, some_bind]
          | succ k =>
            have hk : k < c.Entries.length := by omega
            have e1 : wi (((k + 1 : Nat) : Int) - 1) = (k : Int) := wi_pred (by omega)
            have e2 : decide ((0 : Int) < ((k + 1 : Nat) : Int)) = true := by simp
            have e3 : c.Entries.getD (k + 1 - 1) default = c.Entries[k] := by simp [hk]
            rw [e2, gM_t, e1, idx_nat hk, some_bind, gM_t, refcompare_eq (Nat.le_trans (hs.co _ (List.getElem_mem hk)) (by omega)), some_bind, e3]
            by_cases hq : 0 ≤ cmpE (c.Entries[k]).Codes (c.Entries[k + 1]).Codes <;> simp [hq]
theorem rkL0 : loopM (fun (v : Int) => ref43_Check_L0 c v) 0 = some (toS (chk (pK c) c.Entries 0)) := by
  refine loop_chk0 c.Entries _ (fun k h => ?_) (fun k h => ?_)
  · have h12 := hs.en
    simp only [ref43_Check_L0, lt_t h, cond_true, rentry_eq hs h, some_bind, wi_succ (k := k) (by omega)]
    have hnz : ∀ y, pK c k c.Entries[k] = some y → y ≠ 0 := by
      intro y hy
      unfold pK at hy
      split at hy
      · cases hy; assumption
      · split at hy
        · cases hy; decide
        · cases hy
    cases hp : pK c k c.Entries[k] with
    | some y => simp [hnz y hp, stp]
    | none => simp [stp]
  · simp only [ref43_Check_L0, lt_f h, cond_false]
omit hs in
theorem isW (w : Int) : colltable_isWeight w = some (wOk w) := rfl
omit hs in
theorem refW (w : Int) : ref43_weight w = some (wOk w) := rfl
include hn in
theorem check_eq : colltable_Check c = some (ckE c) := by
  unfold colltable_Check ckE
  simp only [pv_bind, isW]
  by_cases h1 : c.Base < 1
  · simp [h1, gM_f, some_bind]
  · by_cases h2 : 65502 < c.Base
    · simp [h1, h2, gM_f, some_bind]
    · by_cases h3 : wOk c.Second = false
      · simp [h1, h2, h3, gM_t, gM_f, some_bind]
      · by_cases h4 : wOk c.Third = false
        · simp [h1, h2, h3, h4, gM_t, some_bind]
        · simp only [Bool.not_eq_false] at h3 h4
          simp only [h1, h2, h3, h4, decide_false, Bool.or_self, Bool.not_false, gM_t, some_bind, Bool.not_true, cond_false, or_self, Bool.true_eq_false, if_false]
          rw [groups_eq (Nat.le_trans hs.gr (by omega)) hn, some_bind]
          by_cases hz : grpE c = 0
          · simp only [hz, decide_true, Bool.not_true, cond_false, ne_eq, not_true, if_false]
            rw [kL0 hs, some_bind, toS_elim]
            cases chk (pK c) c.Entries 0 <;> rfl
          · simp [hz]
include hn in
theorem refcheck_eq : ref43_Check c = some (ckE c) := by
  unfold ref43_Check ckE
  simp only [pv_bind, refW]
  by_cases h1 : c.Base < 1
  · simp [h1, gM_f, some_bind]
  · by_cases h2 : 65502 < c.Base
    · simp [h1, h2, gM_f, some_bind]
    · by_cases h3 : wOk c.Second = false
      · simp [h1, h2, h3, gM_t, gM_f, some_bind]
      · by_cases h4 : wOk c.Third = false
        · simp [h1, h2, h3, h4, gM_t, some_bind]
        · simp only [Bool.not_eq_false] at h3 h4
          simp only [h1, h2, h3, h4, decide_false, Bool.or_self, Bool.not_false, gM_t, some_bind, Bool.not_true, cond_false, or_self, Bool.true_eq_false, if_false]
          rw [refgroups_eq (Nat.le_trans hs.gr (by omega)) hn, some_bind]
          by_cases hz : grpE c = 0
          · simp only [hz, decide_true, Bool.not_true, cond_false, ne_eq, not_true, if_false]
            rw [rkL0 hs, some_bind, toS_elim]
            cases chk (pK c) c.Entries 0 <;> rfl
          · simp [hz]
end
theorem okNames {c : Collation} (h : okCollation c) : ∀ g ∈ c.Groups, g.Name.length ≤ MX := fun g hg => (h.2.1.2 g hg).1

theorem law43_ColltableChecks_true (c : Collation) (ok : okCollation c) : law43_ColltableChecks c = some true := by
  unfold law43_ColltableChecks
  rw [small_eq, some_bind, pv_bind]
  cases hs : smB c with
  | false => simp [gM_f, some_bind, pv_bind, alive43, gM_t]
  | true =>
    have hsm := smB_sm hs
    have hn := okNames ok
    simp [gM_t, check_eq hsm hn, refcheck_eq hsm hn, some_bind, pv_bind, alive43]
end Go.M

/- What the plain counterparts answer. Conditions: none. -/
import Derived.Test.YtgeaoceiacdadaaDoorPC1
set_option linter.unusedSimpArgs false
set_option linter.unusedVariables false
set_option linter.unnecessarySimpa false
namespace Go.M
open Go.AV

/-! ## Elements, entries -/
def elE (e : Element) : Int :=
  if (e.Primary < 0 ∨ 65535 < e.Primary) ∨ (e.Secondary < 0 ∨ 65535 < e.Secondary) ∨ (e.Tertiary < 0 ∨ 65535 < e.Tertiary) then 1
  else if (e.Primary ≠ 0 ∧ (e.Secondary = 0 ∨ e.Tertiary = 0)) ∨ (e.Secondary ≠ 0 ∧ e.Tertiary = 0) ∨ (e.Variable = true ∧ e.Primary = 0) then 11 else 0
theorem elem_eq (e : Element) : element_Check e = some (elE e) := by
  have hl : loopM (fun (x : Int) => element_Check_L0 e x) 0 = some (toS (chk (fun _ (w : Int) => if w < 0 ∨ 65535 < w then some 1 else none) [e.Primary, e.Secondary, e.Tertiary] 0)) := by
    refine loop_chk0 [e.Primary, e.Secondary, e.Tertiary] _ (fun k h => ?_) (fun k h => ?_)
    · have h3 : decide ((k : Int) < 3) = true := by simp at h ⊢; omega
      simp only [element_Check_L0, h3, cond_true, idx_nat h, some_bind, pv_bind, wi_succ (k := k) (by simp at h; omega)]
      by_cases h1 : [e.Primary, e.Secondary, e.Tertiary][k] < 0 <;> by_cases h2 : 65535 < [e.Primary, e.Secondary, e.Tertiary][k] <;> simp [h1, h2, stp]
    · have h3 : decide ((k : Int) < 3) = false := by simp at h ⊢; omega
      simp only [element_Check_L0, h3, cond_false]
  unfold element_Check elE
  rw [hl, some_bind, toS_elim]
  simp only [chk]
  by_cases h1 : e.Primary < 0 ∨ 65535 < e.Primary
  · simp [h1]
  · by_cases h2 : e.Secondary < 0 ∨ 65535 < e.Secondary
    · simp [h1, h2]
    · by_cases h3 : e.Tertiary < 0 ∨ 65535 < e.Tertiary
      · simp [h1, h2, h3]
      · simp only [h1, h2, h3, if_false, or_self, pv_bind]
        by_cases a : e.Primary = 0 <;> by_cases b : e.Secondary = 0 <;> by_cases c : e.Tertiary = 0 <;> cases e.Variable <;> simp [a, b, c]
theorem refelem_eq (e : Element) : ref42_Check e = some (elE e) := by
  unfold ref42_Check elE ref42_weight
  simp only [pv_bind, some_bind]
  by_cases a1 : 0 ≤ e.Primary
  · by_cases a2 : e.Primary ≤ 65535
    · by_cases b1 : 0 ≤ e.Secondary
      · by_cases b2 : e.Secondary ≤ 65535
        · by_cases c1 : 0 ≤ e.Tertiary
          · by_cases c2 : e.Tertiary ≤ 65535
            · have n1 : ¬ (e.Primary < 0 ∨ 65535 < e.Primary) := by omega
              have n2 : ¬ (e.Secondary < 0 ∨ 65535 < e.Secondary) := by omega
              have n3 : ¬ (e.Tertiary < 0 ∨ 65535 < e.Tertiary) := by omega
              simp only [a1, a2, b1, b2, c1, c2, n1, n2, n3, decide_true, Bool.and_self, Bool.not_true, Bool.not_false, gM_t, some_bind, Bool.or_self, cond_false, or_self, if_false]
              by_cases a : e.Primary = 0 <;> by_cases b : e.Secondary = 0 <;> by_cases c : e.Tertiary = 0 <;> cases e.Variable <;> simp [a, b, c]
            · have : (65535 : Int) < e.Tertiary := by omega
              simp [a1, a2, b1, b2, c1, c2, gM_t, some_bind, this]
          · have : e.Tertiary < 0 := by omega
            simp [a1, a2, b1, b2, c1, gM_t, some_bind, this]
        · have : (65535 : Int) < e.Secondary := by omega
          simp [a1, a2, b1, b2, gM_t, gM_f, some_bind, this]
      · have : e.Secondary < 0 := by omega
        simp [a1, a2, b1, gM_t, gM_f, some_bind, this]
    · have : (65535 : Int) < e.Primary := by omega
      simp [a1, a2, gM_t, gM_f, some_bind, this]
  · have : e.Primary < 0 := by omega
    simp [a1, gM_t, gM_f, some_bind, this]

def vld (c : Int) : Bool := decide (0 ≤ c) && decide (c ≤ 1114111)
theorem valid_eq (c : Int) : codepoint_Valid c = some (vld c) := rfl
theorem refvalid_eq (c : Int) : ref01_Valid c = some (vld c) := rfl
def pV (_ : Nat) (c : Int) : Option Int := if vld c then none else some 1
def pE (_ : Nat) (e : Element) : Option Int := if elE e = 0 then none else some (elE e)
def pP (b : Int) (_ : Nat) (e : Element) : Option Int := if b ≤ e.Primary then some 1 else none
def enE (x : Entry) (b : Int) : Int :=
  if x.Codes.length < 1 ∨ 8 < x.Codes.length ∨ 16 < x.Elements.length then 2
  else match chk pV x.Codes 0 with
    | some y => y
    | none => match chk pE x.Elements 0 with
      | some y => y
      | none => match chk (pP b) x.Elements 0 with
        | some y => y
        | none => 0
section
variable {x : Entry} (hc : x.Codes.length ≤ 1000) (he : x.Elements.length ≤ 1000)
include hc in
theorem eL0 : loopM (fun (v : Int) => colltable_checkEntry_L0 x v) 0 = some (toS (chk pV x.Codes 0)) := by
  refine loop_chk0 x.Codes _ (fun k h => ?_) (fun k h => ?_)
  · simp only [colltable_checkEntry_L0, lt_t h, cond_true, idx_nat h, some_bind, valid_eq, wi_succ (k := k) (by omega), pV]
    cases vld x.Codes[k] <;> rfl
  · simp only [colltable_checkEntry_L0, lt_f h, cond_false]
include he in
theorem eL1 : loopM (fun (v : Int) => colltable_checkEntry_L1 x v) 0 = some (toS (chk pE x.Elements 0)) := by
  refine loop_chk0 x.Elements _ (fun k h => ?_) (fun k h => ?_)
  · simp only [colltable_checkEntry_L1, lt_t h, cond_true, idx_nat h, some_bind, elem_eq, wi_succ (k := k) (by omega), pE]
    by_cases hq : elE x.Elements[k] = 0 <;> simp [hq, stp]
  · simp only [colltable_checkEntry_L1, lt_f h, cond_false]
include he in
theorem eL2 (b : Int) : loopM (fun (v : Int) => colltable_checkEntry_L2 x b v) 0 = some (toS (chk (pP b) x.Elements 0)) := by
  refine loop_chk0 x.Elements _ (fun k h => ?_) (fun k h => ?_)
  · simp only [colltable_checkEntry_L2, lt_t h, cond_true, idx_nat h, some_bind, wi_succ (k := k) (by omega), pP]
    by_cases hq : b ≤ (x.Elements[k]).Primary <;> simp [hq, stp]
  · simp only [colltable_checkEntry_L2, lt_f h, cond_false]
theorem e0_eq : ref43_entry_L0 = colltable_checkEntry_L0 := rfl
theorem e2_eq (c : Collation) : (fun v => ref43_entry_L2 x c v) = fun v => colltable_checkEntry_L2 x c.Base v := rfl
include he in
theorem reL1 : loopM (fun (v : Int) => ref43_entry_L1 x v) 0 = some (toS (chk pE x.Elements 0)) := by
  refine loop_chk0 x.Elements _ (fun k h => ?_) (fun k h => ?_)
  · simp only [ref43_entry_L1, lt_t h, cond_true, idx_nat h, some_bind, refelem_eq, wi_succ (k := k) (by omega), pE]
    by_cases hq : elE x.Elements[k] = 0 <;> simp [hq, stp]
  · simp only [ref43_entry_L1, lt_f h, cond_false]
theorem szc : (((decide ((x.Codes.length : Int) < 1) || decide (8 < (x.Codes.length : Int))) || decide (16 < (x.Elements.length : Int)))) = decide (x.Codes.length < 1 ∨ 8 < x.Codes.length ∨ 16 < x.Elements.length) := by
  rw [Bool.eq_iff_iff]; simp only [Bool.or_eq_true, decide_eq_true_eq]; omega
include hc he in
theorem entry_eq (b : Int) : colltable_checkEntry x b = some (enE x b) := by
  unfold colltable_checkEntry enE
  simp only [pv_bind, szc]
  by_cases hz : x.Codes.length < 1 ∨ 8 < x.Codes.length ∨ 16 < x.Elements.length
  · simp only [hz, decide_true, cond_true, if_true]
  · simp only [hz, decide_false, cond_false, if_false]
    rw [eL0 hc, some_bind, toS_elim]
    cases chk pV x.Codes 0 with
    | some y => rfl
    | none =>
      simp only []
      rw [eL1 he, some_bind, toS_elim]
      cases chk pE x.Elements 0 with
      | some y => rfl
      | none =>
        simp only []
        rw [eL2 he, some_bind, toS_elim]
        cases chk (pP b) x.Elements 0 <;> rfl
end

/-! ## Comparing -/
def cmpE (a b : List Int) : Int := match chk (fun _ (p : Int × Int) => if p.1 = p.2 then none else some (if p.1 < p.2 then (-1 : Int) else 1)) (a.zip b) 0 with
  | some y => y
  | none => if a.length < b.length then -1 else if b.length < a.length then 1 else 0
section
variable {a b : List Int} (ha : a.length ≤ 1000) (hb : b.length ≤ 1000)
theorem cmpI (x y : Int) : cmp_Compare_int x y = some (if x < y then -1 else if y < x then 1 else 0) := by
  unfold cmp_Compare_int cmp_isNaN_int
  simp only [some_bind, decide_true, Bool.not_true, cond_false]
  by_cases h1 : x < y
  · simp [h1]
  · by_cases h2 : y < x <;> simp [h1, h2]
include ha in
theorem cL0 : loopM (fun (v : Int) => codepoint_Compare_L0 a b v) 0 = some (toS (chk (fun _ (p : Int × Int) => if p.1 = p.2 then none else some (if p.1 < p.2 then (-1 : Int) else 1)) (a.zip b) 0)) := by
  refine loop_chk0 (a.zip b) _ (fun k h => ?_) (fun k h => ?_)
  · have hk := h
    rw [List.length_zip] at hk
    have h1 : k < a.length := by omega
    have h2 : k < b.length := by omega
    have e1 : decide ((k : Int) < min (a.length : Int) (b.length : Int)) = true := by simp; omega
    simp only [codepoint_Compare_L0, e1, cond_true, idx_nat h1, idx_nat h2, some_bind, cmpI, wi_succ (k := k) (by omega), List.getElem_zip]
    by_cases hq : a[k] = b[k]
    · simp [hq, stp]
    · simp only [hq, decide_false, Bool.not_false, cond_true, if_false, stp]
      by_cases hl : a[k] < b[k]
      · simp [hl]
      · have : b[k] < a[k] := by omega
        simp [hl, this]
  · rw [List.length_zip] at h
    have e1 : decide ((k : Int) < min (a.length : Int) (b.length : Int)) = false := by simp; omega
    simp only [codepoint_Compare_L0, e1, cond_false]
include ha in
theorem rcL0 : loopM (fun (v : Int) => ref01_Compare_L0 a b v) 0 = some (toS (chk (fun _ (p : Int × Int) => if p.1 = p.2 then none else some (if p.1 < p.2 then (-1 : Int) else 1)) (a.zip b) 0)) := by
  refine loop_chk0 (a.zip b) _ (fun k h => ?_) (fun k h => ?_)
  · have hk := h
    rw [List.length_zip] at hk
    have h1 : k < a.length := by omega
    have h2 : k < b.length := by omega
    simp only [ref01_Compare_L0, lt_t h1, lt_t h2, pv_bind, Bool.and_self, cond_true, idx_nat h1, idx_nat h2, some_bind, wi_succ (k := k) (by omega), List.getElem_zip]
    by_cases hl : a[k] < b[k]
    · have : ¬ a[k] = b[k] := by omega
      simp [hl, this, stp]
    · by_cases hr : b[k] < a[k]
      · have : ¬ a[k] = b[k] := by omega
        simp [hl, hr, this, stp]
      · have : a[k] = b[k] := by omega
        simp [this, stp]
  · rw [List.length_zip] at h
    have e1 : (decide ((k : Int) < (a.length : Int)) && decide ((k : Int) < (b.length : Int))) = false := by
      rw [Bool.and_eq_false_iff]; simp; omega
    simp only [ref01_Compare_L0, pv_bind, e1, cond_false]
include ha in
theorem compare_eq : codepoint_Compare a b = some (cmpE a b) := by
  unfold codepoint_Compare cmpE
  rw [cL0 ha, some_bind, toS_elim]
  cases chk (fun _ (p : Int × Int) => if p.1 = p.2 then none else some (if p.1 < p.2 then (-1 : Int) else 1)) (a.zip b) 0 with
  | some y => rfl
  | none =>
    simp only [cmpI, some_bind]
    congr 1
    by_cases h1 : a.length < b.length
    · have : (a.length : Int) < b.length := by omega
      simp [h1, this]
    · have h1' : ¬ (a.length : Int) < b.length := by omega
      by_cases h2 : b.length < a.length
      · have : (b.length : Int) < a.length := by omega
        simp [h1, h1', h2, this]
      · have h2' : ¬ (b.length : Int) < a.length := by omega
        simp [h1, h1', h2, h2']
include ha in
theorem refcompare_eq : ref01_Compare a b = some (cmpE a b) := by
  unfold ref01_Compare cmpE
  rw [rcL0 ha, some_bind, toS_elim]
  cases chk (fun _ (p : Int × Int) => if p.1 = p.2 then none else some (if p.1 < p.2 then (-1 : Int) else 1)) (a.zip b) 0 with
  | some y => rfl
  | none =>
    simp only []
    by_cases h1 : a.length < b.length
    · have : (a.length : Int) < b.length := by omega
      simp [h1, this]
    · have h1' : ¬ (a.length : Int) < b.length := by omega
      by_cases h2 : b.length < a.length
      · have : (b.length : Int) < a.length := by omega
        simp [h1, h1', h2, this]
      · have h2' : ¬ (b.length : Int) < a.length := by omega
        simp [h1, h1', h2, h2']
end
end Go.M

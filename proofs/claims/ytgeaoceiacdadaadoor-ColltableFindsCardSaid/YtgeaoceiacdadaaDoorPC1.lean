/- What the plain counterparts answer. Conditions: none. -/
import Derived.Test.YtgeaoceiacdadaaDoorMirE
import Derived.Test.YtgeaoceiacdadaaDoorPL
set_option linter.unusedSimpArgs false
set_option linter.unusedVariables false
set_option linter.unnecessarySimpa false
namespace Go.M
open Go.AV

theorem alive43 : law43_alive = some true := law43_alive_le _ (by decide)

/-! ## Loops that look for the first fault -/
def chk {A Y : Type} (p : Nat → A → Option Y) : List A → Nat → Option Y
  | [], _ => none
  | x :: xs, k => match p k x with
    | some y => some y
    | none => chk p xs (k + 1)
def toS {Y : Type} : Option Y → Unit ⊕ Y
  | some y => .inr y
  | none => .inl ()
def stp {Y : Type} (k : Nat) : Option Y → Stp Int (Unit ⊕ Y)
  | some y => .done (.inr y)
  | none => .next ((k + 1 : Nat) : Int)

theorem loop_chk {A Y : Type} (l : List A) {body : Int → Option (Stp Int (Unit ⊕ Y))} (p : Nat → A → Option Y)
    (s : Nat) (hb : ∀ k (h : k < l.length), s ≤ k → body (k : Int) = some (stp k (p k l[k]))) (he : ∀ k : Nat, l.length ≤ k → body (k : Int) = some (.done (.inl ()))) :
    ∀ (n k : Nat), s ≤ k → l.length - k = n → loopM body (k : Int) = some (toS (chk p (l.drop k) k)) := by
  intro n
  induction n with
  | zero =>
    intro k hs hk
    rw [loopM_eq, he k (by omega), List.drop_of_length_le (by omega)]
    rfl
  | succ n ih =>
    intro k hs hk
    have hlt : k < l.length := by omega
    rw [loopM_eq, hb k hlt hs, List.drop_eq_getElem_cons hlt]
    simp only [chk]
    cases hp : p k l[k] with
    | some y => rfl
    | none => exact ih (k + 1) (by omega) (by omega)
theorem loop_chk0 {A Y : Type} (l : List A) {body : Int → Option (Stp Int (Unit ⊕ Y))} (p : Nat → A → Option Y)
    (hb : ∀ k (h : k < l.length), body (k : Int) = some (stp k (p k l[k]))) (he : ∀ k : Nat, l.length ≤ k → body (k : Int) = some (.done (.inl ()))) : loopM body 0 = some (toS (chk p l 0)) := by
  have := loop_chk l p 0 (fun k h _ => hb k h) he l.length 0 (by omega) (by omega)
  simpa using this
theorem chk_congr {A Y : Type} {p q : Nat → A → Option Y} : ∀ {l : List A} {k : Nat}, (∀ j (h : j < l.length), p (k + j) l[j] = q (k + j) l[j]) → chk p l k = chk q l k
  | [], _, _ => rfl
  | x :: xs, k, h => by
    have h0 : p k x = q k x := by have := h 0 (by simp); simpa using this
    have ih : chk p xs (k + 1) = chk q xs (k + 1) := chk_congr fun j hj => by
      have := h (j + 1) (by simp; omega)
      rw [show k + 1 + j = k + (j + 1) by omega]
      simpa using this
    simp only [chk, h0, ih]
theorem toS_elim {Y Z : Type} (o : Option Y) (f : Unit → Option Z) (g : Y → Option Z) : (toS o).elim f g = match o with | some y => g y | none => f () := by cases o <;> rfl

abbrev MX : Nat := 9223372036854775807

/-! ## Names -/
def byteOk (t : Int) : Bool := ((((decide (65 ≤ t) && decide (t ≤ 90)) || (decide (97 ≤ t) && decide (t ≤ 122))) || (decide (48 ≤ t) && decide (t ≤ 57))) || decide (t = 95))
theorem isName_L0_eq : colltable_isName_L0 = ref11_Name_L0 := rfl
theorem sidx_nat {s : Str} {k : Nat} (h : k < s.length) : sidx s (k : Int) = some (s[k].toNat : Int) := by
  unfold sidx
  rw [idx_nat h]
  rfl
theorem isName_loop (s : Str) (hs : s.length ≤ MX) : loopM (fun (x : Int) => colltable_isName_L0 s x) 0 = some (toS (chk (fun _ (b : UInt8) => if byteOk (b.toNat : Int) then none else some false) s 0)) := by
  refine loop_chk0 s _ (fun k h => ?_) (fun k h => ?_)
  · simp only [colltable_isName_L0, lt_t h, cond_true, sidx_nat h, some_bind, pv_bind, wi_succ (k := k) (by unfold MX at hs; omega)]
    by_cases hb : byteOk (s[k].toNat : Int) = true
    · simp only [hb, if_true, stp]
      unfold byteOk at hb
      rw [hb]
      rfl
    · simp only [hb, if_false, stp]
      unfold byteOk at hb
      simp only [Bool.not_eq_true] at hb
      rw [hb]
      rfl
  · simp only [colltable_isName_L0, lt_f h, cond_false]
def nameB (s : Str) : Bool := match chk (fun _ (b : UInt8) => if byteOk (b.toNat : Int) then none else some false) s 0 with
  | some y => y
  | none => decide (1 ≤ s.length) && decide (s.length ≤ 32)
theorem isName_eq {s : Str} (hs : s.length ≤ MX) : colltable_isName s = some (nameB s) := by
  unfold colltable_isName nameB
  rw [isName_loop s hs, some_bind, toS_elim]
  cases chk (fun _ (b : UInt8) => if byteOk (b.toNat : Int) then none else some false) s 0 with
  | some y => rfl
  | none =>
    simp only [pv_bind]
    congr 1
    cases s with
    | nil => rfl
    | cons x l =>
      have h1 : ((x :: l : Str) == []) = false := rfl
      rw [h1]
      simp
      omega
theorem Name_eq {s : Str} (hs : s.length ≤ MX) : ref11_Name s = some (nameB s) := by
  unfold ref11_Name nameB
  rw [← isName_L0_eq, isName_loop s hs, some_bind, toS_elim]
  cases chk (fun _ (b : UInt8) => if byteOk (b.toNat : Int) then none else some false) s 0 with
  | some y => rfl
  | none =>
    simp only [pv_bind]
    congr 1
    congr 1
    · simp; omega
    · simp; omega

/-! ## Groups -/
def gpN (_ : Nat) (g : Group) : Option Int := if nameB g.Name then none else some 6
def gpR (b : Int) (_ : Nat) (g : Group) : Option Int := if g.Lo < 1 ∨ g.Hi < g.Lo ∨ b ≤ g.Hi then some 1 else none
def gpO (l : List Group) (k : Nat) (g : Group) : Option Int := if 0 < k ∧ ¬ g.Lo = wi ((l.getD (k - 1) default).Hi + 1) then some 4 else none
def gpT (l : List Group) (k : Nat) (g : Group) : Option Int := if g.Name ∈ (l.take k).map (·.Name) then some 5 else none

section
variable {c : Collation} (hg : c.Groups.length ≤ 1000) (hn : ∀ g ∈ c.Groups, g.Name.length ≤ MX)
include hg
theorem wiS {k : Nat} (h : k < c.Groups.length) : wi ((k : Int) + 1) = ((k + 1 : Nat) : Int) := wi_succ (by omega)
include hn in
theorem gL0 : loopM (fun (x : Int) => colltable_checkGroups_L0 c x) 0 = some (toS (chk gpN c.Groups 0)) := by
  refine loop_chk0 c.Groups _ (fun k h => ?_) (fun k h => ?_)
  · simp only [colltable_checkGroups_L0, lt_t h, cond_true, idx_nat h, some_bind, isName_eq (hn _ (List.getElem_mem h)), wiS hg h, gpN]
    cases nameB (c.Groups[k]).Name <;> rfl
  · simp only [colltable_checkGroups_L0, lt_f h, cond_false]
include hn in
theorem rL0 : loopM (fun (x : Int) => ref43_groups_L0 c x) 0 = some (toS (chk gpN c.Groups 0)) := by
  refine loop_chk0 c.Groups _ (fun k h => ?_) (fun k h => ?_)
  · simp only [ref43_groups_L0, lt_t h, cond_true, idx_nat h, some_bind, Name_eq (hn _ (List.getElem_mem h)), wiS hg h, gpN]
    cases nameB (c.Groups[k]).Name <;> rfl
  · simp only [ref43_groups_L0, lt_f h, cond_false]
theorem gL2 : loopM (fun (x : Int) => colltable_checkGroups_L2 c x) 0 = some (toS (chk (gpR c.Base) c.Groups 0)) := by
  refine loop_chk0 c.Groups _ (fun k h => ?_) (fun k h => ?_)
  · simp only [colltable_checkGroups_L2, lt_t h, cond_true, idx_nat h, some_bind, pv_bind, wiS hg h, gpR]
    by_cases h1 : (c.Groups[k]).Lo < 1 <;> by_cases h2 : (c.Groups[k]).Hi < (c.Groups[k]).Lo <;> by_cases h3 : c.Base ≤ (c.Groups[k]).Hi <;> simp [h1, h2, h3, stp]
  · simp only [colltable_checkGroups_L2, lt_f h, cond_false]
theorem rL3 : loopM (fun (x : Int) => ref43_groups_L3 c x) 0 = some (toS (chk (gpR c.Base) c.Groups 0)) := by
  refine loop_chk0 c.Groups _ (fun k h => ?_) (fun k h => ?_)
  · simp only [ref43_groups_L3, lt_t h, cond_true, idx_nat h, some_bind, pv_bind, wiS hg h, gpR]
    by_cases h1 : (c.Groups[k]).Lo < 1 <;> by_cases h2 : (c.Groups[k]).Hi < (c.Groups[k]).Lo <;> by_cases h3 : c.Base ≤ (c.Groups[k]).Hi <;> simp [h1, h2, h3, stp, gM_t, gM_f, some_bind]
  · simp only [ref43_groups_L3, lt_f h, cond_false]
theorem gL3 : loopM (fun (x : Int) => colltable_checkGroups_L3 c x) 0 = some (toS (chk (gpO c.Groups) c.Groups 0)) := by
  refine loop_chk0 c.Groups _ (fun k h => ?_) (fun k h => ?_)
  · simp only [colltable_checkGroups_L3, lt_t h, cond_true, idx_nat h, some_bind, pv_bind, wiS hg h, gpO]
    cases k with
    | zero => simp [gM_f, some_bind, stp]
    | succ k =>
      have hk : k < c.Groups.length := by omega
      have e1 : wi (((k + 1 : Nat) : Int) - 1) = (k : Int) := wi_pred (by omega)
      have e2 : decide ((0 : Int) < ((k + 1 : Nat) : Int)) = true := by simp
      rw [e2, gM_t, e1, idx_nat hk, some_bind]
      have e3 : c.Groups.getD (k + 1 - 1) default = c.Groups[k] := by simp [hk]
      rw [e3]
      by_cases hq : (c.Groups[k + 1]).Lo = wi ((c.Groups[k]).Hi + 1) <;> simp [hq, stp]
  · simp only [colltable_checkGroups_L3, lt_f h, cond_false]
theorem rL4 : loopM (fun (x : Int) => ref43_groups_L4 c x) 1 = some (toS (chk (gpO c.Groups) (c.Groups.drop 1) 1)) := by
  have := loop_chk (body := fun (x : Int) => ref43_groups_L4 c x) c.Groups (gpO c.Groups) 1 (fun k h hk1 => ?_) (fun k h => ?_) (c.Groups.length - 1) 1 (by omega) rfl
  · exact this
  · simp only [ref43_groups_L4, lt_t h, cond_true, idx_nat h, some_bind, wiS hg h, gpO]
    cases k with
    | zero => omega
    | succ k =>
      have hk : k < c.Groups.length := by omega
      have e1 : wi (((k + 1 : Nat) : Int) - 1) = (k : Int) := wi_pred (by omega)
      rw [e1, idx_nat hk, some_bind]
      have e3 : c.Groups.getD (k + 1 - 1) default = c.Groups[k] := by simp [hk]
      rw [e3]
      by_cases hq : (c.Groups[k + 1]).Lo = wi ((c.Groups[k]).Hi + 1) <;> simp [hq, stp]
  · simp only [ref43_groups_L4, lt_f h, cond_false]
omit hg in
theorem gO_eq : chk (gpO c.Groups) c.Groups 0 = chk (gpO c.Groups) (c.Groups.drop 1) 1 := by
  cases h : c.Groups with
  | nil => rfl
  | cons g l => simp [chk, gpO]

omit hg in
theorem mgetD_mput {κ ν : Type} [DecidableEq κ] (m : List (κ × ν)) (k k' : κ) (v z : ν) : mgetD (mput m k v) k' z = if k' = k then v else mgetD m k' z := by
  unfold mgetD
  induction m with
  | nil => simp only [mput, mget]; by_cases h : k' = k <;> simp [h, mget]
  | cons p m ih =>
    obtain ⟨q, u⟩ := p
    simp only [mput]
    by_cases hq : k = q
    · subst hq
      simp only [if_true, mget]
      by_cases h : k' = k <;> simp [h]
    · simp only [hq, if_false, mget]
      by_cases h : k' = q
      · subst h
        have : ¬ k' = k := fun e => hq e.symm
        simp [this]
      · simp only [h, if_false]; exact ih
theorem gL1 : ∀ (n k : Nat) (m : List (Str × Bool)), c.Groups.length - k = n → k ≤ c.Groups.length → (∀ s, mgetD m s false = decide (s ∈ (c.Groups.take k).map (·.Name))) →
    loopM (fun (x : Int × (List (Str × Bool))) => colltable_checkGroups_L1 c x.1 x.2) ((k : Int), m) = some (toS (chk (gpT c.Groups) (c.Groups.drop k) k)) := by
  intro n
  induction n with
  | zero =>
    intro k m hk hle hm
    have hk' : c.Groups.length ≤ k := by omega
    rw [loopM_eq, List.drop_of_length_le hk']
    simp only [colltable_checkGroups_L1, lt_f hk', cond_false, chk, toS]
  | succ n ih =>
    intro k m hk hle hm
    have hlt : k < c.Groups.length := by omega
    rw [loopM_eq, List.drop_eq_getElem_cons hlt]
    simp only [colltable_checkGroups_L1, lt_t hlt, cond_true, idx_nat hlt, some_bind, hm, wiS hg hlt, chk, gpT]
    by_cases hin : (c.Groups[k]).Name ∈ (c.Groups.take k).map (·.Name)
    · simp only [hin, decide_true, cond_true, if_true, toS]
    · simp only [hin, decide_false, cond_false, if_false]
      refine ih (k + 1) _ (by omega) (by omega) fun s => ?_
      rw [mgetD_mput, hm s]
      have e1 : (c.Groups.take (k + 1)).map (·.Name) = (c.Groups.take k).map (·.Name) ++ [(c.Groups[k]).Name] := by
        rw [List.take_add_one, List.getElem?_eq_getElem hlt, List.map_append]; rfl
      rw [e1]
      by_cases hs : s = (c.Groups[k]).Name
      · simp [hs]
      · simp [hs]
omit hg in
theorem chk_any {A Y : Type} (P : A → Bool) (y : Y) : ∀ (l : List A) (k : Nat), chk (fun _ x => if P x then some y else none) l k = if l.any P then some y else none
  | [], _ => rfl
  | x :: l, k => by
    simp only [chk, List.any_cons]
    by_cases h : P x = true
    · simp [h]
    · simp only [h, Bool.false_eq_true, if_false, Bool.false_or]; exact chk_any P y l (k + 1)
theorem rL1 : loopM (fun (x : Int) => ref43_groups_L1 c x) 0 = some (toS (chk (gpT c.Groups) c.Groups 0)) := by
  refine loop_chk0 c.Groups _ (fun k h => ?_) (fun k h => ?_)
  · have hin : loopM (fun (x : Int) => ref43_groups_L2 (k : Int) c x) 0 = some (toS (chk (fun _ (g : Group) => if (g.Name == (c.Groups[k]).Name) then some (5 : Int) else none) (c.Groups.take k) 0)) := by
      refine loop_chk0 (c.Groups.take k) _ (fun j hj => ?_) (fun j hj => ?_)
      · have hjk : j < k := by rw [List.length_take] at hj; omega
        have hjl : j < c.Groups.length := by omega
        have e1 : decide ((j : Int) < (k : Int)) = true := by simp; omega
        simp only [ref43_groups_L2, e1, cond_true, idx_nat hjl, idx_nat h, some_bind, wiS hg hjl, List.getElem_take]
        by_cases hq : ((c.Groups[j]).Name == (c.Groups[k]).Name) = true
        · simp only [hq, cond_true, if_true, stp]
        · simp only [hq, Bool.not_eq_true] at *
          simp only [hq, cond_false, Bool.false_eq_true, if_false, stp]
      · have hjk : k ≤ j := by rw [List.length_take] at hj; omega
        have e1 : decide ((j : Int) < (k : Int)) = false := by simp; omega
        simp only [ref43_groups_L2, e1, cond_false]
    simp only [ref43_groups_L1, lt_t h, cond_true, hin, some_bind, toS_elim, chk_any, gpT, wiS hg h]
    have e2 : ((c.Groups.take k).any fun g => g.Name == (c.Groups[k]).Name) = decide ((c.Groups[k]).Name ∈ (c.Groups.take k).map (·.Name)) := by
      rw [Bool.eq_iff_iff]
      simp only [List.any_eq_true, beq_iff_eq, decide_eq_true_eq, List.mem_map]
    rw [e2]
    by_cases hm : (c.Groups[k]).Name ∈ (c.Groups.take k).map (·.Name)
    · simp only [hm, decide_true, if_true, stp]
    · simp only [hm, decide_false, Bool.false_eq_true, if_false, stp]
  · simp only [ref43_groups_L1, lt_f h, cond_false]
def grpE (c : Collation) : Int := match chk gpN c.Groups 0 with
  | some y => y
  | none => match chk (gpT c.Groups) c.Groups 0 with
    | some y => y
    | none => match chk (gpR c.Base) c.Groups 0 with
      | some y => y
      | none => match chk (gpO c.Groups) c.Groups 0 with
        | some y => y
        | none => 0
include hn in
theorem groups_eq : colltable_checkGroups c = some (grpE c) := by
  have h1 := gL1 hg c.Groups.length 0 [] (by omega) (by omega) (fun s => by simp [mgetD, mget])
  have h1 : loopM (fun (x : Int × (List (Str × Bool))) => colltable_checkGroups_L1 c x.1 x.2) (0, []) = some (toS (chk (gpT c.Groups) c.Groups 0)) := h1
  unfold colltable_checkGroups grpE
  rw [gL0 hg hn, some_bind, toS_elim]
  cases chk gpN c.Groups 0 with
  | some y => rfl
  | none =>
    simp only []
    rw [h1, some_bind, toS_elim]
    cases chk (gpT c.Groups) c.Groups 0 with
    | some y => rfl
    | none =>
      simp only []
      rw [gL2 hg, some_bind, toS_elim]
      cases chk (gpR c.Base) c.Groups 0 with
      | some y => rfl
      | none =>
        simp only []
        rw [gL3 hg, some_bind, toS_elim]
        cases chk (gpO c.Groups) c.Groups 0 <;> rfl
include hn in
theorem refgroups_eq : ref43_groups c = some (grpE c) := by
  unfold ref43_groups grpE
  rw [rL0 hg hn, some_bind, toS_elim]
  cases chk gpN c.Groups 0 with
  | some y => rfl
  | none =>
    simp only []
    rw [rL1 hg, some_bind, toS_elim]
    cases chk (gpT c.Groups) c.Groups 0 with
    | some y => rfl
    | none =>
      simp only []
      rw [rL3 hg, some_bind, toS_elim]
      cases chk (gpR c.Base) c.Groups 0 with
      | some y => rfl
      | none =>
        simp only []
        rw [rL4 hg, some_bind, toS_elim, gO_eq]
        cases chk (gpO c.Groups) (c.Groups.drop 1) 1 <;> rfl
end
end Go.M

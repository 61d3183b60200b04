/- What the plain counterparts answer. Conditions: none. -/
import Derived.Test.YtgeaoceiacdadaaGreatDoorMir
set_option linter.unusedSimpArgs false
set_option linter.unusedVariables false
set_option linter.unnecessarySimpa false
namespace Go.M
open Go.AV
theorem wi_id {n : Int} (h1 : -9223372036854775808 ≤ n) (h2 : n ≤ 9223372036854775807) : wi n = n := w64 h1 h2
theorem wi_succ {k : Nat} (h : k + 1 ≤ 9223372036854775807) : wi ((k : Int) + 1) = ((k + 1 : Nat) : Int) := by rw [wi_id (by omega) (by omega)]; omega
theorem wi_pred {k : Nat} (h : k + 1 ≤ 9223372036854775807) : wi (((k + 1 : Nat) : Int) - 1) = (k : Int) := by rw [wi_id (by omega) (by omega)]; omega
theorem lt_t {k n : Nat} (h : k < n) : decide ((k : Int) < (n : Int)) = true := by simp; omega
theorem lt_f {k n : Nat} (h : n ≤ k) : decide ((k : Int) < (n : Int)) = false := by simp; omega
theorem idx_nat {α : Type} {l : List α} {k : Nat} (h : k < l.length) : idx l (k : Int) = some l[k] := by
 unfold idx; rw [if_pos (by omega)]; simp [h]
theorem idx_zero {α : Type} {x : α} {l : List α} : idx (x :: l) 0 = some x := rfl
theorem setM_nat {α : Type} {l : List α} {k : Nat} (h : k < l.length) (x : α) : setM l (k : Int) x = some (l.set k x) := by
 unfold setM; rw [if_pos ⟨by omega, by simpa using h⟩]; simp
theorem app_ok {α : Type} {l m : List α} (h : l.length + m.length ≤ 4294967296) : app l m = some (l ++ m) := by
 unfold app; rw [if_pos (by unfold LIM; exact h)]
theorem mkM_ok {α : Type} {z : α} {n : Nat} (h : n ≤ 4294967296) : mkM z (n : Int) = some (List.replicate n z) := by
 unfold mkM; rw [if_pos ⟨by omega, by unfold LIM; simpa using h⟩]; simp
theorem slc_ok {α : Type} {l : List α} {a b : Nat} (h1 : a ≤ b) (h2 : b ≤ l.length) : slc l (a : Int) (b : Int) = some ((l.take b).drop a) := by
 unfold slc; rw [if_pos ⟨by omega, by omega, by simpa using h2⟩]; simp
theorem slc_take {α : Type} {l : List α} {b : Nat} (h2 : b ≤ l.length) : slc l 0 (b : Int) = some (l.take b) := by
 have := slc_ok (l := l) (a := 0) (b := b) (by omega) h2
 simpa using this
theorem slc_drop {α : Type} {l : List α} {a : Nat} (h2 : a ≤ l.length) : slc l (a : Int) (l.length : Int) = some (l.drop a) := by
 have := slc_ok (l := l) (a := a) (b := l.length) h2 (Nat.le_refl _)
 simpa using this
theorem pv_bind {α β : Type} (x : α) (f : α → Option β) : (pv x).bind f = f x := rfl
theorem gM_t {α : Type} [Inhabited α] (m : Option α) : gM true m = m := rfl
theorem gM_f {α : Type} [Inhabited α] (m : Option α) : gM false m = some default := rfl
theorem some_bind {α β : Type} (x : α) (f : α → Option β) : (some x).bind f = f x := rfl
theorem loopM_next {X Y : Type} {body : X → Option (Stp X Y)} {x x' : X} (h : body x = some (.next x')) : loopM body x = loopM body x' := by
 rw [loopM_eq, h]
theorem loopM_done {X Y : Type} {body : X → Option (Stp X Y)} {x : X} {y : Y} (h : body x = some (.done y)) : loopM body x = some y := by
 rw [loopM_eq, h]
end Go.M
namespace Go.M
open Go.AV
def chk {A Y : Type} (p : Nat → A → Option Y) : List A → Nat → Option Y
 | [], _ => none
 | x :: xs, k => match p k x with
  | some y => some y
  | none => chk p xs (k + 1)
def toS {Y : Type} : Option Y → Unit ⊕ Y
 | some y => .inr y
 | none => .inl ()
def stp {Y : Type} (k : Nat) : Option Y → Stp Int (Unit ⊕ Y)
 | some y => .done (.inr y)
 | none => .next ((k + 1 : Nat) : Int)
theorem loop_chk {A Y : Type} (l : List A) {body : Int → Option (Stp Int (Unit ⊕ Y))} (p : Nat → A → Option Y)
    (s : Nat) (hb : ∀ k (h : k < l.length), s ≤ k → body (k : Int) = some (stp k (p k l[k]))) (he : ∀ k : Nat, l.length ≤ k → body (k : Int) = some (.done (.inl ()))) :
    ∀ (n k : Nat), s ≤ k → l.length - k = n → loopM body (k : Int) = some (toS (chk p (l.drop k) k)) := by
  intro n
  induction n with
  | zero =>
    intro k hs hk
    rw [loopM_eq, he k (by omega), List.drop_of_length_le (by omega)]
    rfl
  | succ n ih =>
    intro k hs hk
    have hlt : k < l.length := by omega
    rw [loopM_eq, hb k hlt hs, List.drop_eq_getElem_cons hlt]
    simp only [chk]
    cases hp : p k l[k] with
    | some y => rfl
    | none => exact ih (k + 1) (by omega) (by omega)
theorem loop_chk0 {A Y : Type} (l : List A) {body : Int → Option (Stp Int (Unit ⊕ Y))} (p : Nat → A → Option Y)
    (hb : ∀ k (h : k < l.length), body (k : Int) = some (stp k (p k l[k]))) (he : ∀ k : Nat, l.length ≤ k → body (k : Int) = some (.done (.inl ()))) : loopM body 0 = some (toS (chk p l 0)) := by
  have := loop_chk l p 0 (fun k h _ => hb k h) he l.length 0 (by omega) (by omega)
  simpa using this
theorem toS_elim {Y Z : Type} (o : Option Y) (f : Unit → Option Z) (g : Y → Option Z) : (toS o).elim f g = match o with | some y => g y | none => f () := by cases o <;> rfl
abbrev MX : Nat := 9223372036854775807
def byteOk (t : Int) : Bool := ((((decide (65 ≤ t) && decide (t ≤ 90)) || (decide (97 ≤ t) && decide (t ≤ 122))) || (decide (48 ≤ t) && decide (t ≤ 57))) || decide (t = 95))
theorem isName_L0_eq : colltable_isName_L0 = ref11_Name_L0 := rfl
theorem sidx_nat {s : Str} {k : Nat} (h : k < s.length) : sidx s (k : Int) = some (s[k].toNat : Int) := by
 unfold sidx
 rw [idx_nat h]
 rfl
theorem isName_loop (s : Str) (hs : s.length ≤ MX) : loopM (fun (x : Int) => colltable_isName_L0 s x) 0 = some (toS (chk (fun _ (b : UInt8) => if byteOk (b.toNat : Int) then none else some false) s 0)) := by
 refine loop_chk0 s _ (fun k h => ?_) (fun k h => ?_)
 ·
  simp only [colltable_isName_L0, lt_t h, cond_true, sidx_nat h, some_bind, pv_bind, wi_succ (k := k) (by unfold MX at hs; omega)]
  by_cases hb : byteOk (s[k].toNat : Int) = true
  ·
   simp only [hb, if_true, stp]
   unfold byteOk at hb
   rw [hb]
   rfl
  ·
   simp only [hb, if_false, stp]
   unfold byteOk at hb
   simp only [Bool.not_eq_true] at hb
   rw [hb]
   rfl
 · simp only [colltable_isName_L0, lt_f h, cond_false]
def nameB (s : Str) : Bool := match chk (fun _ (b : UInt8) => if byteOk (b.toNat : Int) then none else some false) s 0 with
 | some y => y
 | none => decide (1 ≤ s.length) && decide (s.length ≤ 32)
theorem isName_eq {s : Str} (hs : s.length ≤ MX) : colltable_isName s = some (nameB s) := by
 unfold colltable_isName nameB
 rw [isName_loop s hs, some_bind, toS_elim]
 cases chk (fun _ (b : UInt8) => if byteOk (b.toNat : Int) then none else some false) s 0 with
 | some y => rfl
 | none =>
  simp only [pv_bind]
  congr 1
  cases s with
  | nil => rfl
  | cons x l =>
   have h1 : ((x :: l : Str) == []) = false := rfl
   rw [h1]
   simp
   omega
theorem Name_eq {s : Str} (hs : s.length ≤ MX) : ref11_Name s = some (nameB s) := by
 unfold ref11_Name nameB
 rw [← isName_L0_eq, isName_loop s hs, some_bind, toS_elim]
 cases chk (fun _ (b : UInt8) => if byteOk (b.toNat : Int) then none else some false) s 0 with
 | some y => rfl
 | none =>
  simp only [pv_bind]
  congr 1
  congr 1
  · simp; omega
  · simp; omega
def gpN (_ : Nat) (g : Group) : Option Int := if nameB g.Name then none else some 6
def gpR (b : Int) (_ : Nat) (g : Group) : Option Int := if g.Lo < 1 ∨ g.Hi < g.Lo ∨ b ≤ g.Hi then some 1 else none
def gpO (l : List Group) (k : Nat) (g : Group) : Option Int := if 0 < k ∧ ¬ g.Lo = wi ((l.getD (k - 1) default).Hi + 1) then some 4 else none
def gpT (l : List Group) (k : Nat) (g : Group) : Option Int := if g.Name ∈ (l.take k).map (·.Name) then some 5 else none
section
variable {c : Collation} (hg : c.Groups.length ≤ 1000) (hn : ∀ g ∈ c.Groups, g.Name.length ≤ MX)
include hg
theorem wiS {k : Nat} (h : k < c.Groups.length) : wi ((k : Int) + 1) = ((k + 1 : Nat) : Int) := wi_succ (by omega)
include hn in
theorem gL0 : loopM (fun (x : Int) => colltable_checkGroups_L0 c x) 0 = some (toS (chk gpN c.Groups 0)) := by
 refine loop_chk0 c.Groups _ (fun k h => ?_) (fun k h => ?_)
 ·
  simp only [colltable_checkGroups_L0, lt_t h, cond_true, idx_nat h, some_bind, isName_eq (hn _ (List.getElem_mem h)), wiS hg h, gpN]
  cases nameB (c.Groups[k]).Name <;> rfl
 · simp only [colltable_checkGroups_L0, lt_f h, cond_false]
include hn in
theorem rL0 : loopM (fun (x : Int) => ref43_groups_L0 c x) 0 = some (toS (chk gpN c.Groups 0)) := by
 refine loop_chk0 c.Groups _ (fun k h => ?_) (fun k h => ?_)
 ·
  simp only [ref43_groups_L0, lt_t h, cond_true, idx_nat h, some_bind, Name_eq (hn _ (List.getElem_mem h)), wiS hg h, gpN]
  cases nameB (c.Groups[k]).Name <;> rfl
 · simp only [ref43_groups_L0, lt_f h, cond_false]
theorem gL2 : loopM (fun (x : Int) => colltable_checkGroups_L2 c x) 0 = some (toS (chk (gpR c.Base) c.Groups 0)) := by
 refine loop_chk0 c.Groups _ (fun k h => ?_) (fun k h => ?_)
 ·
  simp only [colltable_checkGroups_L2, lt_t h, cond_true, idx_nat h, some_bind, pv_bind, wiS hg h, gpR]
  by_cases h1 : (c.Groups[k]).Lo < 1 <;> by_cases h2 : (c.Groups[k]).Hi < (c.Groups[k]).Lo <;> by_cases h3 : c.Base ≤ (c.Groups[k]).Hi <;> simp [h1, h2, h3, stp]
 · simp only [colltable_checkGroups_L2, lt_f h, cond_false]
theorem rL3 : loopM (fun (x : Int) => ref43_groups_L3 c x) 0 = some (toS (chk (gpR c.Base) c.Groups 0)) := by
 refine loop_chk0 c.Groups _ (fun k h => ?_) (fun k h => ?_)
 ·
  simp only [ref43_groups_L3, lt_t h, cond_true, idx_nat h, some_bind, pv_bind, wiS hg h, gpR]
  by_cases h1 : (c.Groups[k]).Lo < 1 <;> by_cases h2 : (c.Groups[k]).Hi < (c.Groups[k]).Lo <;> by_cases h3 : c.Base ≤ (c.Groups[k]).Hi <;> simp [h1, h2, h3, stp, gM_t, gM_f, some_bind]
 · simp only [ref43_groups_L3, lt_f h, cond_false]
theorem gL3 : loopM (fun (x : Int) => colltable_checkGroups_L3 c x) 0 = some (toS (chk (gpO c.Groups) c.Groups 0)) := by
 refine loop_chk0 c.Groups _ (fun k h => ?_) (fun k h => ?_)
 ·
  simp only [colltable_checkGroups_L3, lt_t h, cond_true, idx_nat h, some_bind, pv_bind, wiS hg h, gpO]
  cases k with
  | zero => simp [gM_f, some_bind, stp]
  | succ k =>
   have hk : k < c.Groups.length := by omega
   have e1 : wi (((k + 1 : Nat) : Int) - 1) = (k : Int) := wi_pred (by omega)
   have e2 : decide ((0 : Int) < ((k + 1 : Nat) : Int)) = true := by simp
   rw [e2, gM_t, e1, idx_nat hk, some_bind]
   have e3 : c.Groups.getD (k + 1 - 1) default = c.Groups[k] := by simp [hk]
   rw [e3]
   by_cases hq : (c.Groups[k + 1]).Lo = wi ((c.Groups[k]).Hi + 1) <;> simp [hq, stp]
 · simp only [colltable_checkGroups_L3, lt_f h, cond_false]
theorem rL4 : loopM (fun (x : Int) => ref43_groups_L4 c x) 1 = some (toS (chk (gpO c.Groups) (c.Groups.drop 1) 1)) := by
 have := loop_chk (body := fun (x : Int) => ref43_groups_L4 c x) c.Groups (gpO c.Groups) 1 (fun k h hk1 => ?_) (fun k h => ?_) (c.Groups.length - 1) 1 (by omega) rfl
 · exact this
 ·
  simp only [ref43_groups_L4, lt_t h, cond_true, idx_nat h, some_bind, wiS hg h, gpO]
  cases k with
  | zero => omega
  | succ k =>
   have hk : k < c.Groups.length := by omega
   have e1 : wi (((k + 1 : Nat) : Int) - 1) = (k : Int) := wi_pred (by omega)
   rw [e1, idx_nat hk, some_bind]
   have e3 : c.Groups.getD (k + 1 - 1) default = c.Groups[k] := by simp [hk]
   rw [e3]
   by_cases hq : (c.Groups[k + 1]).Lo = wi ((c.Groups[k]).Hi + 1) <;> simp [hq, stp]
 · simp only [ref43_groups_L4, lt_f h, cond_false]
omit hg in
theorem gO_eq : chk (gpO c.Groups) c.Groups 0 = chk (gpO c.Groups) (c.Groups.drop 1) 1 := by
 cases h : c.Groups with
 | nil => rfl
 | cons g l => simp [chk, gpO]
omit hg in
theorem mgetD_mput {κ ν : Type} [DecidableEq κ] (m : List (κ × ν)) (k k' : κ) (v z : ν) : mgetD (mput m k v) k' z = if k' = k then v else mgetD m k' z := by
 unfold mgetD
 induction m with
 | nil => simp only [mput, mget]; by_cases h : k' = k <;> simp [h, mget]
 | cons p m ih =>
  obtain ⟨q, u⟩ := p
  simp only [mput]
  by_cases hq : k = q
  ·
   subst hq
   simp only [if_true, mget]
   by_cases h : k' = k <;> simp [h]
  ·
   simp only [hq, if_false, mget]
   by_cases h : k' = q
   ·
    subst h
    have : ¬ k' = k := fun e => hq e.symm
    simp [this]
   · simp only [h, if_false]; exact ih
theorem gL1 : ∀ (n k : Nat) (m : List (Str × Bool)), c.Groups.length - k = n → k ≤ c.Groups.length → (∀ s, mgetD m s false = decide (s ∈ (c.Groups.take k).map (·.Name))) →
    loopM (fun (x : Int × (List (Str × Bool))) => colltable_checkGroups_L1 c x.1 x.2) ((k : Int), m) = some (toS (chk (gpT c.Groups) (c.Groups.drop k) k)) := by
  intro n
  induction n with
  | zero =>
    intro k m hk hle hm
    have hk' : c.Groups.length ≤ k := by omega
    rw [loopM_eq, List.drop_of_length_le hk']
    simp only [colltable_checkGroups_L1, lt_f hk', cond_false, chk, toS]
  | succ n ih =>
    intro k m hk hle hm
    have hlt : k < c.Groups.length := by omega
    rw [loopM_eq, List.drop_eq_getElem_cons hlt]
    simp only [colltable_checkGroups_L1, lt_t hlt, cond_true, idx_nat hlt, some_bind, hm, wiS hg hlt, chk, gpT]
    by_cases hin : (c.Groups[k]).Name ∈ (c.Groups.take k).map (·.Name)
    · simp only [hin, decide_true, cond_true, if_true, toS]
    · simp only [hin, decide_false, cond_false, if_false]
      refine ih (k + 1) _ (by omega) (by omega) fun s => ?_
      rw [mgetD_mput, hm s]
      have e1 : (c.Groups.take (k + 1)).map (·.Name) = (c.Groups.take k).map (·.Name) ++ [(c.Groups[k]).Name] := by
        rw [List.take_add_one, List.getElem?_eq_getElem hlt, List.map_append]; rfl
      rw [e1]
      by_cases hs : s = (c.Groups[k]).Name
      · simp [hs]
      · simp [hs]
omit hg in
theorem chk_any {A Y : Type} (P : A → Bool) (y : Y) : ∀ (l : List A) (k : Nat), chk (fun _ x => if P x then some y else none) l k = if l.any P then some y else none
 | [], _ => rfl
 | x :: l, k => by
  simp only [chk, List.any_cons]
  by_cases h : P x = true
  · simp [h]
  · simp only [h, Bool.false_eq_true, if_false, Bool.false_or]; exact chk_any P y l (k + 1)
theorem rL1 : loopM (fun (x : Int) => ref43_groups_L1 c x) 0 = some (toS (chk (gpT c.Groups) c.Groups 0)) := by
  refine loop_chk0 c.Groups _ (fun k h => ?_) (fun k h => ?_)
  · have hin : loopM (fun (x : Int) => ref43_groups_L2 (k : Int) c x) 0 = some (toS (chk (fun _ (g : Group) => if (g.Name == (c.Groups[k]).Name) then some (5 : Int) else none) (c.Groups.take k) 0)) := by
      refine loop_chk0 (c.Groups.take k) _ (fun j hj => ?_) (fun j hj => ?_)
      · have hjk : j < k := by rw [List.length_take] at hj; omega
        have hjl : j < c.Groups.length := by omega
        have e1 : decide ((j : Int) < (k : Int)) = true := by simp; omega
        simp only [ref43_groups_L2, e1, cond_true, idx_nat hjl, idx_nat h, some_bind, wiS hg hjl, List.getElem_take]
        by_cases hq : ((c.Groups[j]).Name == (c.Groups[k]).Name) = true
        · simp only [hq, cond_true, if_true, stp]
        · simp only [hq, Bool.not_eq_true] at *
          simp only [hq, cond_false, Bool.false_eq_true, if_false, stp]
      · have hjk : k ≤ j := by rw [List.length_take] at hj; omega
        have e1 : decide ((j : Int) < (k : Int)) = false := by simp; omega
        simp only [ref43_groups_L2, e1, cond_false]
    simp only [ref43_groups_L1, lt_t h, cond_true, hin, some_bind, toS_elim, chk_any, gpT, wiS hg h]
    have e2 : ((c.Groups.take k).any fun g => g.Name == (c.Groups[k]).Name) = decide ((c.Groups[k]).Name ∈ (c.Groups.take k).map (·.Name)) := by
      rw [Bool.eq_iff_iff]
      simp only [List.any_eq_true, beq_iff_eq, decide_eq_true_eq, List.mem_map]
    rw [e2]
    by_cases hm : (c.Groups[k]).Name ∈ (c.Groups.take k).map (·.Name)
    · simp only [hm, decide_true, if_true, stp]
    · simp only [hm, decide_false, Bool.false_eq_true, if_false, stp]
  · simp only [ref43_groups_L1, lt_f h, cond_false]
def grpE (c : Collation) : Int := match chk gpN c.Groups 0 with
 | some y => y
 | none => match chk (gpT c.Groups) c.Groups 0 with
  | some y => y
  | none => match chk (gpR c.Base) c.Groups 0 with
   | some y => y
   | none => match chk (gpO c.Groups) c.Groups 0 with
    | some y => y
    | none => 0
include hn in
theorem groups_eq : colltable_checkGroups c = some (grpE c) := by
 have h1 := gL1 hg c.Groups.length 0 [] (by omega) (by omega) (fun s => by simp [mgetD, mget])
 have h1 : loopM (fun (x : Int × (List (Str × Bool))) => colltable_checkGroups_L1 c x.1 x.2) (0, []) = some (toS (chk (gpT c.Groups) c.Groups 0)) := h1
 unfold colltable_checkGroups grpE
 rw [gL0 hg hn, some_bind, toS_elim]
 cases chk gpN c.Groups 0 with
 | some y => rfl
 | none =>
  simp only []
  rw [h1, some_bind, toS_elim]
  cases chk (gpT c.Groups) c.Groups 0 with
  | some y => rfl
  | none =>
   simp only []
   rw [gL2 hg, some_bind, toS_elim]
   cases chk (gpR c.Base) c.Groups 0 with
   | some y => rfl
   | none =>
    simp only []
    rw [gL3 hg, some_bind, toS_elim]
    cases chk (gpO c.Groups) c.Groups 0 <;> rfl
include hn in
theorem refgroups_eq : ref43_groups c = some (grpE c) := by
 unfold ref43_groups grpE
 rw [rL0 hg hn, some_bind, toS_elim]
 cases chk gpN c.Groups 0 with
 | some y => rfl
 | none =>
  simp only []
  rw [rL1 hg, some_bind, toS_elim]
  cases chk (gpT c.Groups) c.Groups 0 with
  | some y => rfl
  | none =>
   simp only []
   rw [rL3 hg, some_bind, toS_elim]
   cases chk (gpR c.Base) c.Groups 0 with
   | some y => rfl
   | none =>
    simp only []
    rw [rL4 hg, some_bind, toS_elim, gO_eq]
    cases chk (gpO c.Groups) (c.Groups.drop 1) 1 <;> rfl
end
end Go.M
namespace Go.M
open Go.AV
def elE (e : Element) : Int :=
 if (e.Primary < 0 ∨ 65535 < e.Primary) ∨ (e.Secondary < 0 ∨ 65535 < e.Secondary) ∨ (e.Tertiary < 0 ∨ 65535 < e.Tertiary) then 1
 else if (e.Primary ≠ 0 ∧ (e.Secondary = 0 ∨ e.Tertiary = 0)) ∨ (e.Secondary ≠ 0 ∧ e.Tertiary = 0) ∨ (e.Variable = true ∧ e.Primary = 0) then 11 else 0
theorem elem_eq (e : Element) : element_Check e = some (elE e) := by
 have hl : loopM (fun (x : Int) => element_Check_L0 e x) 0 = some (toS (chk (fun _ (w : Int) => if w < 0 ∨ 65535 < w then some 1 else none) [e.Primary, e.Secondary, e.Tertiary] 0)) := by
  refine loop_chk0 [e.Primary, e.Secondary, e.Tertiary] _ (fun k h => ?_) (fun k h => ?_)
  ·
   have h3 : decide ((k : Int) < 3) = true := by simp at h ⊢; omega
   simp only [element_Check_L0, h3, cond_true, idx_nat h, some_bind, pv_bind, wi_succ (k := k) (by simp at h; omega)]
   by_cases h1 : [e.Primary, e.Secondary, e.Tertiary][k] < 0 <;> by_cases h2 : 65535 < [e.Primary, e.Secondary, e.Tertiary][k] <;> simp [h1, h2, stp]
  ·
   have h3 : decide ((k : Int) < 3) = false := by simp at h ⊢; omega
   simp only [element_Check_L0, h3, cond_false]
 unfold element_Check elE
 rw [hl, some_bind, toS_elim]
 simp only [chk]
 by_cases h1 : e.Primary < 0 ∨ 65535 < e.Primary
 · simp [h1]
 ·
  by_cases h2 : e.Secondary < 0 ∨ 65535 < e.Secondary
  · simp [h1, h2]
  ·
   by_cases h3 : e.Tertiary < 0 ∨ 65535 < e.Tertiary
   · simp [h1, h2, h3]
   ·
    simp only [h1, h2, h3, if_false, or_self, pv_bind]
    by_cases a : e.Primary = 0 <;> by_cases b : e.Secondary = 0 <;> by_cases c : e.Tertiary = 0 <;> cases e.Variable <;> simp [a, b, c]
theorem refelem_eq (e : Element) : ref42_Check e = some (elE e) := by
 unfold ref42_Check elE ref42_weight
 simp only [pv_bind, some_bind]
 by_cases a1 : 0 ≤ e.Primary
 ·
  by_cases a2 : e.Primary ≤ 65535
  ·
   by_cases b1 : 0 ≤ e.Secondary
   ·
    by_cases b2 : e.Secondary ≤ 65535
    ·
     by_cases c1 : 0 ≤ e.Tertiary
     ·
      by_cases c2 : e.Tertiary ≤ 65535
      ·
       have n1 : ¬ (e.Primary < 0 ∨ 65535 < e.Primary) := by omega
       have n2 : ¬ (e.Secondary < 0 ∨ 65535 < e.Secondary) := by omega
       have n3 : ¬ (e.Tertiary < 0 ∨ 65535 < e.Tertiary) := by omega
       simp only [a1, a2, b1, b2, c1, c2, n1, n2, n3, decide_true, Bool.and_self, Bool.not_true, Bool.not_false, gM_t, some_bind, Bool.or_self, cond_false, or_self, if_false]
       by_cases a : e.Primary = 0 <;> by_cases b : e.Secondary = 0 <;> by_cases c : e.Tertiary = 0 <;> cases e.Variable <;> simp [a, b, c]
      ·
       have : (65535 : Int) < e.Tertiary := by omega
       simp [a1, a2, b1, b2, c1, c2, gM_t, some_bind, this]
     ·
      have : e.Tertiary < 0 := by omega
      simp [a1, a2, b1, b2, c1, gM_t, some_bind, this]
    ·
     have : (65535 : Int) < e.Secondary := by omega
     simp [a1, a2, b1, b2, gM_t, gM_f, some_bind, this]
   ·
    have : e.Secondary < 0 := by omega
    simp [a1, a2, b1, gM_t, gM_f, some_bind, this]
  ·
   have : (65535 : Int) < e.Primary := by omega
   simp [a1, a2, gM_t, gM_f, some_bind, this]
 ·
  have : e.Primary < 0 := by omega
  simp [a1, gM_t, gM_f, some_bind, this]
def vld (c : Int) : Bool := decide (0 ≤ c) && decide (c ≤ 1114111)
theorem valid_eq (c : Int) : codepoint_Valid c = some (vld c) := rfl
theorem refvalid_eq (c : Int) : ref01_Valid c = some (vld c) := rfl
def pV (_ : Nat) (c : Int) : Option Int := if vld c then none else some 1
def pE (_ : Nat) (e : Element) : Option Int := if elE e = 0 then none else some (elE e)
def pP (b : Int) (_ : Nat) (e : Element) : Option Int := if b ≤ e.Primary then some 1 else none
def enE (x : Entry) (b : Int) : Int :=
 if x.Codes.length < 1 ∨ 8 < x.Codes.length ∨ 16 < x.Elements.length then 2
 else match chk pV x.Codes 0 with
  | some y => y
  | none => match chk pE x.Elements 0 with
   | some y => y
   | none => match chk (pP b) x.Elements 0 with
    | some y => y
    | none => 0
section
variable {x : Entry} (hc : x.Codes.length ≤ 1000) (he : x.Elements.length ≤ 1000)
include hc in
theorem eL0 : loopM (fun (v : Int) => colltable_checkEntry_L0 x v) 0 = some (toS (chk pV x.Codes 0)) := by
 refine loop_chk0 x.Codes _ (fun k h => ?_) (fun k h => ?_)
 ·
  simp only [colltable_checkEntry_L0, lt_t h, cond_true, idx_nat h, some_bind, valid_eq, wi_succ (k := k) (by omega), pV]
  cases vld x.Codes[k] <;> rfl
 · simp only [colltable_checkEntry_L0, lt_f h, cond_false]
include he in
theorem eL1 : loopM (fun (v : Int) => colltable_checkEntry_L1 x v) 0 = some (toS (chk pE x.Elements 0)) := by
 refine loop_chk0 x.Elements _ (fun k h => ?_) (fun k h => ?_)
 ·
  simp only [colltable_checkEntry_L1, lt_t h, cond_true, idx_nat h, some_bind, elem_eq, wi_succ (k := k) (by omega), pE]
  by_cases hq : elE x.Elements[k] = 0 <;> simp [hq, stp]
 · simp only [colltable_checkEntry_L1, lt_f h, cond_false]
include he in
theorem eL2 (b : Int) : loopM (fun (v : Int) => colltable_checkEntry_L2 x b v) 0 = some (toS (chk (pP b) x.Elements 0)) := by
 refine loop_chk0 x.Elements _ (fun k h => ?_) (fun k h => ?_)
 ·
  simp only [colltable_checkEntry_L2, lt_t h, cond_true, idx_nat h, some_bind, wi_succ (k := k) (by omega), pP]
  by_cases hq : b ≤ (x.Elements[k]).Primary <;> simp [hq, stp]
 · simp only [colltable_checkEntry_L2, lt_f h, cond_false]
theorem e0_eq : ref43_entry_L0 = colltable_checkEntry_L0 := rfl
theorem e2_eq (c : Collation) : (fun v => ref43_entry_L2 x c v) = fun v => colltable_checkEntry_L2 x c.Base v := rfl
include he in
theorem reL1 : loopM (fun (v : Int) => ref43_entry_L1 x v) 0 = some (toS (chk pE x.Elements 0)) := by
 refine loop_chk0 x.Elements _ (fun k h => ?_) (fun k h => ?_)
 ·
  simp only [ref43_entry_L1, lt_t h, cond_true, idx_nat h, some_bind, refelem_eq, wi_succ (k := k) (by omega), pE]
  by_cases hq : elE x.Elements[k] = 0 <;> simp [hq, stp]
 · simp only [ref43_entry_L1, lt_f h, cond_false]
theorem szc : (((decide ((x.Codes.length : Int) < 1) || decide (8 < (x.Codes.length : Int))) || decide (16 < (x.Elements.length : Int)))) = decide (x.Codes.length < 1 ∨ 8 < x.Codes.length ∨ 16 < x.Elements.length) := by
 rw [Bool.eq_iff_iff]; simp only [Bool.or_eq_true, decide_eq_true_eq]; omega
include hc he in
theorem entry_eq (b : Int) : colltable_checkEntry x b = some (enE x b) := by
 unfold colltable_checkEntry enE
 simp only [pv_bind, szc]
 by_cases hz : x.Codes.length < 1 ∨ 8 < x.Codes.length ∨ 16 < x.Elements.length
 · simp only [hz, decide_true, cond_true, if_true]
 ·
  simp only [hz, decide_false, cond_false, if_false]
  rw [eL0 hc, some_bind, toS_elim]
  cases chk pV x.Codes 0 with
  | some y => rfl
  | none =>
   simp only []
   rw [eL1 he, some_bind, toS_elim]
   cases chk pE x.Elements 0 with
   | some y => rfl
   | none =>
    simp only []
    rw [eL2 he, some_bind, toS_elim]
    cases chk (pP b) x.Elements 0 <;> rfl
end
def cmpE (a b : List Int) : Int := match chk (fun _ (p : Int × Int) => if p.1 = p.2 then none else some (if p.1 < p.2 then (-1 : Int) else 1)) (a.zip b) 0 with
 | some y => y
 | none => if a.length < b.length then -1 else if b.length < a.length then 1 else 0
section
variable {a b : List Int} (ha : a.length ≤ 1000) (hb : b.length ≤ 1000)
theorem cmpI (x y : Int) : cmp_Compare_int x y = some (if x < y then -1 else if y < x then 1 else 0) := by
 unfold cmp_Compare_int cmp_isNaN_int
 simp only [some_bind, decide_true, Bool.not_true, cond_false]
 by_cases h1 : x < y
 · simp [h1]
 · by_cases h2 : y < x <;> simp [h1, h2]
include ha in
theorem cL0 : loopM (fun (v : Int) => codepoint_Compare_L0 a b v) 0 = some (toS (chk (fun _ (p : Int × Int) => if p.1 = p.2 then none else some (if p.1 < p.2 then (-1 : Int) else 1)) (a.zip b) 0)) := by
 refine loop_chk0 (a.zip b) _ (fun k h => ?_) (fun k h => ?_)
 ·
  have hk := h
  rw [List.length_zip] at hk
  have h1 : k < a.length := by omega
  have h2 : k < b.length := by omega
  have e1 : decide ((k : Int) < min (a.length : Int) (b.length : Int)) = true := by simp; omega
  simp only [codepoint_Compare_L0, e1, cond_true, idx_nat h1, idx_nat h2, some_bind, cmpI, wi_succ (k := k) (by omega), List.getElem_zip]
  by_cases hq : a[k] = b[k]
  · simp [hq, stp]
  ·
   simp only [hq, decide_false, Bool.not_false, cond_true, if_false, stp]
   by_cases hl : a[k] < b[k]
   · simp [hl]
   ·
    have : b[k] < a[k] := by omega
    simp [hl, this]
 ·
  rw [List.length_zip] at h
  have e1 : decide ((k : Int) < min (a.length : Int) (b.length : Int)) = false := by simp; omega
  simp only [codepoint_Compare_L0, e1, cond_false]
include ha in
theorem rcL0 : loopM (fun (v : Int) => ref01_Compare_L0 a b v) 0 = some (toS (chk (fun _ (p : Int × Int) => if p.1 = p.2 then none else some (if p.1 < p.2 then (-1 : Int) else 1)) (a.zip b) 0)) := by
 refine loop_chk0 (a.zip b) _ (fun k h => ?_) (fun k h => ?_)
 ·
  have hk := h
  rw [List.length_zip] at hk
  have h1 : k < a.length := by omega
  have h2 : k < b.length := by omega
  simp only [ref01_Compare_L0, lt_t h1, lt_t h2, pv_bind, Bool.and_self, cond_true, idx_nat h1, idx_nat h2, some_bind, wi_succ (k := k) (by omega), List.getElem_zip]
  by_cases hl : a[k] < b[k]
  ·
   have : ¬ a[k] = b[k] := by omega
   simp [hl, this, stp]
  ·
   by_cases hr : b[k] < a[k]
   ·
    have : ¬ a[k] = b[k] := by omega
    simp [hl, hr, this, stp]
   ·
    have : a[k] = b[k] := by omega
    simp [this, stp]
 ·
  rw [List.length_zip] at h
  have e1 : (decide ((k : Int) < (a.length : Int)) && decide ((k : Int) < (b.length : Int))) = false := by
   rw [Bool.and_eq_false_iff]; simp; omega
  simp only [ref01_Compare_L0, pv_bind, e1, cond_false]
include ha in
theorem compare_eq : codepoint_Compare a b = some (cmpE a b) := by
 unfold codepoint_Compare cmpE
 rw [cL0 ha, some_bind, toS_elim]
 cases chk (fun _ (p : Int × Int) => if p.1 = p.2 then none else some (if p.1 < p.2 then (-1 : Int) else 1)) (a.zip b) 0 with
 | some y => rfl
 | none =>
  simp only [cmpI, some_bind]
  congr 1
  by_cases h1 : a.length < b.length
  ·
   have : (a.length : Int) < b.length := by omega
   simp [h1, this]
  ·
   have h1' : ¬ (a.length : Int) < b.length := by omega
   by_cases h2 : b.length < a.length
   ·
    have : (b.length : Int) < a.length := by omega
    simp [h1, h1', h2, this]
   ·
    have h2' : ¬ (b.length : Int) < a.length := by omega
    simp [h1, h1', h2, h2']
include ha in
theorem refcompare_eq : ref01_Compare a b = some (cmpE a b) := by
 unfold ref01_Compare cmpE
 rw [rcL0 ha, some_bind, toS_elim]
 cases chk (fun _ (p : Int × Int) => if p.1 = p.2 then none else some (if p.1 < p.2 then (-1 : Int) else 1)) (a.zip b) 0 with
 | some y => rfl
 | none =>
  simp only []
  by_cases h1 : a.length < b.length
  ·
   have : (a.length : Int) < b.length := by omega
   simp [h1, this]
  ·
   have h1' : ¬ (a.length : Int) < b.length := by omega
   by_cases h2 : b.length < a.length
   ·
    have : (b.length : Int) < a.length := by omega
    simp [h1, h1', h2, this]
   ·
    have h2' : ¬ (b.length : Int) < a.length := by omega
    simp [h1, h1', h2, h2']
end
end Go.M
namespace Go.M
open Go.AV
structure Sm (c : Collation) : Prop where
 en : c.Entries.length ≤ 12
 gr : c.Groups.length ≤ 8
 co : ∀ x ∈ c.Entries, x.Codes.length ≤ 10
 el : ∀ x ∈ c.Entries, x.Elements.length ≤ 20
def smB (c : Collation) : Bool := if 12 < c.Entries.length ∨ 8 < c.Groups.length then false else match chk (fun _ (x : Entry) => if 10 < x.Codes.length ∨ 20 < x.Elements.length then some false else none) c.Entries 0 with
 | some y => y
 | none => true
theorem chk_none {A Y : Type} {p : Nat → A → Option Y} : ∀ {l : List A} {k : Nat}, chk p l k = none → ∀ j (h : j < l.length), p (k + j) l[j] = none
 | [], _, _, j, h => by simp at h
 | x :: xs, k, hc, j, h => by
  simp only [chk] at hc
  cases hp : p k x with
  | some y => rw [hp] at hc; cases hc
  | none =>
   rw [hp] at hc
   cases j with
   | zero => simpa using hp
   | succ j =>
    have := chk_none hc j (by simp at h; omega)
    rw [show k + 1 + j = k + (j + 1) by omega] at this
    simpa using this
theorem chk_prop {A Y : Type} {p : Nat → A → Option Y} {P : Y → Prop} (hp : ∀ k x y, p k x = some y → P y) : ∀ {l : List A} {k : Nat} {y : Y}, chk p l k = some y → P y
 | [], _, _, h => by cases h
 | x :: xs, k, y, h => by
  simp only [chk] at h
  cases hq : p k x with
  | some y' => rw [hq] at h; cases h; exact hp _ _ _ hq
  | none => rw [hq] at h; exact chk_prop hp h
theorem small_eq (c : Collation) : ref43_Small c = some (smB c) := by
 unfold ref43_Small smB
 simp only [pv_bind]
 by_cases hz : 12 < c.Entries.length ∨ 8 < c.Groups.length
 ·
  have : (decide (12 < (c.Entries.length : Int)) || decide (8 < (c.Groups.length : Int))) = true := by simp only [Bool.or_eq_true, decide_eq_true_eq]; omega
  simp only [this, cond_true, hz, if_true]
 ·
  have h0 : (decide (12 < (c.Entries.length : Int)) || decide (8 < (c.Groups.length : Int))) = false := by simp only [Bool.or_eq_false_iff, decide_eq_false_iff_not]; omega
  have hl : loopM (fun (v : Int) => ref43_Small_L0 c v) 0 = some (toS (chk (fun _ (x : Entry) => if 10 < x.Codes.length ∨ 20 < x.Elements.length then some false else none) c.Entries 0)) := by
   refine loop_chk0 c.Entries _ (fun k h => ?_) (fun k h => ?_)
   ·
    simp only [ref43_Small_L0, lt_t h, cond_true, idx_nat h, some_bind, pv_bind, wi_succ (k := k) (by omega)]
    by_cases h1 : 10 < (c.Entries[k]).Codes.length
    ·
     have h1' : (10 : Int) < (c.Entries[k]).Codes.length := by omega
     simp [h1, h1', gM_f, some_bind, stp]
    ·
     have h1' : ¬ (10 : Int) < (c.Entries[k]).Codes.length := by omega
     by_cases h2 : 20 < (c.Entries[k]).Elements.length
     ·
      have h2' : (20 : Int) < (c.Entries[k]).Elements.length := by omega
      simp [h1, h1', h2, h2', gM_t, some_bind, stp]
     ·
      have h2' : ¬ (20 : Int) < (c.Entries[k]).Elements.length := by omega
      simp [h1, h1', h2, h2', gM_t, some_bind, stp]
   · simp only [ref43_Small_L0, lt_f h, cond_false]
  simp only [h0, cond_false, hz, if_false]
  rw [hl, some_bind, toS_elim]
  cases chk (fun _ (x : Entry) => if 10 < x.Codes.length ∨ 20 < x.Elements.length then some false else none) c.Entries 0 <;> rfl
theorem smB_sm {c : Collation} (h : smB c = true) : Sm c := by
 unfold smB at h
 split at h
 · cases h
 ·
  rename_i hz
  cases hc : chk (fun _ (x : Entry) => if 10 < x.Codes.length ∨ 20 < x.Elements.length then some false else none) c.Entries 0 with
  | some y =>
   exfalso
   rw [hc] at h
   have h' : y = true := h
   subst h'
   have := chk_prop (P := fun y => y = false) (fun k x y hy => by
    split at hy
    · cases hy; rfl
    · cases hy) hc
   cases this
  | none =>
   have hn := chk_none hc
   have hq : ∀ x ∈ c.Entries, ¬ (10 < x.Codes.length ∨ 20 < x.Elements.length) := by
    intro x hx
    obtain ⟨j, hj, rfl⟩ := List.getElem_of_mem hx
    have this : (if 10 < (c.Entries[j]).Codes.length ∨ 20 < (c.Entries[j]).Elements.length then some false else none) = none := hn j hj
    split at this
    · cases this
    · assumption
   exact ⟨by omega, by omega, fun x hx => by have := hq x hx; omega, fun x hx => by have := hq x hx; omega⟩
def pK (c : Collation) (k : Nat) (x : Entry) : Option Int :=
 if enE x c.Base ≠ 0 then some (enE x c.Base) else if 0 < k ∧ 0 ≤ cmpE (c.Entries.getD (k - 1) default).Codes x.Codes then some 4 else none
def wOk (w : Int) : Bool := decide (1 ≤ w) && decide (w ≤ 65535)
def ckE (c : Collation) : Int :=
 if c.Base < 1 ∨ 65502 < c.Base ∨ wOk c.Second = false ∨ wOk c.Third = false then 1
 else if grpE c ≠ 0 then grpE c
 else match chk (pK c) c.Entries 0 with
  | some y => y
  | none => 0
section
variable {c : Collation} (hs : Sm c) (hn : ∀ g ∈ c.Groups, g.Name.length ≤ MX)
include hs
theorem kL0 : loopM (fun (v : Int) => colltable_Check_L0 c v) 0 = some (toS (chk (pK c) c.Entries 0)) := by
 refine loop_chk0 c.Entries _ (fun k h => ?_) (fun k h => ?_)
 ·
  have hx := List.getElem_mem h
  have h12 := hs.en
  simp only [colltable_Check_L0, lt_t h, cond_true, idx_nat h, some_bind, pv_bind, entry_eq (Nat.le_trans (hs.co _ hx) (by omega)) (Nat.le_trans (hs.el _ hx) (by omega)), wi_succ (k := k) (by omega), pK]
  by_cases he : enE c.Entries[k] c.Base = 0
  ·
   simp only [he, decide_true, Bool.not_true, cond_false, ne_eq, not_true, if_false]
   cases k with
   | zero => simp [gM_f, some_bind, stp]
   | succ k =>
    have hk : k < c.Entries.length := by omega
    have e1 : wi (((k + 1 : Nat) : Int) - 1) = (k : Int) := wi_pred (by omega)
    have e2 : decide ((0 : Int) < ((k + 1 : Nat) : Int)) = true := by simp
    have e3 : c.Entries.getD (k + 1 - 1) default = c.Entries[k] := by simp [hk]
    rw [e2, gM_t, e1, idx_nat hk, some_bind, gM_t, compare_eq (Nat.le_trans (hs.co _ (List.getElem_mem hk)) (by omega)), some_bind, e3]
    by_cases hq : 0 ≤ cmpE (c.Entries[k]).Codes (c.Entries[k + 1]).Codes <;> simp [hq, stp]
  · simp [he, stp]
 · simp only [colltable_Check_L0, lt_f h, cond_false]
theorem rentry_eq {k : Nat} (h : k < c.Entries.length) : ref43_entry c (k : Int) = some (match pK c k c.Entries[k] with | some y => y | none => 0) := by
  have hx := List.getElem_mem h
  have h12 := hs.en
  have hc := Nat.le_trans (hs.co _ hx) (by omega : 10 ≤ 1000)
  have he := Nat.le_trans (hs.el _ hx) (by omega : 20 ≤ 1000)
  unfold ref43_entry
  simp only [idx_nat h, some_bind, pv_bind, szc, e0_eq, e2_eq]
  unfold pK enE
  by_cases hz : (c.Entries[k]).Codes.length < 1 ∨ 8 < (c.Entries[k]).Codes.length ∨ 16 < (c.Entries[k]).Elements.length
  · simp only [hz, decide_true, cond_true, if_true]
    rfl
  · simp only [hz, decide_false, cond_false, if_false]
    rw [eL0 hc, some_bind, toS_elim]
    cases h1 : chk pV (c.Entries[k]).Codes 0 with
    | some y =>
      have hy : y ≠ 0 := chk_prop (P := fun y => y ≠ 0) (fun k x y hy => by
            unfold pV at hy
            split at hy
            · first | (cases hy; done) | (cases hy; decide) | (cases hy; assumption)
            · first | (cases hy; done) | (cases hy; decide) | (cases hy; assumption)) h1
      simp [hy]
    | none =>
      simp only []
      rw [reL1 he, some_bind, toS_elim]
      cases h2 : chk pE (c.Entries[k]).Elements 0 with
      | some y =>
        have hy : y ≠ 0 := chk_prop (P := fun y => y ≠ 0) (fun k x y hy => by
            unfold pE at hy
            split at hy
            · first | (cases hy; done) | (cases hy; decide) | (cases hy; assumption)
            · first | (cases hy; done) | (cases hy; decide) | (cases hy; assumption)) h2
        simp [hy]
      | none =>
        simp only []
        rw [eL2 he, some_bind, toS_elim]
        cases h3 : chk (pP c.Base) (c.Entries[k]).Elements 0 with
        | some y =>
          have hy : y ≠ 0 := chk_prop (P := fun y => y ≠ 0) (fun k x y hy => by
            unfold pP at hy
            split at hy
            · first | (cases hy; done) | (cases hy; decide) | (cases hy; assumption)
            · first | (cases hy; done) | (cases hy; decide) | (cases hy; assumption)) h3
          simp [hy]
        | none =>
          simp only [ne_eq, not_true, if_false]
          cases k with
          | zero => simp [gM_f, some_bind]
          | succ k =>
            have hk : k < c.Entries.length := by omega
            have e1 : wi (((k + 1 : Nat) : Int) - 1) = (k : Int) := wi_pred (by omega)
            have e2 : decide ((0 : Int) < ((k + 1 : Nat) : Int)) = true := by simp
            have e3 : c.Entries.getD (k + 1 - 1) default = c.Entries[k] := by simp [hk]
            rw [e2, gM_t, e1, idx_nat hk, some_bind, gM_t, refcompare_eq (Nat.le_trans (hs.co _ (List.getElem_mem hk)) (by omega)), some_bind, e3]
            by_cases hq : 0 ≤ cmpE (c.Entries[k]).Codes (c.Entries[k + 1]).Codes <;> simp [hq]
theorem rkL0 : loopM (fun (v : Int) => ref43_Check_L0 c v) 0 = some (toS (chk (pK c) c.Entries 0)) := by
 refine loop_chk0 c.Entries _ (fun k h => ?_) (fun k h => ?_)
 ·
  have h12 := hs.en
  simp only [ref43_Check_L0, lt_t h, cond_true, rentry_eq hs h, some_bind, wi_succ (k := k) (by omega)]
  have hnz : ∀ y, pK c k c.Entries[k] = some y → y ≠ 0 := by
   intro y hy
   unfold pK at hy
   split at hy
   · cases hy; assumption
   ·
    split at hy
    · cases hy; decide
    · cases hy
  cases hp : pK c k c.Entries[k] with
  | some y => simp [hnz y hp, stp]
  | none => simp [stp]
 · simp only [ref43_Check_L0, lt_f h, cond_false]
omit hs in
theorem isW (w : Int) : colltable_isWeight w = some (wOk w) := rfl
omit hs in
theorem refW (w : Int) : ref43_weight w = some (wOk w) := rfl
include hn in
theorem check_eq : colltable_Check c = some (ckE c) := by
 unfold colltable_Check ckE
 simp only [pv_bind, isW]
 by_cases h1 : c.Base < 1
 · simp [h1, gM_f, some_bind]
 ·
  by_cases h2 : 65502 < c.Base
  · simp [h1, h2, gM_f, some_bind]
  ·
   by_cases h3 : wOk c.Second = false
   · simp [h1, h2, h3, gM_t, gM_f, some_bind]
   ·
    by_cases h4 : wOk c.Third = false
    · simp [h1, h2, h3, h4, gM_t, some_bind]
    ·
     simp only [Bool.not_eq_false] at h3 h4
     simp only [h1, h2, h3, h4, decide_false, Bool.or_self, Bool.not_false, gM_t, some_bind, Bool.not_true, cond_false, or_self, Bool.true_eq_false, if_false]
     rw [groups_eq (Nat.le_trans hs.gr (by omega)) hn, some_bind]
     by_cases hz : grpE c = 0
     ·
      simp only [hz, decide_true, Bool.not_true, cond_false, ne_eq, not_true, if_false]
      rw [kL0 hs, some_bind, toS_elim]
      cases chk (pK c) c.Entries 0 <;> rfl
     · simp [hz]
include hn in
theorem refcheck_eq : ref43_Check c = some (ckE c) := by
 unfold ref43_Check ckE
 simp only [pv_bind, refW]
 by_cases h1 : c.Base < 1
 · simp [h1, gM_f, some_bind]
 ·
  by_cases h2 : 65502 < c.Base
  · simp [h1, h2, gM_f, some_bind]
  ·
   by_cases h3 : wOk c.Second = false
   · simp [h1, h2, h3, gM_t, gM_f, some_bind]
   ·
    by_cases h4 : wOk c.Third = false
    · simp [h1, h2, h3, h4, gM_t, some_bind]
    ·
     simp only [Bool.not_eq_false] at h3 h4
     simp only [h1, h2, h3, h4, decide_false, Bool.or_self, Bool.not_false, gM_t, some_bind, Bool.not_true, cond_false, or_self, Bool.true_eq_false, if_false]
     rw [refgroups_eq (Nat.le_trans hs.gr (by omega)) hn, some_bind]
     by_cases hz : grpE c = 0
     ·
      simp only [hz, decide_true, Bool.not_true, cond_false, ne_eq, not_true, if_false]
      rw [rkL0 hs, some_bind, toS_elim]
      cases chk (pK c) c.Entries 0 <;> rfl
     · simp [hz]
end
theorem okNames {c : Collation} (h : okCollation c) : ∀ g ∈ c.Groups, g.Name.length ≤ MX := fun g hg => (h.2.1.2 g hg).1
end Go.M
namespace Go.M
open Go.AV
def lx : List Int → List Int → Prop
 | [], [] => False
 | [], _ :: _ => True
 | _ :: _, [] => False
 | x :: a, y :: b => x < y ∨ (x = y ∧ lx a b)
theorem lx_trans : ∀ {a b c : List Int}, lx a b → lx b c → lx a c
 | [], [], _, h, _ => h.elim
 | [], _ :: _, [], _, h => h.elim
 | [], _ :: _, _ :: _, _, _ => trivial
 | _ :: _, [], _, h, _ => h.elim
 | _ :: _, _ :: _, [], _, h => h.elim
 | x :: a, y :: b, z :: c, h1, h2 => by
  rcases h1 with h1 | ⟨rfl, h1⟩
  ·
   rcases h2 with h2 | ⟨rfl, _⟩
   · exact .inl (by omega)
   · exact .inl h1
  ·
   rcases h2 with h2 | ⟨rfl, h2⟩
   · exact .inl h2
   · exact .inr ⟨rfl, lx_trans h1 h2⟩
theorem lx_irrefl : ∀ {a : List Int}, ¬ lx a a
 | [], h => h
 | x :: a, h => by
  rcases h with h | ⟨_, h⟩
  · omega
  · exact lx_irrefl h
def pC (_ : Nat) (p : Int × Int) : Option Int := if p.1 = p.2 then none else some (if p.1 < p.2 then (-1 : Int) else 1)
def cmpR (a b : List Int) (k : Nat) : Int := match chk pC (a.zip b) k with
 | some y => y
 | none => if a.length < b.length then -1 else if b.length < a.length then 1 else 0
theorem cmpR_spec : ∀ (a b : List Int) (k : Nat), (cmpR a b k < 0 ↔ lx a b) ∧ (cmpR a b k = 0 ↔ a = b)
  | [], [], k => by simp [cmpR, chk, lx]
  | [], y :: b, k => by simp [cmpR, chk, lx]
  | x :: a, [], k => by simp [cmpR, chk, lx]
  | x :: a, y :: b, k => by
    have ih := cmpR_spec a b (k + 1)
    by_cases he : x = y
    · subst he
      have e1 : cmpR (x :: a) (x :: b) k = cmpR a b (k + 1) := by
        simp only [cmpR, List.zip_cons_cons, chk, pC, if_true, List.length_cons]
        cases chk pC (a.zip b) (k + 1) with
        | some y => rfl
        | none =>
          simp only []
          by_cases h1 : a.length < b.length
          · simp [h1]
          · by_cases h2 : b.length < a.length <;> simp [h1, h2]
      rw [e1]
      refine ⟨ih.1.trans ?_, ih.2.trans ?_⟩
      · simp [lx]
      · simp
    · have e1 : cmpR (x :: a) (y :: b) k = if x < y then -1 else 1 := by
        simp only [cmpR, List.zip_cons_cons, chk, pC, he, if_false]
      rw [e1]
      by_cases hl : x < y
      · simp [hl, lx, he]
      · simp [hl, lx, he]
theorem cmpE_R (a b : List Int) : cmpE a b = cmpR a b 0 := rfl
def keyL (a : List Int) : A9Int := { x0 := a.length, x1 := cpA a 0 0, x2 := cpA a 1 0, x3 := cpA a 2 0, x4 := cpA a 3 0, x5 := cpA a 4 0, x6 := cpA a 5 0, x7 := cpA a 6 0, x8 := cpA a 7 0 }
theorem keyOf_eq (a : List Int) : colltable_keyOf a = some (keyL a) := rfl
theorem keyL_inj {a b : List Int} (ha : a.length ≤ 8) (h : keyL a = keyL b) : a = b := by
 unfold keyL at h
 simp only [A9Int.mk.injEq] at h
 obtain ⟨hl, h1, h2, h3, h4, h5, h6, h7, h8⟩ := h
 have hl : a.length = b.length := by omega
 apply List.ext_getElem hl
 intro i hi hi'
 have key : ∀ j, j < a.length → cpA a j 0 = cpA b j 0 → a.getD j 0 = b.getD j 0 := fun j _ h => by simpa [cpA, List.getD_eq_getElem?_getD] using h
 have : a.getD i 0 = b.getD i 0 := by
  have hi8 : i < 8 := by omega
  match i, hi8 with
  | 0, _ => exact key 0 hi h1
  | 1, _ => exact key 1 hi h2
  | 2, _ => exact key 2 hi h3
  | 3, _ => exact key 3 hi h4
  | 4, _ => exact key 4 hi h5
  | 5, _ => exact key 5 hi h6
  | 6, _ => exact key 6 hi h7
  | 7, _ => exact key 7 hi h8
 simpa [List.getD_eq_getElem?_getD, hi, hi'] using this
def datE (c : Collation) : Collation := if ckE c = 0 then c else { Entries := [], Groups := [], Base := 64448, Second := 32, Third := 2 }
def tabE (es : List Entry) (m : List (A9Int × List Element)) : List (A9Int × List Element) := es.foldl (fun m x => mput m (keyL x.Codes) x.Elements) m
def lonE (es : List Entry) (n : Int) : Int := es.foldl (fun n x => max n (x.Codes.length : Int)) n
def tblE (c : Collation) : Colltable_table := { c := datE c, entries := tabE (datE c).Entries [], longest := lonE (datE c).Entries 0, classes := [], top := 0 }
theorem made_loop (y : (List Entry) × (List Group) × Int × Int × Int) (hl : y.1.length ≤ 1000) : ∀ (n k : Nat) (m : List (A9Int × List Element)) (q : Int), y.1.length - k = n → 
    loopM (fun (x : Int × (List (A9Int × (List Element))) × Int) => colltable_made_L0 y x.1 x.2.1 x.2.2) ((k : Int), m, q) = some (tabE (y.1.drop k) m, lonE (y.1.drop k) q) := by
  intro n
  induction n with
  | zero =>
    intro k m q hk
    have hk' : y.1.length ≤ k := by omega
    rw [loopM_eq, List.drop_of_length_le hk']
    simp only [colltable_made_L0, lt_f hk', cond_false]
    rfl
  | succ n ih =>
    intro k m q hk
    have hlt : k < y.1.length := by omega
    rw [loopM_eq, List.drop_eq_getElem_cons hlt]
    simp only [colltable_made_L0, lt_t hlt, cond_true, idx_nat hlt, some_bind, keyOf_eq, wi_succ (k := k) (by omega)]
    exact ih (k + 1) _ _ (by omega)
theorem made_eq {c : Collation} (hs : Sm c) (hn : ∀ g ∈ c.Groups, g.Name.length ≤ MX) : colltable_made c = some (tblE c) := by
 unfold colltable_made
 have hc : colltable_Check { Entries := c.Entries, Groups := c.Groups, Base := c.Base, Second := c.Second, Third := c.Third } = some (ckE c) := check_eq hs hn
 rw [hc, some_bind]
 unfold tblE datE
 have h12 := hs.en
 by_cases hz : ckE c = 0
 ·
  simp only [hz, decide_true, Bool.not_true, cond_false, if_true, some_bind]
  have := made_loop (c.Entries, c.Groups, c.Base, c.Second, c.Third) (by show c.Entries.length ≤ 1000; omega) c.Entries.length 0 [] 0 (by show c.Entries.length - 0 = _; omega)
  have h0 : loopM (fun (x : Int × (List (A9Int × (List Element))) × Int) => colltable_made_L0 (c.Entries, c.Groups, c.Base, c.Second, c.Third) x.1 x.2.1 x.2.2) (0, [], 0) = some (tabE c.Entries [], lonE c.Entries 0) := by simpa using this
  rw [h0]
  rfl
 ·
  simp only [hz, decide_false, Bool.not_false, cond_true, if_false, some_bind]
  have := made_loop (([] : List Entry), ([] : List Group), 64448, 32, 2) (by simp) 0 0 [] 0 (by simp)
  have h0 : loopM (fun (x : Int × (List (A9Int × (List Element))) × Int) => colltable_made_L0 (([] : List Entry), ([] : List Group), 64448, 32, 2) x.1 x.2.1 x.2.2) (0, [], 0) = some (tabE [] [], lonE [] 0) := by simpa using this
  rw [h0]
  rfl
structure Vd (es : List Entry) : Prop where
 lo : ∀ x ∈ es, 1 ≤ x.Codes.length
 hi : ∀ x ∈ es, x.Codes.length ≤ 8
 el : ∀ x ∈ es, x.Elements.length ≤ 20
 ne : es.Pairwise fun x y => x.Codes ≠ y.Codes
theorem dat_vd {c : Collation} (hs : Sm c) : Vd (datE c).Entries := by
 unfold datE
 by_cases hz : ckE c = 0
 ·
  simp only [hz, if_true]
  have hk : chk (pK c) c.Entries 0 = none := by
   unfold ckE at hz
   split at hz
   · cases hz
   ·
    split at hz
    · rename_i hg; exact absurd hz hg
    ·
     cases hc : chk (pK c) c.Entries 0 with
     | none => rfl
     | some y =>
      rw [hc] at hz
      have hy : y ≠ 0 := chk_prop (P := fun y => y ≠ 0) (fun k x y hy => by
       unfold pK at hy
       split at hy
       · cases hy; assumption
       ·
        split at hy
        · cases hy; decide
        · cases hy) hc
      exact absurd hz hy
  have hn := chk_none hk
  have hen : ∀ j (h : j < c.Entries.length), enE c.Entries[j] c.Base = 0 ∧ (0 < j → lx (c.Entries.getD (j - 1) default).Codes (c.Entries[j]).Codes) := by
   intro j h
   have := hn j h
   rw [Nat.zero_add] at this
   unfold pK at this
   split at this
   · cases this
   ·
    rename_i h1
    split at this
    · cases this
    ·
     rename_i h2
     refine ⟨by simpa using h1, fun hj => ?_⟩
     have h3 : ¬ 0 ≤ cmpE (c.Entries.getD (j - 1) default).Codes (c.Entries[j]).Codes := fun h => h2 ⟨hj, h⟩
     exact ((cmpR_spec _ _ 0).1).1 (by rw [← cmpE_R]; omega)
  have hsz : ∀ j (h : j < c.Entries.length), 1 ≤ (c.Entries[j]).Codes.length ∧ (c.Entries[j]).Codes.length ≤ 8 := by
   intro j h
   have := (hen j h).1
   unfold enE at this
   split at this
   · cases this
   · omega
  have hlt : ∀ n i (h : i + n + 1 < c.Entries.length), lx (c.Entries[i]).Codes (c.Entries[i + n + 1]).Codes := by
   intro n
   induction n with
   | zero =>
    intro i h
    have := (hen (i + 1) (by omega)).2 (by omega)
    have e1 : c.Entries.getD (i + 1 - 1) default = c.Entries[i] := by
     have : i < c.Entries.length := by omega
     simp [this]
    rw [e1] at this
    exact this
   | succ n ih =>
    intro i h
    have h1 := ih i (by omega)
    have h2 := (hen (i + (n + 1) + 1) (by omega)).2 (by omega)
    have e1 : c.Entries.getD (i + (n + 1) + 1 - 1) default = c.Entries[i + n + 1] := by
     have : i + n + 1 < c.Entries.length := by omega
     rw [show i + (n + 1) + 1 - 1 = i + n + 1 by omega]
     simp [this]
    rw [e1] at h2
    exact lx_trans h1 h2
  refine ⟨fun x hx => ?_, fun x hx => ?_, hs.el, ?_⟩
  · obtain ⟨j, hj, rfl⟩ := List.getElem_of_mem hx; exact (hsz j hj).1
  · obtain ⟨j, hj, rfl⟩ := List.getElem_of_mem hx; exact (hsz j hj).2
  ·
   rw [List.pairwise_iff_getElem]
   intro i j hi hj hij he
   have := hlt (j - i - 1) i (by omega)
   have e1 : i + (j - i - 1) + 1 = j := by omega
   simp only [e1] at this
   rw [he] at this
   exact lx_irrefl this
 ·
  simp only [hz, if_false]
  exact ⟨by simp, by simp, by simp, by simp⟩
theorem mget_mput {κ ν : Type} [DecidableEq κ] (m : List (κ × ν)) (k k' : κ) (v : ν) : mget (mput m k v) k' = if k' = k then some v else mget m k' := by
 induction m with
 | nil => simp only [mput, mget]
 | cons p m ih =>
  obtain ⟨q, u⟩ := p
  simp only [mput]
  by_cases hq : k = q
  ·
   subst hq
   simp only [if_true, mget]
   by_cases h : k' = k <;> simp [h]
  ·
   simp only [hq, if_false, mget]
   by_cases h : k' = q
   ·
    subst h
    have : ¬ k' = k := fun e => hq e.symm
    simp [this]
   · simp only [h, if_false]; exact ih
theorem tab_get (codes : List Int) (hc : codes.length ≤ 8) : ∀ (es : List Entry) (m : List (A9Int × List Element)), (∀ x ∈ es, x.Codes.length ≤ 8) → es.Pairwise (fun x y => x.Codes ≠ y.Codes) →
    mget (tabE es m) (keyL codes) = match es.find? (fun x => decide (x.Codes = codes)) with | some x => some x.Elements | none => mget m (keyL codes)
  | [], m, _, _ => rfl
  | x :: es, m, h8, hp => by
    rw [List.pairwise_cons] at hp
    have ih := tab_get codes hc es (mput m (keyL x.Codes) x.Elements) (fun y hy => h8 y (by simp [hy])) hp.2
    show mget (tabE es (mput m (keyL x.Codes) x.Elements)) (keyL codes) = _
    rw [ih, mget_mput]
    by_cases he : x.Codes = codes
    · have hno : es.find? (fun x => decide (x.Codes = codes)) = none := by
        rw [List.find?_eq_none]
        intro y hy
        have := hp.1 y hy
        simp only [decide_eq_true_eq]
        intro e
        exact this (he.trans e.symm)
      simp [hno, he]
    · have hk : ¬ keyL codes = keyL x.Codes := fun e => he (keyL_inj hc e).symm
      simp [he, hk]
theorem lon_le : ∀ (es : List Entry) (n : Int), n ≤ lonE es n ∧ ∀ x ∈ es, (x.Codes.length : Int) ≤ lonE es n
 | [], n => ⟨by show n ≤ n; omega, by simp⟩
 | x :: es, n => by
  have ih := lon_le es (max n (x.Codes.length : Int))
  show n ≤ lonE es (max n (x.Codes.length : Int)) ∧ ∀ y ∈ x :: es, (y.Codes.length : Int) ≤ lonE es (max n (x.Codes.length : Int))
  refine ⟨by omega, fun y hy => ?_⟩
  rcases List.mem_cons.1 hy with rfl | hy
  · omega
  · exact ih.2 y hy
theorem lon_bd : ∀ (es : List Entry) (n : Int), (∀ x ∈ es, x.Codes.length ≤ 8) → n ≤ 8 → lonE es n ≤ 8
 | [], n, _, h => h
 | x :: es, n, h8, h => lon_bd es (max n (x.Codes.length : Int)) (fun y hy => h8 y (by simp [hy])) (by have := h8 x (by simp); omega)
def finE (es : List Entry) (codes : List Int) : List Element × Bool := match es.find? (fun x => decide (x.Codes = codes)) with
 | some x => (x.Elements, true)
 | none => ([], false)
theorem find_eq {c : Collation} (hs : Sm c) {codes : List Int} : colltable_table_find (tblE c) codes = some (finE (datE c).Entries codes) := by
  have hv := dat_vd hs
  unfold colltable_table_find
  simp only [pv_bind, keyOf_eq, some_bind]
  have hlon := lon_le (datE c).Entries 0
  have hlb := lon_bd (datE c).Entries 0 hv.hi (by omega)
  by_cases h0 : codes.length = 0 ∨ lonE (datE c).Entries 0 < (codes.length : Int)
  · have e1 : (decide ((codes.length : Int) = 0) || decide ((tblE c).longest < (codes.length : Int))) = true := by
      simp only [Bool.or_eq_true, decide_eq_true_eq]
      rcases h0 with h | h
      · left; omega
      · right; exact h
    rw [e1, cond_true]
    have hno : (datE c).Entries.find? (fun x => decide (x.Codes = codes)) = none := by
      rw [List.find?_eq_none]
      intro x hx
      simp only [decide_eq_true_eq]
      intro e
      have h1 := hv.lo x hx
      have h2 := hlon.2 x hx
      rw [e] at h1 h2
      rcases h0 with h | h <;> omega
    simp only [finE, hno]
  · have e1 : (decide ((codes.length : Int) = 0) || decide ((tblE c).longest < (codes.length : Int))) = false := by
      simp only [Bool.or_eq_false_iff, decide_eq_false_iff_not]
      refine ⟨by omega, fun h => h0 (.inr h)⟩
    rw [e1, cond_false]
    have hg := tab_get codes (by omega) (datE c).Entries [] hv.hi hv.ne
    have hg2 : mget (tblE c).entries (keyL codes) = match (datE c).Entries.find? (fun x => decide (x.Codes = codes)) with | some x => some x.Elements | none => none := hg
    simp only [mgetD, mhas, hg2, finE]
    cases (datE c).Entries.find? (fun x => decide (x.Codes = codes)) <;> rfl
end Go.M
namespace Go.M
open Go.AV
theorem app0 {α : Type} {l : List α} (h : l.length ≤ 1000) : app [] l = some l := by
 rw [app_ok (by simp; omega)]
 rfl
theorem refdata_eq {c : Collation} (hs : Sm c) (hn : ∀ g ∈ c.Groups, g.Name.length ≤ MX) : ref43_Data c = some (datE c) := by
 unfold ref43_Data datE
 rw [refcheck_eq hs hn, some_bind]
 by_cases hz : ckE c = 0 <;> simp [hz]
theorem equal_eq {a b : List Int} (ha : a.length ≤ 1000) : ref01_Equal a b = some (decide (a = b)) := by
 unfold ref01_Equal
 rw [refcompare_eq ha, some_bind, cmpE_R]
 congr 1
 rw [Bool.eq_iff_iff]
 simp only [decide_eq_true_eq]
 exact (cmpR_spec a b 0).2
theorem chk_find (codes : List Int) : ∀ (es : List Entry) (k : Nat), chk (fun _ (x : Entry) => if x.Codes = codes then some (true, x.Elements) else none) es k = (es.find? (fun x => decide (x.Codes = codes))).map fun x => (true, x.Elements)
 | [], _ => rfl
 | x :: es, k => by
  simp only [chk, List.find?_cons]
  by_cases h : x.Codes = codes
  · simp [h]
  · simp only [h, if_false, decide_false]; exact chk_find codes es (k + 1)
theorem reffind_eq {es : List Entry} (hv : Vd es) (hl : es.length ≤ 1000) {d : Collation} (hd : d.Entries = es) (codes : List Int) : ref43_find d codes = some (finE es codes) := by
 have hloop : loopM (fun (v : Int) => ref43_find_L0 d codes v) 0 = some (toS (chk (fun _ (x : Entry) => if x.Codes = codes then some (true, x.Elements) else none) es 0)) := by
  subst hd
  refine loop_chk0 d.Entries _ (fun k h => ?_) (fun k h => ?_)
  ·
   have hx := List.getElem_mem h
   have e8 := hv.hi _ hx
   simp only [ref43_find_L0, lt_t h, cond_true, idx_nat h, some_bind, equal_eq (Nat.le_trans e8 (by omega)), wi_succ (k := k) (by omega)]
   by_cases hq : (d.Entries[k]).Codes = codes
   ·
    rw [app0 (Nat.le_trans (hv.el _ hx) (by omega))]
    simp [hq, stp, some_bind]
   · simp [hq, stp]
  · simp only [ref43_find_L0, lt_f h, cond_false]
 unfold ref43_find finE
 rw [hloop, some_bind, toS_elim, chk_find]
 cases es.find? (fun x => decide (x.Codes = codes)) <;> rfl
theorem dat_len {c : Collation} (hs : Sm c) : (datE c).Entries.length ≤ 1000 := by
 unfold datE
 have := hs.en
 by_cases hz : ckE c = 0
 · simp only [hz, if_true]; omega
 · simp [hz]
theorem same_eq {a : List Element} (ha : a.length ≤ 1000) : ref43_Same a a = some true := by
 unfold ref43_Same
 have hl : loopM (fun (v : Int) => ref43_Same_L0 a a v) 0 = some (toS (chk (fun _ (_ : Element) => (none : Option Bool)) a 0)) := by
  refine loop_chk0 a _ (fun k h => ?_) (fun k h => ?_)
  · simp only [ref43_Same_L0, lt_t h, cond_true, idx_nat h, some_bind, decide_true, Bool.not_true, cond_false, wi_succ (k := k) (by omega), stp]
  · simp only [ref43_Same_L0, lt_f h, cond_false]
 have hn : ∀ (l : List Element) (k : Nat), chk (fun _ (_ : Element) => (none : Option Bool)) l k = none := by
  intro l
  induction l with
  | nil => intro k; rfl
  | cons x l ih => intro k; exact ih (k + 1)
 simp only [decide_true, Bool.not_true, cond_false, hl, some_bind, hn, toS]
 rfl
theorem fin_len {es : List Entry} (hv : Vd es) (codes : List Int) : (finE es codes).1.length ≤ 1000 := by
 unfold finE
 cases h : es.find? (fun x => decide (x.Codes = codes)) with
 | none => simp
 | some x => exact Nat.le_trans (hv.el x (List.mem_of_find?_eq_some h)) (by omega)
def impE (d : Collation) (code : Int) : List Element := if vld code = true then
 [({ Primary := wi (d.Base + wi (code.tdiv 32768)), Secondary := d.Second, Tertiary := d.Third, Variable := false } : Element), ({ Primary := wi (32768 + code.tmod 32768), Secondary := 0, Tertiary := 0, Variable := false } : Element)] else []
theorem implicit_eq (c : Collation) (code : Int) : colltable_table_implicit (tblE c) code = some (impE (datE c) code) := by
 unfold colltable_table_implicit impE
 rw [valid_eq, some_bind]
 cases vld code <;> simp [divM, remM, tblE]
theorem refimplicit_eq {c : Collation} (hs : Sm c) (hn : ∀ g ∈ c.Groups, g.Name.length ≤ MX) (code : Int) : ref43_Implicit c code = some (impE (datE c) code) := by
 unfold ref43_Implicit impE
 rw [refvalid_eq, some_bind, refdata_eq hs hn]
 cases vld code <;> simp [divM, remM]
theorem imp_len (d : Collation) (code : Int) : (impE d code).length ≤ 1000 := by
 unfold impE
 cases vld code <;> simp
end Go.M
namespace Go.M
open Go.AV
def nth {α : Type} [Inhabited α] (l : List α) (k : Nat) : α := l.getD k default
theorem idx_nth {α : Type} [Inhabited α] {l : List α} {k : Nat} (h : k < l.length) : idx l (k : Int) = some (nth l k) := by
 rw [idx_nat h]; simp [nth, h]
theorem nth_mem {α : Type} [Inhabited α] {l : List α} {k : Nat} (h : k < l.length) : nth l k ∈ l := by
 simp [nth, h]
theorem nth_eq {α : Type} [Inhabited α] {l : List α} {k : Nat} (h : k < l.length) : nth l k = l[k] := by simp [nth, h]
theorem all_nth {α : Type} [Inhabited α] {l : List α} {p : α → Prop} : (∀ k, k < l.length → p (nth l k)) ↔ ∀ x ∈ l, p x := by
 constructor
 ·
  intro h x hx
  obtain ⟨k, hk, rfl⟩ := List.getElem_of_mem hx
  have := h k hk
  rwa [nth_eq hk] at this
 · intro h k hk; exact h _ (nth_mem hk)
def Ver (m : Option Int) (p : Prop) : Prop := ∃ e, m = some e ∧ (e = 0 ↔ p)
theorem loop_ver {Y : Type} {body : Int → Option (Stp Int (Unit ⊕ Y))} (N : Nat) (P : Nat → Prop) (Q : Y → Prop) (s : Nat)
    (hb : ∀ k, s ≤ k → k < N → (P k ∧ body (k : Int) = some (.next ((k + 1 : Nat) : Int))) ∨ (¬ P k ∧ ∃ y, Q y ∧ body (k : Int) = some (.done (.inr y))))
    (he : ∀ k, N ≤ k → body (k : Int) = some (.done (.inl ()))) :
    ∀ (n k : Nat), N - k = n → s ≤ k → (loopM body (k : Int) = some (.inl ()) ∧ ∀ j, k ≤ j → j < N → P j) ∨ (∃ y, Q y ∧ loopM body (k : Int) = some (.inr y) ∧ ¬ ∀ j, k ≤ j → j < N → P j) := by
  intro n
  induction n with
  | zero =>
    intro k hk _
    refine .inl ⟨loopM_done (he k (by omega)), fun j h1 h2 => by omega⟩
  | succ n ih =>
    intro k hk hs
    rcases hb k hs (by omega) with ⟨hp, h⟩ | ⟨hp, y, hy, h⟩
    · rw [loopM_next h]
      rcases ih (k + 1) (by omega) (by omega) with ⟨h1, h2⟩ | ⟨y, hy, h1, h2⟩
      · refine .inl ⟨h1, fun j hj1 hj2 => ?_⟩
        by_cases e : j = k
        · subst e; exact hp
        · exact h2 j (by omega) hj2
      · exact .inr ⟨y, hy, h1, fun hh => h2 fun j hj1 hj2 => hh j (by omega) hj2⟩
    · exact .inr ⟨y, hy, loopM_done h, fun hh => hp (hh k (Nat.le_refl _) (by omega))⟩
theorem ver_if {X Y : Type} {P : Prop} {b : Bool} {k' : X} {y : Y} {Q : Y → Prop} (hb : b = true ↔ ¬ P) (hy : Q y) : (P ∧ (cond b (some (Stp.done (Sum.inr y))) (some (.next k')) : Option (Stp X (Unit ⊕ Y))) = some (.next k')) ∨ (¬ P ∧ ∃ y', Q y' ∧ (cond b (some (Stp.done (Sum.inr y))) (some (.next k')) : Option (Stp X (Unit ⊕ Y))) = some (.done (.inr y'))) := by
 cases b with
 | true => exact .inr ⟨hb.1 rfl, y, hy, rfl⟩
 | false => exact .inl ⟨Classical.byContradiction (fun h => Bool.noConfusion (hb.2 h)), rfl⟩
theorem loop_ver0 {Y : Type} {body : Int → Option (Stp Int (Unit ⊕ Y))} (N : Nat) (P : Nat → Prop) (Q : Y → Prop)
    (hb : ∀ k, k < N → (P k ∧ body (k : Int) = some (.next ((k + 1 : Nat) : Int))) ∨ (¬ P k ∧ ∃ y, Q y ∧ body (k : Int) = some (.done (.inr y))))
    (he : ∀ k, N ≤ k → body (k : Int) = some (.done (.inl ()))) :
    (loopM body 0 = some (.inl ()) ∧ ∀ j, j < N → P j) ∨ (∃ y, Q y ∧ loopM body 0 = some (.inr y) ∧ ¬ ∀ j, j < N → P j) := by
  rcases loop_ver N P Q 0 (fun k _ h => hb k h) he N 0 (by omega) (by omega) with ⟨h1, h2⟩ | ⟨y, hy, h1, h2⟩
  · exact .inl ⟨h1, fun j hj => h2 j (by omega) hj⟩
  · exact .inr ⟨y, hy, h1, fun hh => h2 fun j _ hj => hh j hj⟩
theorem loop_ver1 {Y : Type} {body : Int → Option (Stp Int (Unit ⊕ Y))} (N : Nat) (P : Nat → Prop) (Q : Y → Prop)
    (hb : ∀ k, k + 1 < N → (P k ∧ body ((k + 1 : Nat) : Int) = some (.next ((k + 2 : Nat) : Int))) ∨ (¬ P k ∧ ∃ y, Q y ∧ body ((k + 1 : Nat) : Int) = some (.done (.inr y))))
    (he : ∀ k, N ≤ k → body (k : Int) = some (.done (.inl ()))) :
    (loopM body 1 = some (.inl ()) ∧ ∀ j, j + 1 < N → P j) ∨ (∃ y, Q y ∧ loopM body 1 = some (.inr y) ∧ ¬ ∀ j, j + 1 < N → P j) := by
  have := loop_ver N (fun k => P (k - 1)) Q 1 (fun k h1 h2 => by
    cases k with
    | zero => omega
    | succ k => exact hb k h2) he (N - 1) 1 (by omega) (by omega)
  rcases this with ⟨h1, h2⟩ | ⟨y, hy, h1, h2⟩
  · exact .inl ⟨h1, fun j hj => h2 (j + 1) (by omega) hj⟩
  · refine .inr ⟨y, hy, h1, fun hh => h2 fun j hj1 hj2 => ?_⟩
    cases j with
    | zero => omega
    | succ j => exact hh j hj2
def spOk (s : Span) : Prop := 0 ≤ s.Lo ∧ s.Hi ≤ 1114111 ∧ s.Lo ≤ s.Hi ∧ 1 ≤ s.Value ∧ s.Value ≤ 254
def adOk (a b : Span) : Prop := a.Hi < b.Lo ∧ ¬ (b.Lo = a.Hi + 1 ∧ b.Value = a.Value)
def hgOk (s : Span) : Prop := ¬ (s.Lo ≤ 4370 ∧ 4352 ≤ s.Hi) ∧ ¬ (s.Lo ≤ 4469 ∧ 4449 ≤ s.Hi) ∧ ¬ (s.Lo ≤ 4546 ∧ 4520 ≤ s.Hi) ∧ ¬ (s.Lo ≤ 55203 ∧ 44032 ≤ s.Hi)
structure CV (l : List Span) : Prop where
 sp : ∀ k, k < l.length → spOk (nth l k)
 ad : ∀ k, k + 1 < l.length → adOk (nth l k) (nth l (k + 1))
 hg : ∀ k, k < l.length → hgOk (nth l k)
theorem ordL3 (s : Span) : (loopM (fun (x : Int) => ordering_Check_L3 ({ x0 := ({ Lo := 4352, Hi := 4370 } : Range), x1 := ({ Lo := 4449, Hi := 4469 } : Range), x2 := ({ Lo := 4520, Hi := 4546 } : Range), x3 := ({ Lo := 44032, Hi := 55203 } : Range) } : A4Range) s x) 0 = some (.inl ()) ∧ hgOk s) ∨ (loopM (fun (x : Int) => ordering_Check_L3 ({ x0 := ({ Lo := 4352, Hi := 4370 } : Range), x1 := ({ Lo := 4449, Hi := 4469 } : Range), x2 := ({ Lo := 4520, Hi := 4546 } : Range), x3 := ({ Lo := 44032, Hi := 55203 } : Range) } : A4Range) s x) 0 = some (.inr 11) ∧ ¬ hgOk s) := by
  have h := loop_ver0 (body := fun (x : Int) => ordering_Check_L3 ({ x0 := ({ Lo := 4352, Hi := 4370 } : Range), x1 := ({ Lo := 4449, Hi := 4469 } : Range), x2 := ({ Lo := 4520, Hi := 4546 } : Range), x3 := ({ Lo := 44032, Hi := 55203 } : Range) } : A4Range) s x) 4
    (fun k => ¬ (s.Lo ≤ (nth [({ Lo := 4352, Hi := 4370 } : Range), { Lo := 4449, Hi := 4469 }, { Lo := 4520, Hi := 4546 }, { Lo := 44032, Hi := 55203 }] k).Hi ∧ (nth [({ Lo := 4352, Hi := 4370 } : Range), { Lo := 4449, Hi := 4469 }, { Lo := 4520, Hi := 4546 }, { Lo := 44032, Hi := 55203 }] k).Lo ≤ s.Hi)) (fun y => y = 11) (fun k hk => ?_) (fun k hk => ?_)
  · have e : (∀ j, j < 4 → ¬ (s.Lo ≤ (nth [({ Lo := 4352, Hi := 4370 } : Range), { Lo := 4449, Hi := 4469 }, { Lo := 4520, Hi := 4546 }, { Lo := 44032, Hi := 55203 }] j).Hi ∧ (nth [({ Lo := 4352, Hi := 4370 } : Range), { Lo := 4449, Hi := 4469 }, { Lo := 4520, Hi := 4546 }, { Lo := 44032, Hi := 55203 }] j).Lo ≤ s.Hi)) ↔ hgOk s := by
      unfold hgOk
      constructor
      · intro h; exact ⟨h 0 (by omega), h 1 (by omega), h 2 (by omega), h 3 (by omega)⟩
      · rintro ⟨h0, h1, h2, h3⟩ j hj
        match j, hj with
        | 0, _ => exact h0
        | 1, _ => exact h1
        | 2, _ => exact h2
        | 3, _ => exact h3
    rw [e] at h
    rcases h with h | ⟨y, rfl, h⟩
    · exact .inl h
    · exact .inr h
  · have hi : idx [({ Lo := 4352, Hi := 4370 } : Range), { Lo := 4449, Hi := 4469 }, { Lo := 4520, Hi := 4546 }, { Lo := 44032, Hi := 55203 }] (k : Int) = some (nth [({ Lo := 4352, Hi := 4370 } : Range), { Lo := 4449, Hi := 4469 }, { Lo := 4520, Hi := 4546 }, { Lo := 44032, Hi := 55203 }] k) := idx_nth (by simpa using hk)
    have hd : decide ((k : Int) < 4) = true := by simp; omega
    simp only [ordering_Check_L3, hd, cond_true, hi, some_bind, pv_bind, wi_succ (k := k) (by omega)]
    generalize nth [({ Lo := 4352, Hi := 4370 } : Range), { Lo := 4449, Hi := 4469 }, { Lo := 4520, Hi := 4546 }, { Lo := 44032, Hi := 55203 }] k = q
    by_cases h1 : s.Lo ≤ q.Hi <;> by_cases h2 : q.Lo ≤ s.Hi <;> simp [h1, h2]
  · have hd : decide ((k : Int) < 4) = false := by simp; omega
    simp only [ordering_Check_L3, hd, cond_false]
theorem ordCheck {l : List Span} (hl : l.length ≤ 1000) (hok : ∀ x ∈ l, okSpan x) : Ver (ordering_Check l) (CV l) := by
 have h0 := loop_ver0 (body := fun (x : Int) => ordering_Check_L0 l x) l.length (fun k => spOk (nth l k)) (fun y => y ≠ 0) (fun k hk => by
  simp only [ordering_Check_L0, lt_t hk, cond_true, idx_nth hk, some_bind, pv_bind, wi_succ (k := k) (by omega), spOk]
  generalize nth l k = q
  by_cases h1 : q.Lo < 0 <;> by_cases h2 : 1114111 < q.Hi <;> by_cases h3 : q.Hi < q.Lo <;> by_cases h4 : q.Value < 1 <;> by_cases h5 : 254 < q.Value <;> simp [h1, h2, h3, h4, h5] <;> omega) (fun k hk => by simp only [ordering_Check_L0, lt_f hk, cond_false])
 unfold ordering_Check Ver
 rcases h0 with ⟨h0, p0⟩ | ⟨y, hy, h0, p0⟩
 ·
  rw [h0]
  simp only [some_bind, Sum.elim_inl]
  have h1 := loop_ver1 (body := fun (x : Int) => ordering_Check_L1 l x) l.length (fun k => adOk (nth l k) (nth l (k + 1))) (fun y => y ≠ 0) (fun k hk => by
   have hk' : k < l.length := by omega
   have w := (p0 k hk').2.1
   have w0 := (p0 k hk').1
   have w1 := (p0 k hk').2.2.1
   simp only [ordering_Check_L1, lt_t hk, cond_true, idx_nth hk, some_bind, pv_bind, wi_succ (k := k + 1) (by omega), wi_pred (k := k) (by omega), idx_nth hk', adOk]
   rw [wi_id (n := (nth l k).Hi + 1) (by omega) (by omega)]
   generalize nth l k = q at *
   generalize nth l (k + 1) = q' at *
   exact ver_if (by simp only [Bool.or_eq_true, Bool.and_eq_true, decide_eq_true_eq]; omega) (by decide)) (fun k hk => by simp only [ordering_Check_L1, lt_f hk, cond_false])
  rcases h1 with ⟨h1, p1⟩ | ⟨y, hy, h1, p1⟩
  ·
   rw [h1]
   simp only [some_bind, Sum.elim_inl]
   have h2 := loop_ver0 (body := fun (x : Int) => ordering_Check_L2 l x) l.length (fun k => hgOk (nth l k)) (fun y => y ≠ 0) (fun k hk => by
    simp only [ordering_Check_L2, lt_t hk, cond_true, idx_nth hk, some_bind, pv_bind, wi_succ (k := k) (by omega)]
    rcases ordL3 (nth l k) with ⟨h, p⟩ | ⟨h, p⟩
    · rw [h]; exact .inl ⟨p, rfl⟩
    · rw [h]; exact .inr ⟨p, 11, by decide, rfl⟩) (fun k hk => by simp only [ordering_Check_L2, lt_f hk, cond_false])
   rcases h2 with ⟨h2, p2⟩ | ⟨y, hy, h2, p2⟩
   · rw [h2]; exact ⟨0, rfl, by simp only [true_iff]; exact ⟨p0, p1, p2⟩⟩
   · rw [h2]; exact ⟨y, rfl, by simp only [hy, false_iff]; exact fun h => p2 h.hg⟩
  · rw [h1]; exact ⟨y, rfl, by simp only [hy, false_iff]; exact fun h => p1 h.ad⟩
 · rw [h0]; exact ⟨y, rfl, by simp only [hy, false_iff]; exact fun h => p0 h.sp⟩
end Go.M
namespace Go.M
open Go.AV
theorem bl_lt : ∀ (x y : Str), Op.bytesLess x y = decide (x < y)
 | [], [] => by simp [Op.bytesLess]
 | _ :: _, [] => by simp [Op.bytesLess]
 | [], _ :: _ => by simp [Op.bytesLess]
 | a :: x, b :: y => by
  rw [Op.bytesLess, bl_lt x y]
  rw [Bool.eq_iff_iff]
  simp [List.cons_lt_cons_iff]
theorem mname_loop (s : Str) (hs : s.length ≤ MX) : loopM (fun (x : Int) => mapping_isName_L0 s x) 0 = some (toS (chk (fun _ (b : UInt8) => if byteOk (b.toNat : Int) then none else some false) s 0)) := by
 refine loop_chk0 s _ (fun k h => ?_) (fun k h => ?_)
 ·
  simp only [mapping_isName_L0, lt_t h, cond_true, sidx_nat h, some_bind, pv_bind, wi_succ (k := k) (by unfold MX at hs; omega)]
  have e : (((!(decide ((65 : Int) ≤ (s[k].toNat : Int)) && decide ((s[k].toNat : Int) ≤ 90) || decide ((97 : Int) ≤ (s[k].toNat : Int)) && decide ((s[k].toNat : Int) ≤ 122))) && !(decide ((48 : Int) ≤ (s[k].toNat : Int)) && decide ((s[k].toNat : Int) ≤ 57))) && !decide ((s[k].toNat : Int) = 95)) = !byteOk (s[k].toNat : Int) := by
   unfold byteOk
   generalize (decide ((65 : Int) ≤ (s[k].toNat : Int)) && decide ((s[k].toNat : Int) ≤ 90) || decide ((97 : Int) ≤ (s[k].toNat : Int)) && decide ((s[k].toNat : Int) ≤ 122)) = A
   generalize (decide ((48 : Int) ≤ (s[k].toNat : Int)) && decide ((s[k].toNat : Int) ≤ 57)) = B
   generalize decide ((s[k].toNat : Int) = 95) = C
   cases A <;> cases B <;> cases C <;> rfl
  rw [e]
  cases byteOk (s[k].toNat : Int) <;> rfl
 · simp only [mapping_isName_L0, lt_f h, cond_false]
theorem mname_eq {s : Str} (hs : s.length ≤ MX) : mapping_isName s = some (nameB s) := by
 unfold mapping_isName
 rw [pv_bind]
 cases s with
 | nil => rfl
 | cons x l =>
  have h1 : ((x :: l : Str) == []) = false := rfl
  rw [h1, Bool.false_or]
  by_cases h2 : 32 < (x :: l).length
  ·
   have : decide ((32 : Int) < ((x :: l).length : Int)) = true := by simp at h2 ⊢; omega
   rw [this, cond_true]
   unfold nameB
   cases hc : chk (fun _ (b : UInt8) => if byteOk (b.toNat : Int) then none else some false) (x :: l) 0 with
   | none =>
    have : decide ((x :: l).length ≤ 32) = false := by simp at h2 ⊢; omega
    simp only [this, Bool.and_false]
   | some y =>
    have : y = false := chk_prop (P := fun y => y = false) (fun k b y h => by split at h <;> simp_all) hc
    simp [this]
  ·
   have : decide ((32 : Int) < ((x :: l).length : Int)) = false := by simp at h2 ⊢; omega
   rw [this, cond_false, mname_loop _ hs, some_bind, toS_elim]
   unfold nameB
   cases chk (fun _ (b : UInt8) => if byteOk (b.toNat : Int) then none else some false) (x :: l) 0 with
   | none => simp at h2 ⊢; omega
   | some y => rfl
def codesOk (m : Mapping) : Prop := vld m.From = true ∧ ∀ c ∈ m.To, vld c = true
def tagOk (m : Mapping) : Prop := m.Tag = [] ∨ nameB m.Tag = true
def mlt (a b : Mapping) : Prop := a.From < b.From ∨ (a.From = b.From ∧ a.Tag < b.Tag)
structure MV (l : List Mapping) : Prop where
 co : ∀ m ∈ l, codesOk m
 sz : ∀ m ∈ l, m.To.length ≤ 64
 tg : ∀ m ∈ l, tagOk m
 lt : ∀ k, k + 1 < l.length → mlt (nth l k) (nth l (k + 1))
theorem toVer {body : Int → Option (Stp Int (Unit ⊕ Int))} {P : Prop} (h : (loopM body 0 = some (.inl ()) ∧ P) ∨ (∃ y, y ≠ 0 ∧ loopM body 0 = some (.inr y) ∧ ¬ P)) {f : Unit → Option Int} {R : Prop} (hf : P → Ver (f ()) R) (hR : R → P) :
    Ver ((loopM body 0).bind fun y => y.elim f fun y => some y) R := by
  rcases h with ⟨h, p⟩ | ⟨y, hy, h, p⟩
  · rw [h]; exact hf p
  · rw [h]; exact ⟨y, rfl, by simp only [hy, false_iff]; exact fun r => p (hR r)⟩
section
variable {l : List Mapping} (hl : l.length ≤ 1000) (hto : ∀ m ∈ l, m.To.length ≤ 1000) (htg : ∀ m ∈ l, m.Tag.length ≤ MX)
include hl hto htg
theorem partsVer : Ver (mapping_parts l) ((∀ m ∈ l, codesOk m) ∧ (∀ m ∈ l, m.To.length ≤ 64) ∧ ∀ m ∈ l, tagOk m) := by
  unfold mapping_parts
  refine toVer (P := ∀ m ∈ l, codesOk m) ?_ (fun p0 => ?_) (fun r => r.1)
  · have h := loop_ver0 (body := fun (x : Int) => mapping_parts_L0 l x) l.length (fun k => codesOk (nth l k)) (fun y => y ≠ 0) (fun k hk => ?_) (fun k hk => by simp only [mapping_parts_L0, lt_f hk, cond_false])
    · rw [all_nth (p := codesOk)] at h; exact h
    · simp only [mapping_parts_L0, lt_t hk, cond_true, idx_nth hk, some_bind, valid_eq, wi_succ (k := k) (by omega)]
      by_cases hv : vld (nth l k).From = true
      · have h2 := loop_ver0 (body := fun (x : Int) => mapping_parts_L1 (nth l k) x) (nth l k).To.length (fun j => vld (nth (nth l k).To j) = true) (fun y => y ≠ 0) (fun j hj => by
          simp only [mapping_parts_L1, lt_t hj, cond_true, idx_nth hj, some_bind, valid_eq, wi_succ (k := j) (by have := hto _ (nth_mem hk); omega)]
          exact ver_if (by simp) (by decide)) (fun j hj => by simp only [mapping_parts_L1, lt_f hj, cond_false])
        rw [all_nth (p := fun c => vld c = true)] at h2
        simp only [hv, Bool.not_true, cond_false]
        rcases h2 with ⟨h2, p⟩ | ⟨y, hy, h2, p⟩
        · rw [h2]; exact .inl ⟨⟨hv, p⟩, rfl⟩
        · rw [h2]; exact .inr ⟨fun q => p q.2, y, hy, rfl⟩
      · simp only [Bool.not_eq_true] at hv
        simp only [hv, Bool.not_false, cond_true]
        exact .inr ⟨fun q => (by rw [q.1] at hv; cases hv), 1, by decide, rfl⟩
  · refine toVer (P := ∀ m ∈ l, m.To.length ≤ 64) ?_ (fun p1 => ?_) (fun r => r.2.1)
    · have h := loop_ver0 (body := fun (x : Int) => mapping_parts_L2 l x) l.length (fun k => (nth l k).To.length ≤ 64) (fun y => y ≠ 0) (fun k hk => by
        simp only [mapping_parts_L2, lt_t hk, cond_true, idx_nth hk, some_bind, wi_succ (k := k) (by omega)]
        exact ver_if (by simp only [decide_eq_true_eq]; omega) (by decide)) (fun k hk => by simp only [mapping_parts_L2, lt_f hk, cond_false])
      rw [all_nth (p := fun (m : Mapping) => m.To.length ≤ 64)] at h; exact h
    · refine toVer (P := ∀ m ∈ l, tagOk m) ?_ (fun p2 => ⟨0, rfl, by simp only [true_iff]; exact ⟨p0, p1, p2⟩⟩) (fun r => r.2.2)
      have h := loop_ver0 (body := fun (x : Int) => mapping_parts_L3 l x) l.length (fun k => tagOk (nth l k)) (fun y => y ≠ 0) (fun k hk => by
        simp only [mapping_parts_L3, lt_t hk, cond_true, idx_nth hk, some_bind, pv_bind, wi_succ (k := k) (by omega), tagOk]
        have hb : ((nth l k).Tag == []) = decide ((nth l k).Tag = []) := by cases (nth l k).Tag <;> rfl
        rw [hb]
        by_cases ht : (nth l k).Tag = []
        · simp only [ht, decide_true, Bool.not_true, gM_f, some_bind, Bool.false_and, cond_false]
          exact .inl ⟨.inl trivial, trivial⟩
        · simp only [ht, decide_false, Bool.not_false, gM_t, mname_eq (htg _ (nth_mem hk)), some_bind, Bool.true_and, false_or]
          exact ver_if (by simp) (by decide)) (fun k hk => by simp only [mapping_parts_L3, lt_f hk, cond_false])
      rw [all_nth (p := tagOk)] at h; exact h
omit hl hto htg in
theorem cmpOr (a b : Int) : cmp_Or_int [a, b] = some (if a = 0 then b else a) := by
 have e0 : decide ((0 : Int) < (([a, b] : List Int).length : Int)) = true := rfl
 have e1 : decide ((1 : Int) < (([a, b] : List Int).length : Int)) = true := rfl
 have e2 : decide ((2 : Int) < (([a, b] : List Int).length : Int)) = false := rfl
 unfold cmp_Or_int
 rw [loopM_eq]
 simp only [cmp_Or_int_L0, e0, cond_true, idx_zero, some_bind]
 by_cases ha : a = 0
 ·
  subst ha
  simp only [decide_true, Bool.not_true, cond_false, if_true]
  have w1 : wi (0 + 1) = 1 := wi_id (by omega) (by omega)
  rw [w1, loopM_eq]
  simp only [cmp_Or_int_L0, e1, cond_true]
  have : idx ([0, b] : List Int) 1 = some b := rfl
  rw [this]
  simp only [some_bind]
  by_cases hb : b = 0
  ·
   subst hb
   simp only [decide_true, Bool.not_true, cond_false]
   have w2 : wi (1 + 1) = 2 := wi_id (by omega) (by omega)
   rw [w2, loopM_eq]
   simp only [cmp_Or_int_L0, e2, cond_false]
   rfl
  · simp [hb]
 · simp [ha]
omit hl hto htg in
theorem cmpS (x y : Str) : cmp_Compare_string x y = some (if x < y then -1 else if y < x then 1 else 0) := by
  unfold cmp_Compare_string cmp_isNaN_string
  simp only [some_bind, beq_self_eq_true, Bool.not_true, cond_false, bl_lt]
  by_cases h : x < y
  · simp [h]
  · by_cases h2 : x = y
    · subst h2; simp [h]
    · have h3 : y < x := by
        by_cases h3 : y < x
        · exact h3
        · exact absurd (List.le_antisymm (List.not_lt.1 h3) (List.not_lt.1 h)) h2
      have hb : (x == y) = false := by simpa using h2
      simp [h, h3, hb]
omit hl hto htg in
theorem mcmp (a b : Mapping) : ∃ e, mapping_compare a b = some e ∧ (0 ≤ e ↔ ¬ mlt a b) := by
 unfold mapping_compare
 simp only [cmpI, cmpS, some_bind, cmpOr]
 refine ⟨_, rfl, ?_⟩
 unfold mlt
 by_cases h1 : a.From < b.From
 · simp [h1]
 ·
  by_cases h2 : b.From < a.From
  ·
   have : ¬ a.From = b.From := by omega
   simp [h1, h2, this]
  ·
   have : a.From = b.From := by omega
   by_cases h3 : a.Tag < b.Tag
   · simp [this, h3]
   · by_cases h4 : b.Tag < a.Tag <;> simp [this, h3, h4]
omit hto htg in
theorem ascLoop : ∀ (n k : Nat) (b : Bool), l.length - k = n → 1 ≤ k → ∃ r, loopM (fun (x : Bool × Int) => mapping_Check_L0 l x.1 x.2) (b, (k : Int)) = some r ∧ (r = true ↔ b = true ∧ ∀ j, k ≤ j + 1 → j + 1 < l.length → mlt (nth l j) (nth l (j + 1))) := by
 intro n
 induction n with
 | zero =>
  intro k b hk h1
  refine ⟨b, ?_, ?_⟩
  · rw [loopM_eq]; simp only [mapping_Check_L0, lt_f (show l.length ≤ k by omega), cond_false]
  · exact ⟨fun h => ⟨h, fun j h2 h3 => by omega⟩, fun h => h.1⟩
 | succ n ih =>
  intro k b hk h1
  obtain ⟨k, rfl⟩ : ∃ k', k = k' + 1 := ⟨k - 1, by omega⟩
  have hlt : k + 1 < l.length := by omega
  obtain ⟨e, he, hp⟩ := mcmp (nth l k) (nth l (k + 1))
  obtain ⟨r, hr, hq⟩ := ih (k + 2) (cond (decide (0 ≤ e)) false b) (by omega) (by omega)
  refine ⟨r, ?_, ?_⟩
  ·
   rw [loopM_eq]
   simp only [mapping_Check_L0, lt_t hlt, cond_true, wi_pred (k := k) (by omega), idx_nth (show k < l.length by omega), idx_nth hlt, some_bind, he, wi_succ (k := k + 1) (by omega)]
   rw [← hr]
   cases decide (0 ≤ e) <;> rfl
  ·
   rw [hq]
   by_cases hm : mlt (nth l k) (nth l (k + 1))
   ·
    have : decide (0 ≤ e) = false := by simp only [decide_eq_false_iff_not]; exact fun h => hp.1 h hm
    rw [this, cond_false]
    constructor
    ·
     rintro ⟨a, c⟩
     refine ⟨a, fun j h2 h3 => ?_⟩
     by_cases ej : j = k
     · subst ej; exact hm
     · exact c j (by omega) h3
    · rintro ⟨a, c⟩; exact ⟨a, fun j h2 h3 => c j (by omega) h3⟩
   ·
    have : decide (0 ≤ e) = true := by simp only [decide_eq_true_eq]; exact hp.2 hm
    rw [this, cond_true]
    constructor
    · rintro ⟨a, _⟩; cases a
    · rintro ⟨_, c⟩; exact absurd (c k (by omega) hlt) hm
omit hto htg in
theorem twLoop : ∀ (n k : Nat) (m : List (Mapping_key × Bool)), l.length - k = n → ∃ r, loopM (fun (x : Int × (List (Mapping_key × Bool))) => mapping_Check_L1 l x.1 x.2) ((k : Int), m) = some r ∧ (r = .inl () ∨ r = .inr 5) := by
 intro n
 induction n with
 | zero =>
  intro k m hk
  refine ⟨.inl (), ?_, .inl rfl⟩
  rw [loopM_eq]; simp only [mapping_Check_L1, lt_f (show l.length ≤ k by omega), cond_false]
 | succ n ih =>
  intro k m hk
  have hlt : k < l.length := by omega
  rw [loopM_eq]
  simp only [mapping_Check_L1, lt_t hlt, cond_true, idx_nth hlt, some_bind, mapping_keyOf, wi_succ (k := k) (by omega)]
  cases mgetD m ({ from_ := (nth l k).From, tag := (nth l k).Tag } : Mapping_key) false with
  | true => exact ⟨.inr 5, rfl, .inr rfl⟩
  | false => exact ih (k + 1) _ (by omega)
theorem mapVer : Ver (mapping_Check l) (MV l) := by
 obtain ⟨e, he, hp⟩ := partsVer hl hto htg
 unfold mapping_Check
 rw [he, some_bind]
 by_cases h0 : e = 0
 ·
  subst h0
  simp only [decide_true, Bool.not_true, cond_false]
  obtain ⟨p0, p1, p2⟩ := hp.1 rfl
  obtain ⟨r, hr, hq⟩ := ascLoop hl (l.length - 1) 1 true rfl (by omega)
  have hr' : loopM (fun (x : Bool × Int) => mapping_Check_L0 l x.1 x.2) (true, 1) = some r := hr
  rw [hr', some_bind]
  cases r with
  | true => exact ⟨0, rfl, by simp only [true_iff]; exact ⟨p0, p1, p2, fun k hk => (hq.1 rfl).2 k (by omega) hk⟩⟩
  | false =>
   have hno : ¬ MV l := fun h => by have := hq.2 ⟨rfl, fun j _ hj => h.lt j hj⟩; cases this
   obtain ⟨r, hr, hrr⟩ := twLoop hl l.length 0 [] (by omega)
   have hr' : loopM (fun (x : Int × (List (Mapping_key × Bool))) => mapping_Check_L1 l x.1 x.2) (0, []) = some r := hr
   simp only [cond_false]
   rw [hr', some_bind]
   rcases hrr with rfl | rfl
   · exact ⟨4, rfl, by simp only [show ((4 : Int) = 0) = False by simp, false_iff]; exact hno⟩
   · exact ⟨5, rfl, by simp only [show ((5 : Int) = 0) = False by simp, false_iff]; exact hno⟩
 ·
  have : (!decide (e = 0)) = true := by simp [h0]
  rw [this, cond_true]
  exact ⟨e, rfl, by simp only [h0, false_iff]; exact fun h => h0 (hp.2 ⟨h.co, h.sz, h.tg⟩)⟩
end
end Go.M
namespace Go.M
open Go.AV
section
variable {α : Type} (lt : α → α → Bool)
def insB : List α → α → List α → List α
 | [], x, s => x :: s
 | y :: r, x, s => if lt x y then insB r x (y :: s) else (y :: r).reverse ++ x :: s
def iSort (l : List α) (p : List α) : List α := l.foldl (fun p x => insB lt p.reverse x []) p
theorem insB_app : ∀ (r : List α) (x : α) (s t : List α), insB lt r x (s ++ t) = insB lt r x s ++ t
 | [], x, s, t => rfl
 | y :: r, x, s, t => by
  unfold insB
  split
  · exact insB_app r x (y :: s) t
  · simp
theorem insB_perm : ∀ (r : List α) (x : α) (s : List α), (insB lt r x s).Perm (r.reverse ++ x :: s)
 | [], x, s => .refl _
 | y :: r, x, s => by
  unfold insB
  split
  ·
   refine (insB_perm r x (y :: s)).trans ?_
   simp only [List.reverse_cons, List.append_assoc, List.singleton_append]
   exact List.Perm.append_left _ (List.Perm.swap y x s)
  · exact .refl _
theorem insB_len (r : List α) (x : α) (s : List α) : (insB lt r x s).length = r.length + 1 + s.length := by
 rw [(insB_perm lt r x s).length_eq]; simp; omega
theorem iSort_perm : ∀ (l p : List α), (iSort lt l p).Perm (p ++ l)
 | [], p => by simp [iSort]
 | x :: l, p => by
  have h := iSort_perm l (insB lt p.reverse x [])
  refine h.trans ?_
  have h2 := insB_perm lt p.reverse x []
  rw [List.reverse_reverse] at h2
  have h3 := List.Perm.append_right l h2
  simpa using h3
variable (tr : ∀ a b c, lt b a = false → lt c b = false → lt c a = false) (asy : ∀ a b, lt a b = true → lt b a = false)
abbrev LeB (a b : α) : Prop := lt b a = false
include tr asy
theorem insB_sorted : ∀ (r : List α) (x : α) (s : List α), (r.reverse ++ s).Pairwise (LeB lt) → (∀ y ∈ s, LeB lt x y) → (insB lt r x s).Pairwise (LeB lt)
 | [], x, s, h, hx => by simpa [insB] using ⟨hx, h⟩
 | y :: r, x, s, h, hx => by
  unfold insB
  split
  ·
   rename_i hlt
   refine insB_sorted r x (y :: s) (by simpa using h) ?_
   intro z hz
   rcases List.mem_cons.1 hz with rfl | hz
   · exact asy _ _ hlt
   · exact hx z hz
  ·
   rename_i hlt
   have hyx : LeB lt y x := by simpa using hlt
   rw [List.pairwise_append] at h ⊢
   refine ⟨h.1, List.pairwise_cons.2 ⟨hx, h.2.1⟩, ?_⟩
   intro a ha b hb
   have hay : LeB lt a y ∨ a = y := by
    have h1 := h.1
    rw [List.reverse_cons, List.pairwise_append] at h1
    rw [List.reverse_cons, List.mem_append] at ha
    rcases ha with ha | ha
    · exact .inl (h1.2.2 a ha y (by simp))
    · exact .inr (by simpa using ha)
   rcases List.mem_cons.1 hb with rfl | hb
   ·
    rcases hay with hay | rfl
    · exact tr _ _ _ hay hyx
    · exact hyx
   · exact h.2.2 a ha b hb
theorem iSort_sorted : ∀ (l p : List α), p.Pairwise (LeB lt) → (iSort lt l p).Pairwise (LeB lt)
 | [], p, h => h
 | x :: l, p, h => iSort_sorted l _ (insB_sorted lt tr asy p.reverse x [] (by simpa using h) (by simp))
omit tr asy in
theorem iSort_id : ∀ (l p : List α), (p ++ l).Pairwise (LeB lt) → iSort lt l p = p ++ l
 | [], p, _ => by simp [iSort]
 | x :: l, p, h => by
  have e : insB lt p.reverse x [] = p ++ [x] := by
   cases hp : p.reverse with
   | nil =>
    have : p = [] := by simpa using hp
    subst this; rfl
   | cons y r =>
    unfold insB
    have hp' : p = r.reverse ++ [y] := by have := congrArg List.reverse hp; simpa using this
    have : lt x y = false := by
     rw [hp', List.pairwise_append] at h
     exact h.2.2 y (by simp) x (by simp)
    rw [this]
    simp [hp']
  show iSort lt l (insB lt p.reverse x []) = _
  rw [e, iSort_id l (p ++ [x]) (by simpa using h)]
  simp
end
def rlt (a b : Range) : Bool := decide (a.Lo < b.Lo) || (decide (a.Lo = b.Lo) && decide (a.Hi < b.Hi))
theorem rcmp (a b : Range) : ∃ e, cpset_Make_1 a b = some e ∧ (e < 0 ↔ rlt a b = true) := by
 unfold cpset_Make_1
 simp only [cmpI, some_bind, cmpOr]
 refine ⟨_, rfl, ?_⟩
 unfold rlt
 by_cases h1 : a.Lo < b.Lo
 · simp [h1]
 ·
  by_cases h2 : b.Lo < a.Lo
  ·
   have : ¬ a.Lo = b.Lo := by omega
   simp [h1, h2, this]
  ·
   have : a.Lo = b.Lo := by omega
   by_cases h3 : a.Hi < b.Hi
   · simp [this, h3]
   · by_cases h4 : b.Hi < a.Hi <;> simp [this, h3, h4]
theorem idx_mid {α : Type} {p s : List α} {x : α} {k : Nat} (h : k = p.length) : idx (p ++ x :: s) (k : Int) = some x := by
 subst h
 rw [idx_nat (by simp)]
 simp
theorem setM_mid {α : Type} {p s : List α} {x y : α} {k : Nat} (h : k = p.length) : setM (p ++ x :: s) (k : Int) y = some (p ++ y :: s) := by
 subst h
 rw [setM_nat (by simp)]
 simp
section
variable {f : Range → Range → Option Int} {lt : Range → Range → Bool} (hf : ∀ a b, ∃ e, f a b = some e ∧ (e < 0 ↔ lt a b = true))
include hf
theorem insIn : ∀ (r : List Range) (x : Range) (s : List Range), r.length ≤ 1000 → loopM (fun (q : Int × List Range) => slices_insertionSortCmpFunc_api_Range_L1 0 f q.1 q.2) ((r.length : Int), r.reverse ++ x :: s) = some (insB lt r x s)
 | [], x, s, _ => by
  rw [loopM_eq]
  simp only [slices_insertionSortCmpFunc_api_Range_L1, List.length_nil, pv_bind]
  have : decide ((0 : Int) < ((0 : Nat) : Int)) = false := rfl
  rw [this]
  simp [gM_f, insB]
 | y :: r, x, s, hr => by
  simp only [List.length_cons] at hr ⊢
  have hd : decide ((0 : Int) < ((r.length + 1 : Nat) : Int)) = true := by simp <;> omega
  have hl : (y :: r).reverse ++ x :: s = r.reverse ++ y :: (x :: s) := by simp
  have hw : wi (((r.length + 1 : Nat) : Int) - 1) = (r.length : Int) := wi_pred (by omega)
  have i1 : idx ((y :: r).reverse ++ x :: s) ((r.length + 1 : Nat) : Int) = some x := idx_mid (by simp)
  have i0 : idx ((y :: r).reverse ++ x :: s) (r.length : Int) = some y := by rw [hl]; exact idx_mid (by simp)
  obtain ⟨e, he, hp⟩ := hf x y
  rw [loopM_eq]
  simp only [slices_insertionSortCmpFunc_api_Range_L1, hd, pv_bind, gM_t, i1, hw, i0, some_bind, he, Bool.true_and]
  unfold insB
  by_cases hx : lt x y = true
  ·
   have hd2 : decide (e < 0) = true := by simpa using hp.2 hx
   have s1 : setM ((y :: r).reverse ++ x :: s) ((r.length + 1 : Nat) : Int) y = some ((y :: r).reverse ++ y :: s) := setM_mid (by simp)
   have hl2 : (y :: r).reverse ++ y :: s = r.reverse ++ y :: (y :: s) := by simp
   have i2 : idx ((y :: r).reverse ++ y :: s) (r.length : Int) = some y := by rw [hl2]; exact idx_mid (by simp)
   have s2 : setM ((y :: r).reverse ++ y :: s) (r.length : Int) x = some (r.reverse ++ x :: (y :: s)) := by rw [hl2]; exact setM_mid (by simp)
   simp only [hd2, cond_true, s1, some_bind, i2, s2, hx, if_true]
   exact insIn r x (y :: s) (by omega)
  ·
   have hd2 : decide (e < 0) = false := by simp only [decide_eq_false_iff_not]; exact fun h => hx (hp.1 h)
   simp only [hd2, cond_false, hx]
   rfl
theorem insOut : ∀ (l p : List Range), 1 ≤ p.length → p.length + l.length ≤ 1000 → loopM (fun (q : Int × List Range) => slices_insertionSortCmpFunc_api_Range_L0 ((p.length + l.length : Nat) : Int) 0 f q.1 q.2) ((p.length : Int), p ++ l) = some (iSort lt l p)
 | [], p, _, _ => by
  rw [loopM_eq]
  simp only [slices_insertionSortCmpFunc_api_Range_L0, List.length_nil, Nat.add_zero, lt_f (Nat.le_refl _), cond_false, List.append_nil]
  rfl
 | x :: l, p, h1, h2 => by
  simp only [List.length_cons] at h2 ⊢
  have hin := insIn hf p.reverse x l (by simp; omega)
  rw [List.length_reverse, List.reverse_reverse] at hin
  rw [loopM_eq]
  simp only [slices_insertionSortCmpFunc_api_Range_L0, lt_t (show p.length < p.length + (l.length + 1) by omega), cond_true]
  rw [hin, some_bind]
  have e1 : insB lt p.reverse x l = insB lt p.reverse x [] ++ l := by
   have := insB_app lt p.reverse x [] l
   simpa using this
  have hlen : (insB lt p.reverse x []).length = p.length + 1 := by rw [insB_len]; simp
  have ih := insOut l (insB lt p.reverse x []) (by omega) (by omega)
  rw [hlen] at ih
  have e3 : ((p.length + 1 + l.length : Nat) : Int) = ((p.length + (l.length + 1) : Nat) : Int) := by congr 1; omega
  rw [e3] at ih
  rw [e1, wi_succ (by omega)]
  exact ih
theorem insSort (l : List Range) (h : l.length ≤ 1000) : slices_insertionSortCmpFunc_api_Range l 0 (l.length : Int) f = some (iSort lt l []) := by
 unfold slices_insertionSortCmpFunc_api_Range
 have hw : wi (0 + 1) = ((1 : Nat) : Int) := wi_id (by omega) (by omega)
 rw [hw]
 cases l with
 | nil =>
  rw [loopM_eq]
  simp only [slices_insertionSortCmpFunc_api_Range_L0, lt_f (show ([] : List Range).length ≤ 1 by simp), cond_false]
  rfl
 | cons x l =>
  have := insOut hf l [x] (by simp) (by simp at h ⊢; omega)
  have e : ((([x] : List Range).length + l.length : Nat) : Int) = ((x :: l).length : Int) := by simp; omega
  rw [e] at this
  have e2 : (([x] : List Range).length : Int) = ((1 : Nat) : Int) := rfl
  rw [e2] at this
  rw [show ([x] ++ l : List Range) = x :: l from rfl] at this
  rw [this]
  rfl
end
theorem bitsLen : ∀ n : Fin 13, ∃ e, math_bits_Len (wu ((n.val : Nat) : Int)) = some e := by
 intro n
 have : ∀ n : Fin 13, (math_bits_Len (wu ((n.val : Nat) : Int))).isSome = true := by decide
 exact Option.isSome_iff_exists.1 (this n)
theorem sort_eq {l : List Range} (h : l.length ≤ 12) : slices_SortFunc_api_Range_api_Range l (fun a b => cpset_Make_1 a b) = some (iSort rlt l []) := by
 unfold slices_SortFunc_api_Range_api_Range slices_pdqsortCmpFunc_api_Range
 obtain ⟨e, he⟩ := bitsLen ⟨l.length, by omega⟩
 rw [he, some_bind]
 have hb : slices_pdqsortCmpFunc_api_Range_L0 (l.length : Int) 0 l (fun a b => cpset_Make_1 a b) e = some (.done (iSort rlt l [])) := by
  unfold slices_pdqsortCmpFunc_api_Range_L0
  have hw : wi ((l.length : Int) - 0) = (l.length : Int) := wi_id (by omega) (by omega)
  have hd : decide ((l.length : Int) ≤ 12) = true := by simp; omega
  rw [hw, hd, cond_true, insSort (lt := rlt) rcmp l (by omega)]
  rfl
 rw [loopM_done (body := fun (_ : Unit) => slices_pdqsortCmpFunc_api_Range_L0 (l.length : Int) 0 l (fun a b => cpset_Make_1 a b) e) hb]
 rfl
theorem rlt_tr (a b c : Range) (h1 : rlt b a = false) (h2 : rlt c b = false) : rlt c a = false := by
 unfold rlt at *
 simp only [Bool.or_eq_false_iff, Bool.and_eq_false_iff, decide_eq_false_iff_not] at *
 omega
theorem rlt_asy (a b : Range) (h1 : rlt a b = true) : rlt b a = false := by
 unfold rlt at *
 simp only [Bool.or_eq_false_iff, Bool.and_eq_false_iff, decide_eq_false_iff_not, Bool.or_eq_true, Bool.and_eq_true, decide_eq_true_eq] at *
 omega
end Go.M
namespace Go.M
open Go.AV
def rgOk (r : Range) : Prop := 0 ≤ r.Lo ∧ r.Lo ≤ r.Hi ∧ r.Hi ≤ 1114111
def Can : List Range → Prop
 | [] => True
 | [r] => rgOk r
 | r :: q :: l => rgOk r ∧ r.Hi + 1 < q.Lo ∧ Can (q :: l)
theorem Can.head {r : Range} {l : List Range} (h : Can (r :: l)) : rgOk r := by
 cases l with
 | nil => exact h
 | cons q l => exact h.1
theorem Can.tail {r : Range} {l : List Range} (h : Can (r :: l)) : Can l := by
 cases l with
 | nil => trivial
 | cons q l => exact h.2.2
theorem Can.ok : ∀ {l : List Range}, Can l → ∀ r ∈ l, rgOk r
 | [], _, r, hr => by cases hr
 | q :: l, h, r, hr => by
  rcases List.mem_cons.1 hr with rfl | hr
  · exact h.head
  · exact Can.ok h.tail r hr
theorem Can.gap : ∀ {l : List Range} {r : Range}, Can (r :: l) → ∀ q ∈ l, r.Hi + 1 < q.Lo
 | [], _, _, q, hq => by cases hq
 | a :: l, r, h, q, hq => by
  rcases List.mem_cons.1 hq with rfl | hq
  · exact h.2.1
  ·
   have h1 := Can.gap h.2.2 q hq
   have h2 := (h.2.2.head)
   have h3 := h.2.1
   unfold rgOk at h2
   omega
theorem Can.sorted : ∀ {l : List Range}, Can l → l.Pairwise (LeB rlt)
 | [], _ => .nil
 | r :: l, h => by
  refine List.pairwise_cons.2 ⟨fun q hq => ?_, Can.sorted h.tail⟩
  have h1 := Can.gap h q hq
  have h2 := h.head
  unfold rgOk at h2
  unfold LeB rlt
  simp only [Bool.or_eq_false_iff, Bool.and_eq_false_iff, decide_eq_false_iff_not]
  omega
def clip (r : Range) : Range := { Lo := max r.Lo 0, Hi := min r.Hi 1114111 }
def clipL (l : List Range) : List Range := (l.map clip).filter fun r => decide (r.Lo ≤ r.Hi)
theorem clipL_cons (x : Range) (l : List Range) : clipL (x :: l) = (if (clip x).Lo ≤ (clip x).Hi then [clip x] else []) ++ clipL l := by
 unfold clipL
 rw [List.map_cons, List.filter_cons]
 by_cases h : (clip x).Lo ≤ (clip x).Hi <;> simp [h]
theorem clipL_cons' (x : Range) (l : List Range) : clipL (x :: l) = (if max x.Lo 0 ≤ min x.Hi 1114111 then [({ Lo := max x.Lo 0, Hi := min x.Hi 1114111 } : Range)] else []) ++ clipL l := clipL_cons x l
theorem clipL_ok (l : List Range) : ∀ r ∈ clipL l, rgOk r := by
 intro r hr
 unfold clipL at hr
 rw [List.mem_filter, List.mem_map] at hr
 obtain ⟨⟨q, _, rfl⟩, h⟩ := hr
 simp only [decide_eq_true_eq] at h
 unfold clip at h ⊢
 unfold rgOk
 simp only at h ⊢
 omega
theorem clipL_id {l : List Range} (h : ∀ r ∈ l, rgOk r) : clipL l = l := by
 induction l with
 | nil => rfl
 | cons x l ih =>
  have hx := h x (by simp)
  have : clip x = x := by
   unfold rgOk at hx
   unfold clip
   cases x
   simp only [Range.mk.injEq] at hx ⊢
   omega
  rw [clipL_cons, this, if_pos hx.2.1, ih fun r hr => h r (by simp [hr])]
  rfl
theorem clipL_len (l : List Range) : (clipL l).length ≤ l.length := by
 unfold clipL
 exact Nat.le_trans (List.length_filter_le _ _) (by simp)
theorem mkL0 {l : List Range} (hl : l.length ≤ 1000) : ∀ (n k : Nat) (o : List Range), l.length - k = n → k ≤ l.length → o.length ≤ k → loopM (fun (x : Int × (List Range)) => cpset_Make_L0 l x.1 x.2) ((k : Int), o) = some (o ++ clipL (l.drop k)) := by
 intro n
 induction n with
 | zero =>
  intro k o h1 h2 h3
  rw [loopM_eq]
  simp only [cpset_Make_L0, lt_f (show l.length ≤ k by omega), cond_false]
  rw [List.drop_of_length_le (by omega)]
  simp [clipL]
 | succ n ih =>
  intro k o h1 h2 h3
  have hlt : k < l.length := by omega
  rw [loopM_eq]
  simp only [cpset_Make_L0, lt_t hlt, cond_true, idx_nat hlt, some_bind, wi_succ (k := k) (by omega)]
  rw [List.drop_eq_getElem_cons hlt, clipL_cons']
  by_cases hc : max l[k].Lo 0 ≤ min l[k].Hi 1114111
  ·
   simp only [hc, decide_true, cond_true, if_true]
   rw [app_ok (by simp; omega)]
   simp only [some_bind]
   have := ih (k + 1) (o ++ [({ Lo := max l[k].Lo 0, Hi := min l[k].Hi 1114111 } : Range)]) (by omega) (by omega) (by simp; omega)
   rw [List.append_assoc] at this
   exact this
  ·
   simp only [hc, decide_false, cond_false, if_false, some_bind, List.nil_append]
   exact ih (k + 1) o (by omega) (by omega) (by omega)
def mrg : List Range → Range → List Range
 | [], r => [r]
 | q :: l, r => if r.Lo ≤ q.Hi + 1 then { q with Hi := max q.Hi r.Hi } :: l else r :: q :: l
theorem mrg_cons (q : Range) (l : List Range) (r : Range) : mrg (q :: l) r = if r.Lo ≤ q.Hi + 1 then { q with Hi := max q.Hi r.Hi } :: l else r :: q :: l := rfl
theorem mrg_len (o : List Range) (r : Range) : (mrg o r).length ≤ o.length + 1 := by
 cases o with
 | nil => simp [mrg]
 | cons q l => rw [mrg_cons]; split <;> simp
theorem mrg_ok {o : List Range} {r : Range} (h : ∀ q ∈ o, rgOk q) (hr : rgOk r) : ∀ q ∈ mrg o r, rgOk q := by
 cases o with
 | nil => simpa [mrg] using hr
 | cons q l =>
  intro x hx
  have hq := h q (by simp)
  unfold rgOk at hq hr
  rw [mrg_cons] at hx
  split at hx
  ·
   rcases List.mem_cons.1 hx with rfl | hx
   · unfold rgOk; simp only; omega
   · exact h x (by simp [hx])
  ·
   rcases List.mem_cons.1 hx with rfl | hx
   · exact hr
   · exact h x hx
theorem mkL1 {t : List Range} (ht : t.length ≤ 1000) (hok : ∀ r ∈ t, rgOk r) : ∀ (n k : Nat) (o : List Range), t.length - k = n → k ≤ t.length → o.length ≤ k → (∀ r ∈ o, rgOk r) → loopM (fun (x : Int × (List Range)) => cpset_Make_L1 t x.1 x.2) ((k : Int), o.reverse) = some ((t.drop k).foldl mrg o).reverse := by
 intro n
 induction n with
 | zero =>
  intro k o h1 h2 h3 h4
  rw [loopM_eq]
  simp only [cpset_Make_L1, lt_f (show t.length ≤ k by omega), cond_false]
  rw [List.drop_of_length_le (by omega)]
  rfl
 | succ n ih =>
  intro k o h1 h2 h3 h4
  have hlt : k < t.length := by omega
  have hr := hok _ (List.getElem_mem hlt)
  rw [List.drop_eq_getElem_cons hlt, List.foldl_cons]
  rw [← ih (k + 1) (mrg o t[k]) (by omega) (by omega) (by have := mrg_len o t[k]; omega) (mrg_ok h4 hr)]
  rw [loopM_eq]
  simp only [cpset_Make_L1, lt_t hlt, cond_true, idx_nat hlt, some_bind, pv_bind, wi_succ (k := k) (by omega)]
  cases o with
  | nil =>
   have e0 : decide ((0 : Int) < ((([] : List Range).reverse).length : Int)) = false := rfl
   simp only [e0, gM_f, some_bind, Bool.false_and, cond_false]
   rw [app_ok (by simp)]
   rfl
  | cons q l =>
   have hq := h4 q (by simp)
   unfold rgOk at hq
   have hlen : ((q :: l).reverse).length = l.length + 1 := by simp
   simp only [List.length_cons] at h3
   have e0 : decide ((0 : Int) < (((q :: l).reverse).length : Int)) = true := by rw [hlen]; simp <;> omega
   have e1 : wi ((((q :: l).reverse).length : Int) - 1) = (l.length : Int) := by rw [hlen]; exact wi_pred (by omega)
   have e2 : (q :: l).reverse = l.reverse ++ q :: [] := by simp
   have i1 : idx (q :: l).reverse (l.length : Int) = some q := by rw [e2]; exact idx_mid (by simp)
   have e3 : wi (q.Hi + 1) = q.Hi + 1 := wi_id (by omega) (by omega)
   simp only [e0, e1, i1, gM_t, some_bind, Bool.true_and, e3]
   rw [mrg_cons]
   by_cases hc : t[k].Lo ≤ q.Hi + 1
   ·
    simp only [hc, decide_true, cond_true, if_true]
    have s1 : setM (q :: l).reverse (l.length : Int) ({ q with Hi := max q.Hi t[k].Hi }) = some (({ q with Hi := max q.Hi t[k].Hi } :: l).reverse) := by
     rw [e2, setM_mid (by simp)]; simp
    rw [s1]
    rfl
   ·
    simp only [hc, decide_false, cond_false, if_false]
    rw [app_ok (by simp; omega)]
    simp only [some_bind]
    congr 2
    simp
def mkE (l : List Range) : List Range := ((iSort rlt (clipL l) []).foldl mrg []).reverse
theorem make_eq {l : List Range} (hl : l.length ≤ 12) : cpset_Make l = some { Ranges := mkE l } := by
 unfold cpset_Make
 have h0 := mkL0 (l := l) (by omega) l.length 0 [] (by omega) (by omega) (by simp)
 simp only [List.drop_zero, List.nil_append] at h0
 have h0' : loopM (fun (x : Int × (List Range)) => cpset_Make_L0 l x.1 x.2) (0, []) = some (clipL l) := h0
 rw [h0', some_bind, sort_eq (Nat.le_trans (clipL_len l) hl), some_bind]
 have hp := iSort_perm rlt (clipL l) []
 simp only [List.nil_append] at hp
 have h1 := mkL1 (t := iSort rlt (clipL l) []) (by rw [hp.length_eq]; have := clipL_len l; omega) (fun r hr => clipL_ok l r (hp.mem_iff.1 hr)) (iSort rlt (clipL l) []).length 0 [] (by omega) (by omega) (by simp) (by simp)
 simp only [List.drop_zero] at h1
 have h1' : loopM (fun (x : Int × (List Range)) => cpset_Make_L1 (iSort rlt (clipL l) []) x.1 x.2) (0, []) = some (mkE l) := h1
 rw [h1']
 rfl
def CanR : List Range → Prop
 | [] => True
 | [r] => rgOk r
 | r :: q :: l => rgOk r ∧ q.Hi + 1 < r.Lo ∧ CanR (q :: l)
theorem CanR.tail {r : Range} {l : List Range} (h : CanR (r :: l)) : CanR l := by
 cases l with
 | nil => trivial
 | cons q l => exact h.2.2
theorem CanR.head {r : Range} {l : List Range} (h : CanR (r :: l)) : rgOk r := by
 cases l with
 | nil => exact h
 | cons q l => exact h.1
theorem can_rev : ∀ (r l : List Range), CanR r → Can l → (∀ x y, r.head? = some x → l.head? = some y → x.Hi + 1 < y.Lo) → Can (r.reverse ++ l)
 | [], l, _, h, _ => h
 | x :: r, l, hr, hl, hc => by
  have := can_rev r (x :: l) hr.tail (by
   cases l with
   | nil => exact hr.head
   | cons y l => exact ⟨hr.head, hc x y rfl rfl, hl⟩) (fun a b ha hb => by
    cases r with
    | nil => cases ha
    | cons q r => simp only [List.head?_cons, Option.some.injEq] at ha hb; subst ha; subst hb; exact hr.2.1)
  simpa using this
theorem mrg_can : ∀ (t o : List Range), t.Pairwise (LeB rlt) → (∀ r ∈ t, rgOk r) → CanR o → (∀ q r, o.head? = some q → r ∈ t → q.Lo ≤ r.Lo) → CanR (t.foldl mrg o)
 | [], o, _, _, h, _ => h
 | r :: t, o, hs, hok, ho, hlo => by
  have hs' := List.pairwise_cons.1 hs
  have hr := hok r (by simp)
  have hrt : ∀ x ∈ t, r.Lo ≤ x.Lo := fun x hx => by
   have := hs'.1 x hx
   unfold LeB rlt at this
   simp only [Bool.or_eq_false_iff, decide_eq_false_iff_not] at this
   omega
  rw [List.foldl_cons]
  refine mrg_can t (mrg o r) hs'.2 (fun x hx => hok x (by simp [hx])) ?_ ?_
  ·
   cases o with
   | nil => exact hr
   | cons q l =>
    have hq := ho.head
    have hql := hlo q r rfl (by simp)
    rw [mrg_cons]
    split
    ·
     rename_i hc
     unfold rgOk at hq hr
     cases l with
     | nil => show rgOk _; unfold rgOk; simp only; omega
     | cons z l => exact ⟨by unfold rgOk; simp only; omega, ho.2.1, ho.2.2⟩
    ·
     rename_i hc
     exact ⟨hr, by omega, ho⟩
  ·
   intro q' x hq' hx
   cases o with
   | nil => simp only [mrg, List.head?_cons, Option.some.injEq] at hq'; subst hq'; exact hrt x hx
   | cons q l =>
    rw [mrg_cons] at hq'
    split at hq'
    · simp only [List.head?_cons, Option.some.injEq] at hq'; subst hq'; exact hlo q x rfl (by simp [hx])
    · simp only [List.head?_cons, Option.some.injEq] at hq'; subst hq'; exact hrt x hx
theorem mkE_can (l : List Range) : Can (mkE l) := by
 have hp := iSort_perm rlt (clipL l) []
 simp only [List.nil_append] at hp
 have h := mrg_can (iSort rlt (clipL l) []) [] (iSort_sorted rlt rlt_tr rlt_asy _ _ .nil) (fun r hr => clipL_ok l r (hp.mem_iff.1 hr)) trivial (fun _ _ h => by cases h)
 have := can_rev _ [] h trivial (fun _ _ _ h => by cases h)
 simpa [mkE] using this
theorem mrg_id : ∀ (t o : List Range), Can (o.reverse ++ t) → t.foldl mrg o = t.reverse ++ o
 | [], o, _ => by simp
 | r :: t, o, h => by
  rw [List.foldl_cons]
  have e : mrg o r = r :: o := by
   cases o with
   | nil => rfl
   | cons q l =>
    rw [mrg_cons]
    have : Can (q :: r :: t) := by
     have h' : Can (l.reverse ++ (q :: r :: t)) := by simpa using h
     clear h
     generalize l.reverse = z at h'
     induction z with
     | nil => exact h'
     | cons a z ih => exact ih h'.tail
    have := this.2.1
    rw [if_neg (by omega)]
  rw [e, mrg_id t (r :: o) (by simpa using h)]
  simp
theorem mkE_id {l : List Range} (h : Can l) : mkE l = l := by
 unfold mkE
 rw [clipL_id h.ok, iSort_id rlt l [] (by simpa using h.sorted)]
 simp only [List.nil_append]
 rw [mrg_id l [] (by simpa using h)]
 simp
theorem can_iff (l : List Range) : mkE l = l ↔ Can l := ⟨fun h => h ▸ mkE_can l, mkE_id⟩
theorem validVer {s : Set} (hl : s.Ranges.length ≤ 12) : ∃ b, cpset_Valid s = some b ∧ (b = true ↔ Can s.Ranges) := by
 unfold cpset_Valid
 rw [make_eq hl, some_bind, ← can_iff]
 by_cases hlen : (mkE s.Ranges).length = s.Ranges.length
 ·
  have e0 : (!decide (((mkE s.Ranges).length : Int) = (s.Ranges.length : Int))) = false := by simp [hlen]
  simp only [e0, cond_false]
  have h := loop_ver0 (body := fun (x : Int) => cpset_Valid_L0 { Ranges := mkE s.Ranges } s x) (mkE s.Ranges).length (fun k => nth (mkE s.Ranges) k = nth s.Ranges k) (fun y => y = false) (fun k hk => by
   have hk2 : k < s.Ranges.length := by omega
   simp only [cpset_Valid_L0, lt_t hk, cond_true, idx_nth hk, idx_nth hk2, some_bind, wi_succ (k := k) (by omega)]
   exact ver_if (by simp) rfl) (fun k hk => by simp only [cpset_Valid_L0, lt_f hk, cond_false])
  have e : (∀ j, j < (mkE s.Ranges).length → nth (mkE s.Ranges) j = nth s.Ranges j) ↔ mkE s.Ranges = s.Ranges := by
   constructor
   ·
    intro h
    refine List.ext_getElem hlen fun j h1 h2 => ?_
    have := h j h1
    rwa [nth_eq h1, nth_eq h2] at this
   · intro h j _; rw [h]
  rw [e] at h
  rcases h with ⟨h, p⟩ | ⟨y, rfl, h, p⟩
  · rw [h]; exact ⟨true, rfl, by simp [p]⟩
  · rw [h]; exact ⟨false, rfl, by simp [p]⟩
 ·
  have e0 : (!decide (((mkE s.Ranges).length : Int) = (s.Ranges.length : Int))) = true := by simp; omega
  simp only [e0, cond_true]
  exact ⟨false, rfl, by simp only [Bool.false_eq_true, false_iff]; exact fun h => hlen (by rw [h])⟩
end Go.M
namespace Go.M
open Go.AV
def hkE (c : Int) : Int := if 4352 ≤ c ∧ c < 4371 then 1 else if 4449 ≤ c ∧ c < 4470 then 2 else if 4520 ≤ c ∧ c < 4547 then 3 else if c < 44032 ∨ 55204 ≤ c then 0 else if (c - 44032) % 28 = 0 then 4 else 5
theorem kind_eq (c : Int) : hangul_Kind c = some (hkE c) := by
 unfold hangul_Kind hkE
 simp only [pv_bind]
 by_cases h1 : 4352 ≤ c ∧ c < 4371
 · simp [h1]
 ·
  by_cases h2 : 4449 ≤ c ∧ c < 4470
  ·
   have : ¬ c < 4371 := by omega
   simp [h2, this]
  ·
   by_cases h3 : 4520 ≤ c ∧ c < 4547
   ·
    have a1 : ¬ c < 4371 := by omega
    have a2 : ¬ c < 4470 := by omega
    simp [h3, a1, a2]
   ·
    have e1 : (decide (4352 ≤ c) && decide (c < 4371)) = false := by simp only [Bool.and_eq_false_iff, decide_eq_false_iff_not]; omega
    have e2 : (decide (4449 ≤ c) && decide (c < 4470)) = false := by simp only [Bool.and_eq_false_iff, decide_eq_false_iff_not]; omega
    have e3 : (decide (4520 ≤ c) && decide (c < 4547)) = false := by simp only [Bool.and_eq_false_iff, decide_eq_false_iff_not]; omega
    simp only [e1, e2, e3, cond_false, h1, h2, h3, if_false]
    by_cases h4 : c < 44032 ∨ 55204 ≤ c
    ·
     have e4 : (decide (c < 44032) || decide (55204 ≤ c)) = true := by simpa using h4
     simp only [e4, cond_true, h4, if_true]
    ·
     have e4 : (decide (c < 44032) || decide (55204 ≤ c)) = false := by simp only [Bool.or_eq_false_iff, decide_eq_false_iff_not]; omega
     simp only [e4, cond_false, h4, if_false]
     rw [wi_id (by omega) (by omega)]
     unfold remM
     rw [if_neg (by omega), some_bind]
     have : (c - 44032).tmod 28 = (c - 44032) % 28 := Int.tmod_eq_emod_of_nonneg (by omega)
     rw [this]
     by_cases h5 : (c - 44032) % 28 = 0 <;> simp [h5]
def syl (c : Int) : Bool := decide (44032 ≤ c) && decide (c ≤ 55203)
theorem syl_iff (c : Int) : syl c = true ↔ 4 ≤ hkE c := by
 unfold syl hkE
 simp only [Bool.and_eq_true, decide_eq_true_eq]
 repeat' split
 all_goals omega
def hdE (c : Int) : List Int := if syl c = true then [4352 + (c - 44032) / 28 / 21, 4449 + (c - 44032) / 28 % 21] ++ (if 0 < (c - 44032) % 28 then [4520 + (c - 44032) % 28 - 1] else []) else [c]
theorem hd_parts {c e : Int} (hc : syl c = true) (he : e ∈ hdE c) : syl e = false ∧ hkE e ≠ 0 := by
 unfold hdE at he
 rw [if_pos hc] at he
 unfold syl at hc
 simp only [Bool.and_eq_true, decide_eq_true_eq] at hc
 have key : (4352 ≤ e ∧ e < 4371) ∨ (4449 ≤ e ∧ e < 4470) ∨ (4520 ≤ e ∧ e < 4547) := by
  simp only [List.mem_append, List.mem_cons, List.not_mem_nil, or_false] at he
  rcases he with (rfl | rfl) | he
  · left; omega
  · right; left; omega
  ·
   split at he
   · simp only [List.mem_singleton] at he; right; right; omega
   · simp at he
 constructor
 ·
  unfold syl
  simp only [Bool.and_eq_false_iff, decide_eq_false_iff_not]
  omega
 ·
  unfold hkE
  rcases key with h | h | h
  · rw [if_pos h]; decide
  · rw [if_neg (by omega), if_pos h]; decide
  · rw [if_neg (by omega), if_neg (by omega), if_pos h]; decide
theorem hd_len (c : Int) : (hdE c).length ≤ 3 ∧ 1 ≤ (hdE c).length := by
 unfold hdE
 split
 · split <;> simp
 · simp
theorem hdec_eq {c : Int} (hc : syl c = true) : hangul_Decompose c = some (hdE c) := by
 have hk := (syl_iff c).1 hc
 have hc' := hc
 unfold syl at hc'
 simp only [Bool.and_eq_true, decide_eq_true_eq] at hc'
 unfold hangul_Decompose hangul_parts
 rw [kind_eq, some_bind]
 have e1 : decide (hkE c < 4) = false := by simp; omega
 simp only [e1, cond_false]
 rw [wi_id (n := c - 44032) (by omega) (by omega)]
 generalize hn : c - 44032 = n
 have hn0 : 0 ≤ n ∧ n < 11172 := by omega
 have d1 : n.tdiv 28 = n / 28 := Int.tdiv_eq_ediv_of_nonneg (by omega)
 have d2 : (n / 28).tdiv 21 = n / 28 / 21 := Int.tdiv_eq_ediv_of_nonneg (by omega)
 have m1 : n.tmod 28 = n % 28 := Int.tmod_eq_emod_of_nonneg (by omega)
 have m2 : (n / 28).tmod 21 = n / 28 % 21 := Int.tmod_eq_emod_of_nonneg (by omega)
 simp only [divM, remM, show ((28 : Int) = 0) = False by simp, show ((21 : Int) = 0) = False by simp, if_false, some_bind, d1, m1]
 rw [wi_id (n := n / 28) (by omega) (by omega)]
 simp only [d2, m2]
 rw [wi_id (n := n / 28 / 21) (by omega) (by omega), wi_id (n := 4352 + n / 28 / 21) (by omega) (by omega), wi_id (n := 4449 + n / 28 % 21) (by omega) (by omega), wi_id (n := 4520 + n % 28) (by omega) (by omega), wi_id (n := 4520 + n % 28 - 1) (by omega) (by omega)]
 unfold hdE
 rw [if_pos hc, hn]
 by_cases h0 : 0 < n % 28
 ·
  simp only [h0, decide_true, cond_true, some_bind, if_true]
  have a1 : decide (({ x0 := 4352 + n / 28 / 21, x1 := 4449 + n / 28 % 21, x2 := 4520 + n % 28 - 1 } : A3Int) = { x0 := 0, x1 := 0, x2 := 0 }) = false := by simp; omega
  have a2 : decide ((4520 + n % 28 - 1 : Int) = 0) = false := by simp; omega
  simp only [a1, a2, cond_false]
  rfl
 ·
  simp only [h0, decide_false, cond_false, some_bind, if_false]
  have a1 : decide (({ x0 := 4352 + n / 28 / 21, x1 := 4449 + n / 28 % 21, x2 := 0 } : A3Int) = { x0 := 0, x1 := 0, x2 := 0 }) = false := by simp; omega
  simp only [a1, cond_false, decide_true, cond_true]
  rfl
theorem bs_mid {lo hi : Nat} (h : lo + hi ≤ 4611686018427387903) : wi ((wu (wi ((lo : Int) + (hi : Int)))) / 2 ^ 1) = (((lo + hi) / 2 : Nat) : Int) := by
 rw [wi_id (n := (lo : Int) + hi) (by omega) (by omega)]
 have : wu ((lo : Int) + (hi : Int)) = (lo : Int) + hi := IntWalk.u64_in _ (by omega)
 rw [this, wi_id (by omega) (by omega)]
 omega
theorem bs_loop {n : Nat} (hn : n ≤ 1000) {body : Int × Int → Option (Stp (Int × Int) Int)} (q : Nat → Bool)
    (hend : ∀ k : Nat, k ≤ n → body ((k : Int), (k : Int)) = some (.done (k : Int)))
    (hstep : ∀ lo hi : Nat, lo < hi → hi ≤ n → body ((lo : Int), (hi : Int)) = some (.next (if q ((lo + hi) / 2) then ((lo : Int), (((lo + hi) / 2 : Nat) : Int)) else ((((lo + hi) / 2 + 1 : Nat) : Int), (hi : Int)))))
    (mono : ∀ i j, i ≤ j → j < n → q i = true → q j = true) :
    ∃ j, j ≤ n ∧ loopM body (0, (n : Int)) = some (j : Int) ∧ (∀ k, k < j → q k = false) ∧ (∀ k, j ≤ k → k < n → q k = true) := by
  have key : ∀ (d lo hi : Nat), hi - lo ≤ d → lo ≤ hi → hi ≤ n → (∀ k, k < lo → q k = false) → (∀ k, hi ≤ k → k < n → q k = true) →
      ∃ j, j ≤ n ∧ loopM body ((lo : Int), (hi : Int)) = some (j : Int) ∧ (∀ k, k < j → q k = false) ∧ (∀ k, j ≤ k → k < n → q k = true) := by
    intro d
    induction d with
    | zero =>
      intro lo hi h1 h2 h3 h4 h5
      have : lo = hi := by omega
      subst this
      exact ⟨lo, h3, loopM_done (hend lo h3), h4, h5⟩
    | succ d ih =>
      intro lo hi h1 h2 h3 h4 h5
      by_cases e : lo = hi
      · subst e
        exact ⟨lo, h3, loopM_done (hend lo h3), h4, h5⟩
      · have hlt : lo < hi := by omega
        have hmid : (lo + hi) / 2 < n := by omega
        rw [loopM_next (hstep lo hi hlt h3)]
        cases hq : q ((lo + hi) / 2) with
        | true =>
          rw [if_pos rfl]
          exact ih lo ((lo + hi) / 2) (by omega) (by omega) (by omega) h4 (fun k hk hkn => mono _ _ hk hkn hq)
        | false =>
          rw [if_neg (by simp)]
          refine ih ((lo + hi) / 2 + 1) hi (by omega) (by omega) h3 ?_ h5
          intro k hk
          cases hqk : q k with
          | false => rfl
          | true =>
            have := mono k ((lo + hi) / 2) (by omega) hmid hqk
            rw [hq] at this; cases this
  exact key n 0 n (by omega) (by omega) (by omega) (by intro k hk; omega) (by intro k hk hkn; omega)
theorem find_at {α : Type} [Inhabited α] {l : List α} {p : α → Bool} {i : Nat} (hi : i < l.length) (h : ∀ j, j < i → p (nth l j) = false) (hp : p (nth l i) = true) : l.find? p = some (nth l i) := by
 rw [List.find?_eq_some_iff_getElem]
 refine ⟨hp, i, hi, (nth_eq hi).symm, fun j hj => ?_⟩
 have := h j hj
 rw [nth_eq (by omega)] at this
 simp [this]
theorem find_no {α : Type} [Inhabited α] {l : List α} {p : α → Bool} (h : ∀ j, j < l.length → p (nth l j) = false) : l.find? p = none := by
 rw [List.find?_eq_none]
 intro x hx
 obtain ⟨k, hk, rfl⟩ := List.getElem_of_mem hx
 have := h k hk
 rw [nth_eq hk] at this
 simp [this]
def inSp (c : Int) (s : Span) : Bool := decide (s.Lo ≤ c) && decide (c ≤ s.Hi)
def clE (l : List Span) (c : Int) : Int := match l.find? (inSp c) with
 | some s => s.Value
 | none => 0
theorem CV.mono {l : List Span} (h : CV l) : ∀ (d i : Nat), i + d + 1 < l.length → (nth l i).Hi < (nth l (i + d + 1)).Lo
 | 0, i, hi => (h.ad i hi).1
 | d + 1, i, hi => by
  have h1 := CV.mono h d i (by omega)
  have h2 := h.sp (i + d + 1) (by omega)
  have h3 := (h.ad (i + d + 1) (by omega)).1
  unfold spOk at h2
  have : i + (d + 1) + 1 = i + d + 1 + 1 := by omega
  rw [this]
  omega
theorem CV.lt {l : List Span} (h : CV l) {i j : Nat} (hij : i < j) (hj : j < l.length) : (nth l i).Hi < (nth l j).Lo := by
 have := CV.mono h (j - i - 1) i (by omega)
 rwa [show i + (j - i - 1) + 1 = j by omega] at this
theorem CV.hi {l : List Span} (h : CV l) {i j : Nat} (hij : i ≤ j) (hj : j < l.length) : (nth l i).Hi ≤ (nth l j).Hi := by
 rcases Nat.lt_or_eq_of_le hij with h1 | rfl
 ·
  have := h.lt h1 hj
  have h2 := h.sp j hj
  unfold spOk at h2
  omega
 · exact Int.le_refl _
theorem cl_at {l : List Span} (h : CV l) {c : Int} {i : Nat} (hi : i ≤ l.length) (hl : ∀ j, j < i → (nth l j).Hi < c) (hr : ∀ j, i ≤ j → j < l.length → c ≤ (nth l j).Hi) :
    clE l c = if i < l.length ∧ (nth l i).Lo ≤ c then (nth l i).Value else 0 := by
  unfold clE
  by_cases hc : i < l.length ∧ (nth l i).Lo ≤ c
  · have hf := find_at (p := inSp c) hc.1 (fun j hj => by
      unfold inSp
      have := hl j hj
      simp only [Bool.and_eq_false_iff, decide_eq_false_iff_not]
      omega) (by
      unfold inSp
      simp only [Bool.and_eq_true, decide_eq_true_eq]
      exact ⟨hc.2, hr i (Nat.le_refl _) hc.1⟩)
    rw [if_pos hc, hf]
  · have hf := find_no (l := l) (p := inSp c) (fun j hj => by
      unfold inSp
      simp only [Bool.and_eq_false_iff, decide_eq_false_iff_not]
      by_cases hji : j < i
      · have := hl j hji; omega
      · by_cases e : j = i
        · subst e; left; exact fun hh => hc ⟨hj, hh⟩
        · have h1 := h.lt (show i < j by omega) hj
          have h2 := hr i (Nat.le_refl _) (by omega)
          left; omega)
    rw [if_neg hc, hf]
theorem class_eq {l : List Span} (h : CV l) (hl : l.length ≤ 1000) (c : Int) : ordering_class l c = some (clE l c) := by
 obtain ⟨j, hj, hr, hlo, hhi⟩ := bs_loop (n := l.length) hl (body := fun (x : Int × Int) => slices_BinarySearchFunc_api_Span_api_Span_int_L0 l (fun x0 x1 => ordering_class_1 x0 x1) c x.1 x.2) (fun k => decide (c ≤ (nth l k).Hi))
  (fun k _ => by simp only [slices_BinarySearchFunc_api_Span_api_Span_int_L0, lt_f (Nat.le_refl _), cond_false])
  (fun lo hi h1 h2 => by
   have hm : (lo + hi) / 2 < l.length := by omega
   simp only [slices_BinarySearchFunc_api_Span_api_Span_int_L0, lt_t h1, cond_true, bs_mid (show lo + hi ≤ 4611686018427387903 by omega), idx_nth hm, some_bind, ordering_class_1, wi_succ (k := (lo + hi) / 2) (by omega)]
   by_cases hc : (nth l ((lo + hi) / 2)).Hi < c
   ·
    have : ¬ c ≤ (nth l ((lo + hi) / 2)).Hi := by omega
    simp [hc, this]
   ·
    have : c ≤ (nth l ((lo + hi) / 2)).Hi := by omega
    by_cases hc2 : c < (nth l ((lo + hi) / 2)).Lo <;> simp [hc, hc2, this])
  (fun i j hij hj hi => by
   have := h.hi hij hj
   simp only [decide_eq_true_eq] at hi ⊢
   omega)
 simp only [decide_eq_false_iff_not, decide_eq_true_eq] at hlo hhi
 unfold ordering_class slices_BinarySearchFunc_api_Span_api_Span_int
 rw [hr, cl_at h hj (fun k hk => by have := hlo k hk; omega) hhi]
 simp only [some_bind, pv_bind]
 by_cases hn : j < l.length
 ·
  have h2 := hhi j (Nat.le_refl _) hn
  simp only [lt_t hn, gM_t, idx_nth hn, some_bind, ordering_class_1, Bool.true_and, hn, true_and]
  have e1 : decide ((nth l j).Hi < c) = false := by simp; omega
  simp only [e1, cond_false]
  by_cases hc2 : c < (nth l j).Lo
  ·
   have : ¬ (nth l j).Lo ≤ c := by omega
   simp [hc2, this]
  ·
   have : (nth l j).Lo ≤ c := by omega
   simp [hc2, this, idx_nth hn]
 · simp only [lt_f (show l.length ≤ j by omega), gM_f, some_bind, Bool.false_and, Bool.not_false, cond_true, hn, false_and, if_false]
theorem usable_eq {l : List Span} (hl : l.length ≤ 1000) (hok : ∀ x ∈ l, okSpan x) (h : CV l) : ordering_usable l = some l := by
 obtain ⟨e, he, hp⟩ := ordCheck hl hok
 unfold ordering_usable
 rw [he, some_bind, hp.2 h]
 rfl
end Go.M
namespace Go.M
open Go.AV
theorem drop_get {α : Type} {l r : List α} {x : α} {k : Nat} (h : l.drop k = x :: r) : l[k]? = some x ∧ l.drop (k + 1) = r ∧ k + 1 ≤ l.length := by
 have hk : k < l.length := by
  rcases Nat.lt_or_ge k l.length with h1 | h1
  · exact h1
  · rw [List.drop_of_length_le h1] at h; cases h
 rw [List.drop_eq_getElem_cons hk] at h
 injection h with h1 h2
 exact ⟨by rw [List.getElem?_eq_getElem hk, h1], h2, hk⟩
theorem yM_ok {α : Type} [DecidableEq α] {items : List α} {k : Nat} {x : α} (h : items[k]? = some x) : yM items k x = some () := by
 unfold yM; rw [if_pos h]
theorem endM_ok {α : Type} {items : List α} {k : Nat} (h : items.drop k = []) (hk : k ≤ items.length) : endM items k = some () := by
 unfold endM
 rw [if_pos]
 have := congrArg List.length h
 simp at this
 omega
section
variable {l : List Span} (h : CV l) (hl : l.length ≤ 1000) {text : List Int} (ht : text.length ≤ 1000) {st : Int → Bool} (hst : ∀ c, st c = decide (clE l c = 0)) {items : List Range}
include h hl ht hst
theorem runs_loop : ∀ (n i : Nat) (s : Int) (k : Nat), text.length - i = n → i ≤ text.length → items.drop k = runsOf st (text.drop i) (i : Int) s → k ≤ items.length →
    ∃ s' k', loopM (fun (x : Int × Int × Nat) => ordering_runs_1_L0 text l items x.1 x.2.1 x.2.2) (s, (i : Int), k) = some (.inl (s', k')) ∧ items.drop k' = runsOf st [] (text.length : Int) s' ∧ k' ≤ items.length := by
  intro n
  induction n with
  | zero =>
    intro i s k h1 h2 h3 h4
    have : i = text.length := by omega
    subst this
    refine ⟨s, k, ?_, by rw [h3, List.drop_length], h4⟩
    rw [loopM_eq]
    simp only [ordering_runs_1_L0, lt_f (Nat.le_refl _), cond_false]
  | succ n ih =>
    intro i s k h1 h2 h3 h4
    have hi : i < text.length := by omega
    rw [List.drop_eq_getElem_cons hi] at h3
    simp only [runsOf] at h3
    have hs := hst text[i]
    have ec : ((i : Int) + 1) = ((i + 1 : Nat) : Int) := by omega
    rw [ec] at h3
    have step : ∀ s' k', ordering_runs_1_L0 text l items s (i : Int) k = some (.next (s', ((i + 1 : Nat) : Int), k')) → items.drop k' = runsOf st (text.drop (i + 1)) ((i + 1 : Nat) : Int) s' → k' ≤ items.length →
        ∃ s' k', loopM (fun (x : Int × Int × Nat) => ordering_runs_1_L0 text l items x.1 x.2.1 x.2.2) (s, (i : Int), k) = some (.inl (s', k')) ∧ items.drop k' = runsOf st [] (text.length : Int) s' ∧ k' ≤ items.length := by
      intro s' k' hb g2 g3
      rw [loopM_next (body := fun (x : Int × Int × Nat) => ordering_runs_1_L0 text l items x.1 x.2.1 x.2.2) (x := (s, (i : Int), k)) hb]
      exact ih (i + 1) s' k' (by omega) (by omega) g2 g3
    by_cases hc : clE l text[i] = 0
    · rw [hs] at h3
      simp only [hc, decide_true, Bool.not_true, Bool.false_and, Bool.false_eq_true, if_false, Bool.true_and] at h3
      by_cases h0 : 0 ≤ s
      · simp only [h0, decide_true, if_true] at h3
        obtain ⟨g1, g2, g3⟩ := drop_get h3
        refine step (-1) (k + 1) ?_ g2 g3
        simp only [ordering_runs_1_L0, lt_t hi, cond_true, idx_nat hi, some_bind, class_eq h hl, pv_bind, wi_succ (k := i) (by omega), hc, decide_true, Bool.not_true, Bool.false_and, cond_false, Bool.true_and, h0, yM_ok g1, Sum.elim_inl]
      · simp only [h0, decide_false, Bool.false_eq_true, if_false] at h3
        refine step s k ?_ h3 h4
        simp only [ordering_runs_1_L0, lt_t hi, cond_true, idx_nat hi, some_bind, class_eq h hl, pv_bind, wi_succ (k := i) (by omega), hc, decide_true, Bool.not_true, Bool.false_and, cond_false, Bool.true_and, h0, decide_false, Sum.elim_inl]
    · rw [hs] at h3
      simp only [hc, decide_false, Bool.not_false, Bool.true_and, Bool.false_and, Bool.false_eq_true, if_false] at h3
      by_cases h0 : s < 0
      · simp only [h0, decide_true, if_true] at h3
        refine step (i : Int) k ?_ h3 h4
        simp only [ordering_runs_1_L0, lt_t hi, cond_true, idx_nat hi, some_bind, class_eq h hl, pv_bind, wi_succ (k := i) (by omega), hc, decide_false, Bool.not_false, Bool.true_and, h0, decide_true, Sum.elim_inl]
      · simp only [h0, decide_false, Bool.false_eq_true, if_false] at h3
        refine step s k ?_ h3 h4
        simp only [ordering_runs_1_L0, lt_t hi, cond_true, idx_nat hi, some_bind, class_eq h hl, pv_bind, wi_succ (k := i) (by omega), hc, decide_false, Bool.not_false, Bool.true_and, h0, cond_false, Bool.false_and, Sum.elim_inl]
theorem runs1_eq (hit : items = runsOf st text 0 (-1)) : ordering_runs_1 items text l = some () := by
 obtain ⟨s, k, h1, h2, h3⟩ := runs_loop h hl ht hst (items := items) text.length 0 (-1) 0 (by omega) (by omega) (by rw [List.drop_zero, List.drop_zero]; exact hit) (Nat.zero_le _)
 unfold ordering_runs_1
 have h1' : loopM (fun (x : Int × Int × Nat) => ordering_runs_1_L0 text l items x.1 x.2.1 x.2.2) (-1, 0, 0) = some (.inl (s, k)) := h1
 rw [h1']
 simp only [some_bind, Sum.elim_inl]
 unfold runsOf at h2
 by_cases h0 : 0 ≤ s
 ·
  rw [if_pos h0] at h2
  obtain ⟨g1, g2, g3⟩ := drop_get h2
  simp only [h0, decide_true, cond_true, yM_ok g1, some_bind]
  exact endM_ok g2 g3
 ·
  rw [if_neg h0] at h2
  simp only [h0, decide_false, cond_false]
  exact endM_ok h2 h3
omit h hl ht hst in
theorem runsOf_len : ∀ (t : List Int) (i s : Int), (runsOf st t i s).length ≤ t.length + 1
 | [], i, s => by unfold runsOf; split <;> simp
 | c :: t, i, s => by
  unfold runsOf
  split
  · have := runsOf_len t (i + 1) i; simp; omega
  ·
   split
   · have := runsOf_len t (i + 1) (-1); simp; omega
   · have := runsOf_len t (i + 1) s; simp; omega
omit h hl ht hst in
theorem runsOf_nil : ∀ (t : List Int) (i s : Int), 0 ≤ i → (runsOf st t i s = [] ↔ s < 0 ∧ ∀ c ∈ t, st c = true)
 | [], i, s, hi => by
  unfold runsOf
  split
  · simp; omega
  · simp; omega
 | c :: t, i, s, hi => by
  unfold runsOf
  cases hc : st c with
  | true =>
   simp only [Bool.not_true, Bool.false_and, Bool.false_eq_true, if_false, Bool.true_and]
   by_cases h0 : 0 ≤ s
   · simp [h0]; omega
   ·
    simp only [h0, decide_false, Bool.false_eq_true, if_false]
    rw [runsOf_nil t (i + 1) s (by omega)]
    simp [hc]
  | false =>
   simp only [Bool.not_false, Bool.true_and, Bool.false_and, Bool.false_eq_true, if_false]
   by_cases h0 : s < 0
   ·
    simp only [h0, decide_true, if_true]
    rw [runsOf_nil t (i + 1) i (by omega)]
    simp [hc]; omega
   ·
    simp only [h0, decide_false, Bool.false_eq_true, if_false]
    rw [runsOf_nil t (i + 1) s (by omega)]
    simp [hc, h0]
end
theorem runs_eq {l : List Span} (h : CV l) (hl : l.length ≤ 1000) (hok : ∀ x ∈ l, okSpan x) {text : List Int} (ht : text.length ≤ 1000) :
    ∃ r, ordering_Runs l text = some r ∧ (r = [] ↔ ∀ c ∈ text, clE l c = 0) := by
  have hst : ∀ c, (ordering_class l c == some 0) = decide (clE l c = 0) := fun c => by
    rw [class_eq h hl, Bool.eq_iff_iff]; simp
  unfold ordering_Runs
  rw [usable_eq hl hok h, some_bind, runs1_eq h hl ht hst rfl, some_bind]
  have hlen := runsOf_len (st := fun c => ordering_class l c == some 0) text 0 (-1)
  refine ⟨_, by unfold lenM; rw [if_pos (by unfold LIM; omega)], ?_⟩
  rw [runsOf_nil _ _ _ (by omega)]
  simp only [hst, decide_eq_true_eq]
  constructor
  · exact fun h => h.2
  · exact fun h => ⟨by omega, h⟩
structure DS (l : List Mapping) : Prop where
 asc : ∀ k, k + 1 < l.length → (nth l k).From < (nth l (k + 1)).From
 hk : ∀ m ∈ l, hkE m.From = 0
 len : ∀ m ∈ l, m.To.length ≤ 1000
theorem DS.mono {l : List Mapping} (h : DS l) : ∀ (d i : Nat), i + d + 1 < l.length → (nth l i).From < (nth l (i + d + 1)).From
 | 0, i, hi => h.asc i hi
 | d + 1, i, hi => by
  have h1 := DS.mono h d i (by omega)
  have h3 := h.asc (i + d + 1) (by omega)
  have : i + (d + 1) + 1 = i + d + 1 + 1 := by omega
  rw [this]
  omega
theorem DS.lt {l : List Mapping} (h : DS l) {i j : Nat} (hij : i < j) (hj : j < l.length) : (nth l i).From < (nth l j).From := by
 have := DS.mono h (j - i - 1) i (by omega)
 rwa [show i + (j - i - 1) + 1 = j by omega] at this
def isF (c : Int) (m : Mapping) : Bool := decide (m.From = c)
theorem msearch {l : List Mapping} (h : DS l) (hl : l.length ≤ 1000) (c : Int) : ∃ i : Nat, slices_BinarySearchFunc_api_Mapping_api_Mapping_int l c (fun x0 x1 => decompose_once_1 x0 x1) = some ((i : Int), (l.find? (isF c)).isSome) ∧ ∀ m, l.find? (isF c) = some m → i < l.length ∧ nth l i = m := by
  have hc1 : ∀ m, decompose_once_1 m c = some (if m.From < c then -1 else if c < m.From then 1 else 0) := fun m => by
    unfold decompose_once_1
    rw [cmpI]; rfl
  obtain ⟨j, hj, hr, hlo, hhi⟩ := bs_loop (n := l.length) hl (body := fun (x : Int × Int) => slices_BinarySearchFunc_api_Mapping_api_Mapping_int_L0 l (fun x0 x1 => decompose_once_1 x0 x1) c x.1 x.2) (fun k => decide (c ≤ (nth l k).From))
    (fun k _ => by simp only [slices_BinarySearchFunc_api_Mapping_api_Mapping_int_L0, lt_f (Nat.le_refl _), cond_false])
    (fun lo hi h1 h2 => by
      have hm : (lo + hi) / 2 < l.length := by omega
      simp only [slices_BinarySearchFunc_api_Mapping_api_Mapping_int_L0, lt_t h1, cond_true, bs_mid (show lo + hi ≤ 4611686018427387903 by omega), idx_nth hm, some_bind, hc1, wi_succ (k := (lo + hi) / 2) (by omega)]
      by_cases hc : (nth l ((lo + hi) / 2)).From < c
      · have : ¬ c ≤ (nth l ((lo + hi) / 2)).From := by omega
        simp [hc, this]
      · have : c ≤ (nth l ((lo + hi) / 2)).From := by omega
        by_cases hc2 : c < (nth l ((lo + hi) / 2)).From <;> simp [hc, hc2, this])
    (fun i j hij hj hi => by
      simp only [decide_eq_true_eq] at hi ⊢
      rcases Nat.lt_or_eq_of_le hij with h1 | rfl
      · have := h.lt h1 hj; omega
      · exact hi)
  simp only [decide_eq_false_iff_not, decide_eq_true_eq] at hlo hhi
  refine ⟨j, ?_⟩
  unfold slices_BinarySearchFunc_api_Mapping_api_Mapping_int
  rw [hr]
  simp only [some_bind, pv_bind]
  by_cases hn : j < l.length ∧ (nth l j).From = c
  · have hf := find_at (p := isF c) hn.1 (fun k hk => by
      have := hlo k hk
      unfold isF
      simp only [decide_eq_false_iff_not]; omega) (by unfold isF; simpa using hn.2)
    rw [hf]
    simp only [lt_t hn.1, gM_t, idx_nth hn.1, some_bind, hc1, Bool.true_and, hn.2]
    refine ⟨by simp, fun m hm => ?_⟩
    injection hm with hm
    exact ⟨hn.1, hm⟩
  · have hf := find_no (l := l) (p := isF c) (fun k hk => by
      unfold isF
      simp only [decide_eq_false_iff_not]
      intro e
      by_cases hkj : k < j
      · have := hlo k hkj; omega
      · by_cases e2 : k = j
        · subst e2; exact hn ⟨hk, e⟩
        · have h1 := h.lt (show j < k by omega) hk
          have h2 := hhi j (Nat.le_refl _) (by omega)
          omega)
    rw [hf]
    refine ⟨?_, fun m hm => by cases hm⟩
    by_cases hj2 : j < l.length
    · have h2 := hhi j (Nat.le_refl _) hj2
      have h3 : ¬ (nth l j).From = c := fun e => hn ⟨hj2, e⟩
      have h4 : c < (nth l j).From := by omega
      have h5 : ¬ (nth l j).From < c := by omega
      simp only [lt_t hj2, gM_t, idx_nth hj2, some_bind, hc1, h4, h5, if_true, if_false, Bool.true_and]
      rfl
    · simp only [lt_f (show l.length ≤ j by omega), gM_f, some_bind, Bool.false_and]
      rfl
def dep (l : List Mapping) (c : Int) : List Int := if syl c = true then hdE c else match l.find? (isF c) with
 | some m => m.To
 | none => []
def fnd (l : List Mapping) (c : Int) : Bool := syl c || (l.find? (isF c)).isSome
theorem fnd_dep {l : List Mapping} {c : Int} (h : fnd l c = false) : dep l c = [] := by
 unfold fnd at h
 simp only [Bool.or_eq_false_iff] at h
 unfold dep
 rw [if_neg (by simp [h.1])]
 cases hf : l.find? (isF c) with
 | none => rfl
 | some m => rw [hf] at h; simp at h
theorem once_eq {n : Norm} (h : DS n.Decomp) (hl : n.Decomp.length ≤ 1000) (c : Int) : decompose_once n c true = some (dep n.Decomp c, fnd n.Decomp c) := by
 unfold decompose_once dep fnd
 rw [kind_eq, some_bind]
 by_cases hs : syl c = true
 ·
  have e : decide (4 ≤ hkE c) = true := by simpa using (syl_iff c).1 hs
  simp only [e, cond_true, hdec_eq hs, some_bind, hs, if_true, Bool.true_or]
 ·
  have e : decide (4 ≤ hkE c) = false := by simp only [decide_eq_false_iff_not]; exact fun hh => hs ((syl_iff c).2 hh)
  simp only [Bool.not_eq_true] at hs
  simp only [e, cond_false, hs, Bool.false_eq_true, if_false, Bool.false_or]
  obtain ⟨i, hb, hp⟩ := msearch h hl c
  rw [hb]
  simp only [some_bind, pv_bind]
  cases hf : n.Decomp.find? (isF c) with
  | none => simp [gM_f]
  | some m =>
   obtain ⟨h1, h2⟩ := hp m hf
   simp [gM_t, idx_nth h1, h2]
theorem dep_syl {l : List Mapping} (h : DS l) {c e : Int} (hc : syl c = true) (he : e ∈ dep l c) : dep l e = [] := by
 unfold dep at he
 rw [if_pos hc] at he
 obtain ⟨h1, h2⟩ := hd_parts hc he
 unfold dep
 rw [if_neg (by simp [h1])]
 cases hf : l.find? (isF e) with
 | none => rfl
 | some m =>
  exfalso
  have h3 := List.mem_of_find?_eq_some hf
  have h4 := List.find?_some hf
  unfold isF at h4
  simp only [decide_eq_true_eq] at h4
  exact h2 (h4 ▸ h.hk m h3)
theorem dep_len {l : List Mapping} (h : DS l) (c : Int) : (dep l c).length ≤ 1000 := by
 unfold dep
 split
 · have := (hd_len c).1; omega
 ·
  cases hf : l.find? (isF c) with
  | none => simp
  | some m => exact h.len m (List.mem_of_find?_eq_some hf)
theorem dep_from {l : List Mapping} (h : DS l) {m : Mapping} (hm : m ∈ l) : dep l m.From = m.To := by
 have h0 := h.hk m hm
 have hs : syl m.From = false := by
  cases hs : syl m.From with
  | false => rfl
  | true => have := (syl_iff _).1 hs; omega
 unfold dep
 rw [if_neg (by simp [hs])]
 obtain ⟨k, hk, rfl⟩ := List.getElem_of_mem hm
 rw [← nth_eq hk]
 rw [find_at (p := isF (nth l k).From) hk (fun j hj => by
  have := h.lt hj hk
  unfold isF
  simp only [decide_eq_false_iff_not]; omega) (by simp [isF])]
theorem dep_ne {l : List Mapping} {c : Int} (h : dep l c ≠ []) (hs : syl c = false) : ∃ m ∈ l, m.From = c := by
 unfold dep at h
 rw [if_neg (by simp [hs])] at h
 cases hf : l.find? (isF c) with
 | none => rw [hf] at h; exact absurd rfl h
 | some m =>
  have h4 := List.find?_some hf
  unfold isF at h4
  exact ⟨m, List.mem_of_find?_eq_some hf, by simpa using h4⟩
end Go.M
namespace Go.M
open Go.AV
def EE (l : List Mapping) : Nat → Int → Prop
 | 0, _ => False
 | k + 1, c => ∀ e ∈ dep l c, EE l k e
def WW (l : List Mapping) (c : Int) : Prop := ∃ k, EE l k c
theorem EE_succ {l : List Mapping} : ∀ {k : Nat} {c : Int}, EE l k c → EE l (k + 1) c
 | 0, _, h => h.elim
 | k + 1, _, h => fun e he => EE_succ (h e he)
theorem EE_le {l : List Mapping} {c : Int} {k j : Nat} (h : k ≤ j) (hk : EE l k c) : EE l j c := by
 induction h with
 | refl => exact hk
 | step _ ih => exact EE_succ ih
theorem WW_all {l : List Mapping} : ∀ {L : List Int}, (∀ e ∈ L, WW l e) → ∃ k, ∀ e ∈ L, EE l k e
 | [], _ => ⟨0, fun e he => by cases he⟩
 | x :: L, h => by
  obtain ⟨a, ha⟩ := h x (by simp)
  obtain ⟨b, hb⟩ := WW_all (L := L) fun e he => h e (by simp [he])
  refine ⟨max a b, fun e he => ?_⟩
  rcases List.mem_cons.1 he with rfl | he
  · exact EE_le (by omega) ha
  · exact EE_le (by omega) (hb e he)
theorem WW_of {l : List Mapping} {c : Int} (h : ∀ e ∈ dep l c, WW l e) : WW l c := by
 obtain ⟨k, hk⟩ := WW_all h
 exact ⟨k + 1, hk⟩
theorem WW_leaf {l : List Mapping} {c : Int} (h : dep l c = []) : WW l c := WW_of (by rw [h]; intro e he; cases he)
theorem WW_syl {l : List Mapping} (hd : DS l) {c : Int} (h : syl c = true) : WW l c := WW_of fun _ he => WW_leaf (dep_syl hd h he)
theorem mhas_put (m : List (Int × Int)) (c v k : Int) : mhas (mput m c v) k = (decide (k = c) || mhas m k) := by
 unfold mhas
 rw [mget_mput]
 by_cases h : k = c <;> simp [h]
def pot (l : List Mapping) (m : List (Int × Int)) : Nat := l.countP fun x => !mhas m x.From
theorem pot_le {l : List Mapping} {m m' : List (Int × Int)} (h : ∀ k, mhas m k = true → mhas m' k = true) : pot l m' ≤ pot l m := by
 refine List.countP_mono_left fun x _ hx => ?_
 cases hm : mhas m x.From with
 | false => rfl
 | true => rw [h _ hm] at hx; exact hx
theorem countP_lt {α : Type} {p q : α → Bool} : ∀ {l : List α}, (∀ x ∈ l, p x = true → q x = true) → (∃ x ∈ l, q x = true ∧ p x = false) → l.countP p + 1 ≤ l.countP q
 | [], _, ⟨x, hx, _⟩ => by cases hx
 | y :: l, h, ⟨x, hx, h1, h2⟩ => by
  have hle := List.countP_mono_left (l := l) fun z hz => h z (by simp [hz])
  rw [List.countP_cons, List.countP_cons]
  rcases List.mem_cons.1 hx with rfl | hx
  · simp [h1, h2]; omega
  ·
   have ih := countP_lt (l := l) (fun z hz => h z (by simp [hz])) ⟨x, hx, h1, h2⟩
   have hy := h y (by simp)
   cases hp : p y with
   | false => simp; omega
   | true => simp [hy hp]; omega
theorem pot_put {l : List Mapping} {m : List (Int × Int)} {c v : Int} (hc : ∃ x ∈ l, x.From = c) (hm : mhas m c = false) : pot l (mput m c v) + 1 ≤ pot l m := by
 refine countP_lt (fun x _ hx => ?_) ?_
 ·
  rw [mhas_put] at hx
  simp only [Bool.not_or, Bool.and_eq_true] at hx
  exact hx.2
 ·
  obtain ⟨x, hx, rfl⟩ := hc
  refine ⟨x, hx, by rw [hm]; rfl, by rw [mhas_put]; simp⟩
section
variable {n : Norm} (hd : DS n.Decomp) (hl : n.Decomp.length ≤ 1000)
include hd hl
noncomputable abbrev MBody (L : List Int × Bool) (rec : Int → Norm → (List (Int × Int)) → Bool → Bool → Option (Int × Bool × Bool × (List (Int × Int)))) (n : Norm) : Int × Int × Bool × Bool × (List (Int × Int)) → Option (Stp (Int × Int × Bool × Bool × (List (Int × Int))) (Int × Bool × Bool × (List (Int × Int)))) :=
 fun x => decompose_measure_1_L0 L rec n x.1 x.2.1 x.2.2.1 x.2.2.2.1 x.2.2.2.2
theorem mB_leaf {rec : Int → Norm → (List (Int × Int)) → Bool → Bool → Option (Int × Bool × Bool × (List (Int × Int)))} {c : Int} {m : List (Int × Int)} {cy lo : Bool} (h : dep n.Decomp c = []) : decompose_measure_1_B rec c n m cy lo = some (1, cy, lo, m) := by
 unfold decompose_measure_1_B
 rw [once_eq hd hl, some_bind, pv_bind]
 simp [h]
theorem mB_ne {rec : Int → Norm → (List (Int × Int)) → Bool → Bool → Option (Int × Bool × Bool × (List (Int × Int)))} {c : Int} {m : List (Int × Int)} {cy lo : Bool} (h : dep n.Decomp c ≠ []) :
    decompose_measure_1_B rec c n m cy lo = cond (mhas m c) (some (max (mgetD m c 0) 1, (cy || decide (mgetD m c 0 = -1)), lo, m)) ((loopM (MBody (dep n.Decomp c, true) rec n) (0, 0, cy, lo, mput m c (-1))).bind fun y => some (y.1, y.2.1, (y.2.2.1 || decide (64 < y.1)), mput y.2.2.2 c y.1)) := by
  have hf : fnd n.Decomp c = true := by
    cases hf : fnd n.Decomp c with
    | true => rfl
    | false => exact absurd (fnd_dep hf) h
  unfold decompose_measure_1_B
  rw [once_eq hd hl, some_bind, pv_bind, hf]
  have hlen : decide (((dep n.Decomp c).length : Int) = 0) = false := by
    simp only [decide_eq_false_iff_not]
    have : (dep n.Decomp c).length ≠ 0 := fun e => h (List.eq_nil_of_length_eq_zero e)
    omega
  simp only [Bool.not_true, Bool.false_or, hlen, cond_false]
  rfl
structure MOk (l : List Mapping) (m : List (Int × Int)) (cy : Bool) : Prop where
 bd : ∀ k v, mget m k = some v → -1 ≤ v ∧ v ≤ 65
 ww : cy = false → ∀ k v, mget m k = some v → v ≠ -1 → WW l k
def need (l : List Mapping) (f : Nat) (c : Int) (m : List (Int × Int)) : Prop := pot l m + 3 ≤ f ∨ (syl c = true ∧ 2 ≤ f) ∨ (dep l c = [] ∧ 1 ≤ f)
omit hd hl in
theorem need_mono {l : List Mapping} {f : Nat} {c : Int} {m m' : List (Int × Int)} (h : ∀ k, mhas m k = true → mhas m' k = true) (hn : need l f c m) : need l f c m' := by
 rcases hn with hn | hn
 · exact .inl (by have := pot_le (l := l) h; omega)
 · exact .inr hn
def MPost (l : List Mapping) (c : Int) (m : List (Int × Int)) (cy : Bool) (r : Int × Bool × Bool × (List (Int × Int))) : Prop :=
 (1 ≤ r.1 ∧ r.1 ≤ 65) ∧ MOk l r.2.2.2 r.2.1 ∧ (∀ k, mhas m k = true → mhas r.2.2.2 k = true) ∧ (r.2.1 = false → cy = false ∧ WW l c)
omit hl in
theorem m_loop {f : Nat} (ih : ∀ c m cy lo, MOk n.Decomp m cy → need n.Decomp f c m → ∃ r, decompose_measure_1 f c n m cy lo = some r ∧ MPost n.Decomp c m cy r) (c : Int) :
    ∀ (d i : Nat) (s : Int) (cy lo : Bool) (m : List (Int × Int)), (dep n.Decomp c).length - i = d → i ≤ (dep n.Decomp c).length → 0 ≤ s → s ≤ 65 → MOk n.Decomp m cy → (∀ e ∈ dep n.Decomp c, need n.Decomp f e m) →
      ∃ r, loopM (MBody (dep n.Decomp c, true) (decompose_measure_1 f) n) (s, (i : Int), cy, lo, m) = some r ∧ (s ≤ r.1 ∧ r.1 ≤ 65) ∧ (i < (dep n.Decomp c).length → 1 ≤ r.1) ∧ MOk n.Decomp r.2.2.2 r.2.1 ∧ (∀ k, mhas m k = true → mhas r.2.2.2 k = true) ∧ (r.2.1 = false → cy = false ∧ ∀ e ∈ (dep n.Decomp c).drop i, WW n.Decomp e) := by
  have hL := dep_len hd c
  generalize dep n.Decomp c = L at *
  intro d
  induction d with
  | zero =>
    intro i s cy lo m h1 h2 h3 h4 h5 h6
    refine ⟨(s, cy, lo, m), ?_, ⟨Int.le_refl _, h4⟩, fun h => by omega, h5, fun _ h => h, fun h => ⟨h, ?_⟩⟩
    · refine loopM_done ?_
      simp only [decompose_measure_1_L0, lt_f (show L.length ≤ i by omega), cond_false]
    · rw [List.drop_of_length_le (by omega)]; intro e he; cases he
  | succ d ihd =>
    intro i s cy lo m h1 h2 h3 h4 h5 h6
    have hi : i < L.length := by omega
    obtain ⟨r, hr, ⟨r1, r2⟩, r3, r4, r5⟩ := ih L[i] m cy lo h5 (h6 _ (List.getElem_mem hi))
    have hb : MBody (L, true) (decompose_measure_1 f) n (s, (i : Int), cy, lo, m) = some (.next (min (s + r.1) 65, ((i + 1 : Nat) : Int), r.2.1, r.2.2.1, r.2.2.2)) := by
      simp only [decompose_measure_1_L0, lt_t hi, cond_true, idx_nat hi, some_bind, hr, wi_succ (k := i) (by omega)]
      rw [wi_id (n := s + r.1) (by omega) (by omega)]
    rw [loopM_next hb]
    obtain ⟨q, hq, ⟨q1, q2⟩, q3, q4, q5, q6⟩ := ihd (i + 1) (min (s + r.1) 65) r.2.1 r.2.2.1 r.2.2.2 (by omega) (by omega) (by omega) (by omega) r3 (fun e he => need_mono r4 (h6 e he))
    refine ⟨q, hq, ⟨by omega, q2⟩, fun _ => by omega, q4, fun k hk => q5 k (r4 k hk), fun hqc => ?_⟩
    obtain ⟨a1, a2⟩ := q6 hqc
    obtain ⟨b1, b2⟩ := r5 a1
    refine ⟨b1, ?_⟩
    rw [List.drop_eq_getElem_cons hi]
    intro e he
    rcases List.mem_cons.1 he with rfl | he
    · exact b2
    · exact a2 e he
theorem meas_tot : ∀ (f : Nat) (c : Int) (m : List (Int × Int)) (cy lo : Bool), MOk n.Decomp m cy → need n.Decomp f c m → ∃ r, decompose_measure_1 f c n m cy lo = some r ∧ MPost n.Decomp c m cy r := by
 intro f
 induction f with
 | zero =>
  intro c m cy lo hm hn
  exfalso
  rcases hn with h | h | h <;> omega
 | succ f ih =>
  intro c m cy lo hm hn
  show ∃ r, decompose_measure_1_B (decompose_measure_1 f) c n m cy lo = some r ∧ _
  by_cases h0 : dep n.Decomp c = []
  ·
   rw [mB_leaf hd hl h0]
   exact ⟨_, rfl, ⟨by show (1 : Int) ≤ 1; decide, by show (1 : Int) ≤ 65; decide⟩, hm, fun _ h => h, fun h => ⟨h, WW_leaf h0⟩⟩
  ·
   rw [mB_ne hd hl h0]
   cases hh : mhas m c with
   | true =>
    obtain ⟨v, hv⟩ := Option.isSome_iff_exists.1 hh
    have hg : mgetD m c 0 = v := by unfold mgetD; rw [hv]; rfl
    have hb := hm.bd c v hv
    rw [hg, cond_true]
    refine ⟨_, rfl, ⟨by show 1 ≤ max v 1; omega, by show max v 1 ≤ 65; omega⟩, ⟨hm.bd, fun h => hm.ww ?_⟩, fun _ h => h, fun h => ?_⟩
    · exact (Bool.or_eq_false_iff.1 h).1
    ·
     obtain ⟨h1, h2⟩ := Bool.or_eq_false_iff.1 h
     exact ⟨h1, hm.ww h1 c v hv (by simpa using h2)⟩
   | false =>
    have hok : MOk n.Decomp (mput m c (-1)) cy := by
     refine ⟨fun k v hk => ?_, fun hc k v hk hne => ?_⟩
     ·
      rw [mget_mput] at hk
      split at hk
      · cases hk; omega
      · exact hm.bd k v hk
     ·
      rw [mget_mput] at hk
      split at hk
      · cases hk; exact absurd rfl hne
      · exact hm.ww hc k v hk hne
    have hgrow : ∀ k, mhas m k = true → mhas (mput m c (-1)) k = true := fun k hk => by rw [mhas_put, hk]; simp
    have hnd : ∀ e ∈ dep n.Decomp c, need n.Decomp f e (mput m c (-1)) := by
     intro e he
     cases hs : syl c with
     | true =>
      refine .inr (.inr ⟨dep_syl hd hs he, ?_⟩)
      rcases hn with h | h | h
      · omega
      · omega
      · exact absurd h.1 h0
     | false =>
      rcases hn with h | h | h
      ·
       refine .inl ?_
       have := pot_put (l := n.Decomp) (v := -1) (dep_ne h0 hs) hh
       omega
      · rw [hs] at h; cases h.1
      · exact absurd h.1 h0
    obtain ⟨q, hq, ⟨q1, q2⟩, q3, q4, q5, q6⟩ := m_loop hd ih c (dep n.Decomp c).length 0 0 cy lo (mput m c (-1)) (by omega) (by omega) (by omega) (by omega) hok hnd
    have hq' : loopM (MBody (dep n.Decomp c, true) (decompose_measure_1 f) n) (0, 0, cy, lo, mput m c (-1)) = some q := hq
    have hpos : 0 < (dep n.Decomp c).length := List.length_pos_iff.2 h0
    have q3' := q3 hpos
    simp only [cond_false]
    rw [hq']
    refine ⟨_, rfl, ⟨q3', q2⟩, ⟨fun k v hk => ?_, fun hc k v hk hne => ?_⟩, fun k hk => ?_, fun hc => ?_⟩
    ·
     have hk' : mget (mput q.2.2.2 c q.1) k = some v := hk
     rw [mget_mput] at hk'
     split at hk'
     · cases hk'; omega
     · exact q4.bd k v hk'
    ·
     have hk' : mget (mput q.2.2.2 c q.1) k = some v := hk
     obtain ⟨_, a2⟩ := q6 hc
     rw [mget_mput] at hk'
     split at hk'
     ·
      rename_i e
      rw [e]
      exact WW_of (by simpa using a2)
     · exact q4.ww hc k v hk' hne
    ·
     show mhas (mput q.2.2.2 c q.1) k = true
     rw [mhas_put, q5 k (hgrow k hk)]; simp
    ·
     obtain ⟨a1, a2⟩ := q6 hc
     exact ⟨a1, WW_of (by simpa using a2)⟩
theorem measure_tot (hp : n.Decomp.length ≤ 90) : ∃ r : Bool × Bool, decompose_measure n = some r ∧ (r.1 = false → ∀ x ∈ n.Decomp, WW n.Decomp x.From) := by
  have key : ∀ (d i : Nat) (cy lo : Bool) (m : List (Int × Int)), n.Decomp.length - i = d → i ≤ n.Decomp.length → MOk n.Decomp m cy →
      ∃ r : Bool × Bool, loopM (fun (x : Int × Bool × Bool × (List (Int × Int))) => decompose_measure_L0 n x.1 x.2.1 x.2.2.1 x.2.2.2) ((i : Int), cy, lo, m) = some r ∧ (r.1 = false → cy = false ∧ ∀ x ∈ n.Decomp.drop i, WW n.Decomp x.From) := by
    intro d
    induction d with
    | zero =>
      intro i cy lo m h1 h2 h3
      refine ⟨(cy, lo), ?_, fun h => ⟨h, ?_⟩⟩
      · refine loopM_done ?_
        simp only [decompose_measure_L0, lt_f (show n.Decomp.length ≤ i by omega), cond_false]
      · rw [List.drop_of_length_le (by omega)]; intro e he; cases he
    | succ d ih =>
      intro i cy lo m h1 h2 h3
      have hi : i < n.Decomp.length := by omega
      have hpot : pot n.Decomp m ≤ n.Decomp.length := List.countP_le_length
      obtain ⟨r, hr, _, r3, _, r5⟩ := meas_tot hd hl 100 n.Decomp[i].From m cy lo h3 (.inl (by omega))
      rw [loopM_next (x' := (((i + 1 : Nat) : Int), r.2.1, r.2.2.1, r.2.2.2)) (by
        simp only [decompose_measure_L0, lt_t hi, cond_true, idx_nat hi, some_bind, hr, wi_succ (k := i) (by omega)])]
      obtain ⟨q, hq, q1⟩ := ih (i + 1) r.2.1 r.2.2.1 r.2.2.2 (by omega) (by omega) r3
      refine ⟨q, hq, fun hc => ?_⟩
      obtain ⟨a1, a2⟩ := q1 hc
      obtain ⟨b1, b2⟩ := r5 a1
      refine ⟨b1, ?_⟩
      rw [List.drop_eq_getElem_cons hi]
      intro e he
      rcases List.mem_cons.1 he with rfl | he
      · exact b2
      · exact a2 e he
  obtain ⟨r, hr, h1⟩ := key n.Decomp.length 0 false false [] (by omega) (by omega) ⟨fun k v h => (by cases h), fun _ k v h => (by cases h)⟩
  unfold decompose_measure
  have hr' : loopM (fun (x : Int × Bool × Bool × (List (Int × Int))) => decompose_measure_L0 n x.1 x.2.1 x.2.2.1 x.2.2.2) (0, false, false, []) = some r := hr
  rw [hr']
  exact ⟨r, rfl, fun h => by have := (h1 h).2; simpa using this⟩
end
end Go.M
namespace Go.M
open Go.AV
structure NSm (n : Norm) : Prop where
 cl : n.Classes.length ≤ 16
 de : n.Decomp.length ≤ 20
 to : ∀ m ∈ n.Decomp, m.To.length ≤ 65
 tg : ∀ m ∈ n.Decomp, m.Tag.length ≤ 40
 ex : n.Excluded.Ranges.length ≤ 12
theorem small11 (l : List Mapping) : ∃ b, ref11_Small l = some b ∧ (b = true → l.length ≤ 20 ∧ (∀ m ∈ l, m.To.length ≤ 65) ∧ ∀ m ∈ l, m.Tag.length ≤ 40) := by
 unfold ref11_Small
 have h := loop_ver0 (body := fun (x : Int) => ref11_Small_L0 l x) (min l.length 30) (fun k => (nth l k).To.length ≤ 65 ∧ (nth l k).Tag.length ≤ 40) (fun y => y = false) (fun k hk => by
  have hk1 : k < l.length := by omega
  have e30 : decide ((k : Int) < 30) = true := by simp; omega
  simp only [ref11_Small_L0, pv_bind, lt_t hk1, e30, Bool.and_self, cond_true, idx_nth hk1, some_bind, wi_succ (k := k) (by omega)]
  by_cases h1 : 65 < (nth l k).To.length
  ·
   have : decide ((65 : Int) < ((nth l k).To.length : Int)) = true := by simp; omega
   simp only [this, Bool.not_true, gM_f, some_bind, Bool.true_or, cond_true]
   exact .inr ⟨by omega, false, rfl, rfl⟩
  ·
   have : decide ((65 : Int) < ((nth l k).To.length : Int)) = false := by simp; omega
   simp only [this, Bool.not_false, gM_t, some_bind, Bool.false_or]
   exact ver_if (by simp only [decide_eq_true_eq]; omega) rfl) (fun k hk => by
  have : (decide ((k : Int) < (l.length : Int)) && decide ((k : Int) < 30)) = false := by
   simp only [Bool.and_eq_false_iff, decide_eq_false_iff_not]; omega
  simp only [ref11_Small_L0, pv_bind, this, cond_false])
 rcases h with ⟨h, p⟩ | ⟨y, rfl, h, p⟩
 ·
  rw [h]
  refine ⟨_, rfl, fun hb => ?_⟩
  have hl : l.length ≤ 20 := by simp only [decide_eq_true_eq] at hb; omega
  rw [Nat.min_eq_left (by omega)] at p
  have p' := (all_nth (l := l) (p := fun m : Mapping => m.To.length ≤ 65 ∧ m.Tag.length ≤ 40)).1 p
  exact ⟨hl, fun m hm => (p' m hm).1, fun m hm => (p' m hm).2⟩
 · rw [h]; exact ⟨false, rfl, fun h => by cases h⟩
theorem small21 (n : Norm) : ∃ b, ref21_Small n = some b ∧ (b = true → NSm n) := by
 obtain ⟨b, hb, hp⟩ := small11 n.Decomp
 unfold ref21_Small ref20_Small ref02_Small
 simp only [some_bind, pv_bind, hb]
 by_cases h1 : n.Classes.length ≤ 16
 ·
  have e1 : decide ((n.Classes.length : Int) ≤ 16) = true := by simp; omega
  simp only [e1, gM_t, some_bind, Bool.true_and]
  cases b with
  | false => simp only [gM_f, some_bind, Bool.false_and]; exact ⟨false, rfl, fun h => by cases h⟩
  | true =>
   simp only [gM_t, some_bind, Bool.true_and]
   refine ⟨_, rfl, fun h => ?_⟩
   simp only [decide_eq_true_eq] at h
   obtain ⟨a, b, c⟩ := hp rfl
   exact ⟨h1, a, b, c, by omega⟩
 ·
  have e1 : decide ((n.Classes.length : Int) ≤ 16) = false := by simp; omega
  simp only [e1, gM_f, some_bind, Bool.false_and]
  exact ⟨false, rfl, fun h => by cases h⟩
structure VD0 (n : Norm) : Prop where
 cv : CV n.Classes
 mv : MV n.Decomp
 ca : Can n.Excluded.Ranges
 ne : ∀ k, k + 1 < n.Decomp.length → (nth n.Decomp (k + 1)).From ≠ (nth n.Decomp k).From
 kd : ∀ m ∈ n.Decomp, m.Tag = [] → m.To.length = 1 ∨ m.To.length = 2
 hk : ∀ m ∈ n.Decomp, hkE m.From = 0
 tc : ∀ m ∈ n.Decomp, m.Tag ≠ [] → clE n.Classes m.From = 0
 ms : decompose_measure n = some (false, false)
theorem tagL2 {n : Norm} (hl : n.Decomp.length ≤ 1000) : ∀ (d i : Nat) (tg : List Int), n.Decomp.length - i = d → i ≤ n.Decomp.length → tg.length ≤ i →
    (loopM (fun (x : Int × (List Int)) => decompose_Check_L2 n x.1 x.2) ((i : Int), tg) = some (.inl (tg ++ ((n.Decomp.drop i).filter fun m => !(m.Tag == [])).map (·.From))) ∧ ∀ m ∈ n.Decomp.drop i, hkE m.From = 0) ∨
    (loopM (fun (x : Int × (List Int)) => decompose_Check_L2 n x.1 x.2) ((i : Int), tg) = some (.inr 11) ∧ ¬ ∀ m ∈ n.Decomp.drop i, hkE m.From = 0) := by
  intro d
  induction d with
  | zero =>
    intro i tg h1 h2 h3
    rw [List.drop_of_length_le (by omega)]
    refine .inl ⟨loopM_done ?_, fun m hm => by cases hm⟩
    simp only [decompose_Check_L2, lt_f (show n.Decomp.length ≤ i by omega), cond_false]
    simp
  | succ d ih =>
    intro i tg h1 h2 h3
    have hi : i < n.Decomp.length := by omega
    rw [List.drop_eq_getElem_cons hi]
    by_cases h0 : hkE n.Decomp[i].From = 0
    · have conv : ∀ tg', (∃ z : Unit, True) → decompose_Check_L2 n (i : Int) tg = some (.next (((i + 1 : Nat) : Int), tg')) → tg'.length ≤ i + 1 → tg' ++ ((n.Decomp.drop (i + 1)).filter fun m => !(m.Tag == [])).map (·.From) = tg ++ ((n.Decomp[i] :: n.Decomp.drop (i + 1)).filter fun m => !(m.Tag == [])).map (·.From) →
          (loopM (fun (x : Int × (List Int)) => decompose_Check_L2 n x.1 x.2) ((i : Int), tg) = some (.inl (tg ++ ((n.Decomp[i] :: n.Decomp.drop (i + 1)).filter fun m => !(m.Tag == [])).map (·.From))) ∧ ∀ m ∈ n.Decomp[i] :: n.Decomp.drop (i + 1), hkE m.From = 0) ∨
          (loopM (fun (x : Int × (List Int)) => decompose_Check_L2 n x.1 x.2) ((i : Int), tg) = some (.inr 11) ∧ ¬ ∀ m ∈ n.Decomp[i] :: n.Decomp.drop (i + 1), hkE m.From = 0) := by
        intro tg' _ hb hlen he
        rw [loopM_next (body := fun (x : Int × (List Int)) => decompose_Check_L2 n x.1 x.2) (x := ((i : Int), tg)) hb]
        rcases ih (i + 1) tg' (by omega) (by omega) hlen with ⟨a, b⟩ | ⟨a, b⟩
        · refine .inl ⟨by rw [a, he], fun m hm => ?_⟩
          rcases List.mem_cons.1 hm with rfl | hm
          · exact h0
          · exact b m hm
        · exact .inr ⟨a, fun hh => b fun m hm => hh m (List.mem_cons_of_mem _ hm)⟩
      cases ht : (n.Decomp[i].Tag == []) with
      | true =>
        refine conv tg ⟨(), trivial⟩ ?_ (by omega) ?_
        · simp only [decompose_Check_L2, lt_t hi, cond_true, idx_nat hi, some_bind, kind_eq, h0, decide_true, Bool.not_true, cond_false, ht, wi_succ (k := i) (by omega), Sum.elim_inl]
        · rw [List.filter_cons, ht]; rfl
      | false =>
        refine conv (tg ++ [n.Decomp[i].From]) ⟨(), trivial⟩ ?_ (by simp; omega) ?_
        · simp only [decompose_Check_L2, lt_t hi, cond_true, idx_nat hi, some_bind, kind_eq, h0, decide_true, Bool.not_true, cond_false, ht, Bool.not_false, app_ok (show tg.length + [n.Decomp[i].From].length ≤ 4294967296 by simp; omega), wi_succ (k := i) (by omega), Sum.elim_inl]
        · rw [List.filter_cons, ht, List.append_assoc]; rfl
    · refine .inr ⟨loopM_done ?_, fun hh => h0 (hh _ List.mem_cons_self)⟩
      have : (!decide (hkE n.Decomp[i].From = 0)) = true := by simp [h0]
      simp only [decompose_Check_L2, lt_t hi, cond_true, idx_nat hi, some_bind, kind_eq, this, Sum.elim_inr]
theorem decVer {n : Norm} (hs : NSm n) (hok : okNorm n) : Ver (decompose_Check n) (VD0 n) := by
 obtain ⟨e1, he1, p1⟩ := ordCheck (l := n.Classes) (by have := hs.cl; omega) hok.1.2
 obtain ⟨e2, he2, p2⟩ := mapVer (l := n.Decomp) (by have := hs.de; omega) (fun m hm => by have := hs.to m hm; omega) (fun m hm => by have := hs.tg m hm; unfold MX; omega)
 obtain ⟨e3, he3, p3⟩ := validVer (s := n.Excluded) hs.ex
 have hde := hs.de
 unfold decompose_Check
 rw [he1, some_bind]
 by_cases h1 : e1 = 0
 case neg =>
  have : (!decide (e1 = 0)) = true := by simp [h1]
  rw [this, cond_true]
  exact ⟨e1, rfl, by simp only [h1, false_iff]; exact fun h => h1 (p1.2 h.cv)⟩
 rw [h1]
 simp only [decide_true, Bool.not_true, cond_false]
 have cv := p1.1 h1
 rw [he2, some_bind]
 by_cases h2 : e2 = 0
 case neg =>
  have : (!decide (e2 = 0)) = true := by simp [h2]
  rw [this, cond_true]
  exact ⟨e2, rfl, by simp only [h2, false_iff]; exact fun h => h2 (p2.2 h.mv)⟩
 rw [h2]
 simp only [decide_true, Bool.not_true, cond_false]
 have mv := p2.1 h2
 rw [he3, some_bind]
 cases e3 with
 | false => exact ⟨11, rfl, by simp only [show ((11 : Int) = 0) = False by simp, false_iff]; exact fun h => by have := p3.2 h.ca; cases this⟩
 | true =>
 have ca := p3.1 rfl
 simp only [Bool.not_true, cond_false]
 have l0 := loop_ver1 (body := fun (x : Int) => decompose_Check_L0 n x) n.Decomp.length (fun k => (nth n.Decomp (k + 1)).From ≠ (nth n.Decomp k).From) (fun y => y ≠ 0) (fun k hk => by
  have hk' : k < n.Decomp.length := by omega
  simp only [decompose_Check_L0, lt_t hk, cond_true, idx_nth hk, some_bind, wi_succ (k := k + 1) (by omega), wi_pred (k := k) (by omega), idx_nth hk']
  exact ver_if (by simp) (by decide)) (fun k hk => by simp only [decompose_Check_L0, lt_f hk, cond_false])
 rcases l0 with ⟨l0, ne⟩ | ⟨y, hy, l0, ne⟩
 case inr => rw [l0]; exact ⟨y, rfl, by simp only [hy, false_iff]; exact fun h => ne h.ne⟩
 rw [l0]
 simp only [some_bind, Sum.elim_inl]
 have l1 := loop_ver0 (body := fun (x : Int) => decompose_Check_L1 n x) n.Decomp.length (fun k => (nth n.Decomp k).Tag = [] → (nth n.Decomp k).To.length = 1 ∨ (nth n.Decomp k).To.length = 2) (fun y => y ≠ 0) (fun k hk => by
  simp only [decompose_Check_L1, lt_t hk, cond_true, idx_nth hk, some_bind, pv_bind, wi_succ (k := k) (by omega)]
  have hb : ((nth n.Decomp k).Tag == []) = decide ((nth n.Decomp k).Tag = []) := by cases (nth n.Decomp k).Tag <;> rfl
  rw [hb]
  refine ver_if ?_ (by decide)
  simp only [Bool.and_eq_true, Bool.not_eq_true', decide_eq_true_eq, decide_eq_false_iff_not]
  constructor
  ·
   rintro ⟨⟨a, b⟩, c⟩ h
   rcases h a with h | h
   · exact b (by omega)
   · exact c (by omega)
  ·
   intro h
   refine ⟨⟨?_, ?_⟩, ?_⟩
   · exact Classical.byContradiction fun a => h fun a' => absurd a' a
   · exact fun b => h fun _ => .inl (by omega)
   · exact fun b => h fun _ => .inr (by omega)) (fun k hk => by simp only [decompose_Check_L1, lt_f hk, cond_false])
 rw [all_nth (p := fun m : Mapping => m.Tag = [] → m.To.length = 1 ∨ m.To.length = 2)] at l1
 rcases l1 with ⟨l1, kd⟩ | ⟨y, hy, l1, kd⟩
 case inr => rw [l1]; exact ⟨y, rfl, by simp only [hy, false_iff]; exact fun h => kd h.kd⟩
 rw [l1]
 simp only [some_bind, Sum.elim_inl]
 have l2 := tagL2 (n := n) (by omega) n.Decomp.length 0 [] (by omega) (by omega) (by simp)
 simp only [List.drop_zero, List.nil_append] at l2
 rcases l2 with ⟨l2, hk⟩ | ⟨l2, hk⟩
 case inr =>
  have l2' : loopM (fun (x : Int × (List Int)) => decompose_Check_L2 n x.1 x.2) (0, []) = some (.inr 11) := l2
  rw [l2']; exact ⟨11, rfl, by simp only [show ((11 : Int) = 0) = False by simp, false_iff]; exact fun h => hk h.hk⟩
 have l2' : loopM (fun (x : Int × (List Int)) => decompose_Check_L2 n x.1 x.2) (0, []) = some (.inl ((n.Decomp.filter fun m => !(m.Tag == [])).map (·.From))) := l2
 rw [l2']
 simp only [some_bind, Sum.elim_inl]
 obtain ⟨r, hr, pr⟩ := runs_eq cv (by have := hs.cl; omega) hok.1.2 (text := (n.Decomp.filter fun m => !(m.Tag == [])).map (·.From)) (by
  have := List.length_filter_le (fun m : Mapping => !(m.Tag == [])) n.Decomp
  simp only [List.length_map]; omega)
 rw [hr, some_bind]
 have hbt : ∀ m : Mapping, (m.Tag == []) = decide (m.Tag = []) := fun m => by cases m.Tag <;> rfl
 have htc : (∀ c ∈ (n.Decomp.filter fun m => !(m.Tag == [])).map (·.From), clE n.Classes c = 0) ↔ ∀ m ∈ n.Decomp, m.Tag ≠ [] → clE n.Classes m.From = 0 := by
  constructor
  ·
   intro h m hm ht
   exact h _ (List.mem_map.2 ⟨m, List.mem_filter.2 ⟨hm, by rw [hbt]; simpa using ht⟩, rfl⟩)
  ·
   intro h c hc
   obtain ⟨m, hm, rfl⟩ := List.mem_map.1 hc
   obtain ⟨a, b⟩ := List.mem_filter.1 hm
   exact h m a (by rw [hbt] at b; simpa using b)
 rw [htc] at pr
 by_cases hrn : r = []
 case neg =>
  have : decide ((0 : Int) < (r.length : Int)) = true := by
   have := List.length_pos_iff.2 hrn
   simp only [decide_eq_true_eq]; omega
  rw [this, cond_true]
  exact ⟨11, rfl, by simp only [show ((11 : Int) = 0) = False by simp, false_iff]; exact fun h => hrn (pr.2 h.tc)⟩
 have : decide ((0 : Int) < (r.length : Int)) = false := by rw [hrn]; rfl
 rw [this, cond_false]
 have hds : DS n.Decomp := ⟨fun k hk' => by
  have a := mv.lt k hk'
  have b := ne k hk'
  unfold mlt at a
  omega, hk, fun m hm => by have := mv.sz m hm; omega⟩
 obtain ⟨q, hq, _⟩ := measure_tot hds (by omega) (by omega)
 rw [hq, some_bind]
 obtain ⟨cy, lo⟩ := q
 cases cy with
 | true => exact ⟨12, rfl, by simp only [show ((12 : Int) = 0) = False by simp, false_iff]; exact fun h => by have := h.ms; rw [hq] at this; cases this⟩
 | false =>
  cases lo with
  | true => exact ⟨13, rfl, by simp only [show ((13 : Int) = 0) = False by simp, false_iff]; exact fun h => by have := h.ms; rw [hq] at this; cases this⟩
  | false => exact ⟨0, rfl, by simp only [true_iff]; exact ⟨cv, mv, ca, ne, kd, hk, pr.1 hrn, hq⟩⟩
theorem VD0.ds {n : Norm} (h : VD0 n) : DS n.Decomp := ⟨fun k hk' => by
    have a := h.mv.lt k hk'
    have b := h.ne k hk'
    unfold mlt at a
    omega, h.hk, fun m hm => by have := h.mv.sz m hm; omega⟩
end Go.M
namespace Go.M
open Go.AV
def DD (l : List Mapping) : Nat → Int → Prop
 | 0, c => l.find? (isF c) = none
 | k + 1, c => ∀ m, l.find? (isF c) = some m → ∀ e ∈ m.To, DD l k e
theorem DD_none {l : List Mapping} {c : Int} (h : l.find? (isF c) = none) : ∀ k, DD l k c
 | 0 => h
 | k + 1 => fun m hm => by rw [h] at hm; cases hm
theorem DD_succ {l : List Mapping} : ∀ {k : Nat} {c : Int}, DD l k c → DD l (k + 1) c
 | 0, _, h => DD_none h 1
 | _ + 1, _, h => fun m hm e he => DD_succ (h m hm e he)
theorem fd_from {l : List Mapping} {c : Int} {m : Mapping} (h : l.find? (isF c) = some m) : m ∈ l ∧ m.From = c := by
 refine ⟨List.mem_of_find?_eq_some h, ?_⟩
 have h4 := List.find?_some h
 unfold isF at h4
 simpa using h4
theorem from_syl {l : List Mapping} (hd : DS l) {m : Mapping} (hm : m ∈ l) : syl m.From = false := by
 cases hs : syl m.From with
 | false => rfl
 | true => have := (syl_iff _).1 hs; have := hd.hk m hm; omega
theorem from_find {l : List Mapping} (hd : DS l) {m : Mapping} (hm : m ∈ l) : l.find? (isF m.From) = some m := by
 obtain ⟨k, hk, rfl⟩ := List.getElem_of_mem hm
 rw [← nth_eq hk]
 exact find_at (p := isF (nth l k).From) hk (fun j hj => by
  have := hd.lt hj hk
  unfold isF
  simp only [decide_eq_false_iff_not]; omega) (by simp [isF])
theorem syl_none {l : List Mapping} (hd : DS l) {c : Int} (h : syl c = true) : l.find? (isF c) = none := by
 cases hf : l.find? (isF c) with
 | none => rfl
 | some m =>
  obtain ⟨h1, rfl⟩ := fd_from hf
  rw [from_syl hd h1] at h; cases h
theorem dep_find {l : List Mapping} (hd : DS l) {c : Int} {m : Mapping} (h : l.find? (isF c) = some m) : dep l c = m.To := by
 obtain ⟨h1, rfl⟩ := fd_from h
 exact dep_from hd h1
theorem EE_DD {l : List Mapping} (hd : DS l) : ∀ {k : Nat} {c : Int}, EE l k c → DD l k c
 | 0, _, h => h.elim
 | _ + 1, _, h => fun m hm e he => EE_DD hd (h e (by rw [dep_find hd hm]; exact he))
theorem DD_pig {l : List Mapping} (hd : DS l) (H : ∀ m ∈ l, WW l m.From) : ∀ m ∈ l, DD l l.length m.From := by
 classical
 have key : ∀ k, (∀ m ∈ l, DD l k m.From) ∨ k ≤ l.countP (fun m => decide (DD l k m.From)) := by
  intro k
  induction k with
  | zero => exact .inr (Nat.zero_le _)
  | succ k ih =>
   rcases ih with ih | ih
   · exact .inl fun m hm => DD_succ (ih m hm)
   ·
    by_cases hst : ∀ m ∈ l, DD l (k + 1) m.From → DD l k m.From
    ·
     left
     have hall : ∀ j c, DD l j c → DD l k c := by
      intro j
      induction j with
      | zero => intro c h; exact DD_none h k
      | succ j ihj =>
       intro c h
       cases hf : l.find? (isF c) with
       | none => exact DD_none hf k
       | some m =>
        obtain ⟨h1, h2⟩ := fd_from hf
        have := hst m h1 (by
         rw [h2]
         intro m' hm' e he
         exact ihj e (h m' hm' e he))
        rwa [h2] at this
     intro m hm
     obtain ⟨j, hj⟩ := H m hm
     exact DD_succ (hall j _ (EE_DD hd hj))
    ·
     right
     have hex : ∃ m ∈ l, DD l (k + 1) m.From ∧ ¬ DD l k m.From := by
      apply Classical.byContradiction
      intro hno
      exact hst fun m hm h1 => Classical.byContradiction fun h2 => hno ⟨m, hm, h1, h2⟩
     obtain ⟨m, hm, h1, h2⟩ := hex
     have := countP_lt (p := fun m => decide (DD l k m.From)) (q := fun m => decide (DD l (k + 1) m.From)) (l := l) (fun x _ hx => by simp only [decide_eq_true_eq] at hx ⊢; exact DD_succ hx) ⟨m, hm, by simpa using h1, by simpa using h2⟩
     omega
 rcases key l.length with h | h
 · exact h
 ·
  have hle : l.countP (fun m => decide (DD l l.length m.From)) ≤ l.length := List.countP_le_length
  have : l.countP (fun m => decide (DD l l.length m.From)) = l.length := by omega
  intro m hm
  have := List.countP_eq_length.1 this m hm
  simpa using this
theorem all_dd {l : List Mapping} (hd : DS l) (H : ∀ m ∈ l, WW l m.From) (c : Int) : DD l l.length c := by
 cases hf : l.find? (isF c) with
 | none => exact DD_none hf _
 | some m =>
  obtain ⟨h1, h2⟩ := fd_from hf
  have := DD_pig hd H m h1
  rwa [h2] at this
def fnB (l : List Mapping) (b : Bool) (c : Int) : Option (List Int) := match l.find? (isF c) with
 | some m => if (b || (m.Tag == [])) = true then some m.To else none
 | none => none
theorem fnB_some {l : List Mapping} {b : Bool} {c : Int} {to : List Int} (h : fnB l b c = some to) : ∃ m, l.find? (isF c) = some m ∧ m.To = to ∧ (b || (m.Tag == [])) = true := by
 unfold fnB at h
 cases hf : l.find? (isF c) with
 | none => rw [hf] at h; cases h
 | some m =>
  rw [hf] at h
  simp only at h
  split at h
  ·
   rename_i hb
   injection h with h
   exact ⟨m, rfl, h, hb⟩
  · cases h
theorem fnB_true (l : List Mapping) (c : Int) : fnB l true c = (l.find? (isF c)).map (·.To) := by
 unfold fnB
 cases l.find? (isF c) <;> simp
theorem fnB_ft {l : List Mapping} {c : Int} {to : List Int} (h : fnB l false c = some to) : fnB l true c = some to := by
 obtain ⟨m, h1, h2, _⟩ := fnB_some h
 rw [fnB_true, h1, ← h2]; rfl
def exF (l : List Mapping) (b : Bool) : Nat → Int → List Int
 | 0, c => hdE c
 | k + 1, c => match fnB l b c with
  | some to => to.flatMap (exF l b k)
  | none => hdE c
def wtF (l : List Mapping) (b : Bool) : Nat → Int → Int
 | 0, c => ((hdE c).length : Int)
 | k + 1, c => match fnB l b c with
  | some to => min (max (to.map (wtF l b k)).sum 1) 65
  | none => ((hdE c).length : Int)
theorem flat_congr {f g : Int → List Int} : ∀ {L : List Int}, (∀ e ∈ L, f e = g e) → L.flatMap f = L.flatMap g
 | [], _ => rfl
 | x :: L, h => by rw [List.flatMap_cons, List.flatMap_cons, h x (by simp), flat_congr fun e he => h e (by simp [he])]
theorem fnB_none {l : List Mapping} {b : Bool} {c : Int} (h : l.find? (isF c) = none) : fnB l b c = none := by unfold fnB; rw [h]
theorem exF_st {l : List Mapping} {b : Bool} : ∀ {k : Nat} {c : Int}, DD l k c → ∀ {j : Nat}, k ≤ j → exF l b j c = exF l b k c
 | 0, c, h, j, _ => by
  cases j with
  | zero => rfl
  | succ j => show (match fnB l b c with | some to => to.flatMap (exF l b j) | none => hdE c) = hdE c; rw [fnB_none h]
 | k + 1, c, h, j, hj => by
  cases j with
  | zero => omega
  | succ j =>
   show (match fnB l b c with | some to => to.flatMap (exF l b j) | none => hdE c) = (match fnB l b c with | some to => to.flatMap (exF l b k) | none => hdE c)
   cases hf : fnB l b c with
   | none => rfl
   | some to =>
    obtain ⟨m, h1, rfl, _⟩ := fnB_some hf
    exact flat_congr fun e he => exF_st (h m h1 e he) (by omega)
theorem wtF_st {l : List Mapping} {b : Bool} : ∀ {k : Nat} {c : Int}, DD l k c → ∀ {j : Nat}, k ≤ j → wtF l b j c = wtF l b k c
 | 0, c, h, j, _ => by
  cases j with
  | zero => rfl
  | succ j => show (match fnB l b c with | some to => min (max (to.map (wtF l b j)).sum 1) 65 | none => ((hdE c).length : Int)) = ((hdE c).length : Int); rw [fnB_none h]
 | k + 1, c, h, j, hj => by
  cases j with
  | zero => omega
  | succ j =>
   show (match fnB l b c with | some to => min (max (to.map (wtF l b j)).sum 1) 65 | none => ((hdE c).length : Int)) = (match fnB l b c with | some to => min (max (to.map (wtF l b k)).sum 1) 65 | none => ((hdE c).length : Int))
   cases hf : fnB l b c with
   | none => rfl
   | some to =>
    obtain ⟨m, h1, rfl, _⟩ := fnB_some hf
    have : m.To.map (wtF l b j) = m.To.map (wtF l b k) := List.map_congr_left fun e he => wtF_st (h m h1 e he) (by omega)
    simp only [this]
def fu (l : List Mapping) (b : Bool) (c : Int) : List Int := exF l b l.length c
def wt (l : List Mapping) (b : Bool) (c : Int) : Int := wtF l b l.length c
theorem fu_eq {l : List Mapping} {b : Bool} (hD : ∀ c, DD l l.length c) (c : Int) : fu l b c = match fnB l b c with | some to => to.flatMap (fu l b) | none => hdE c := by
 unfold fu
 rw [← exF_st (hD c) (show l.length ≤ l.length + 1 by omega)]
 rfl
theorem wt_eq {l : List Mapping} {b : Bool} (hD : ∀ c, DD l l.length c) (c : Int) : wt l b c = (match fnB l b c with | some to => (min (max (to.map (wt l b)).sum 1) 65 : Int) | none => ((hdE c).length : Int) : Int) := by
 unfold wt
 rw [← wtF_st (hD c) (show l.length ≤ l.length + 1 by omega)]
 rfl
theorem wtF_pos {l : List Mapping} {b : Bool} (k : Nat) (c : Int) : 1 ≤ wtF l b k c ∧ wtF l b k c ≤ 65 := by
 have := hd_len c
 cases k with
 | zero => show 1 ≤ ((hdE c).length : Int) ∧ ((hdE c).length : Int) ≤ 65; omega
 | succ k =>
  show 1 ≤ (match fnB l b c with | some to => min (max (to.map (wtF l b k)).sum 1) 65 | none => ((hdE c).length : Int)) ∧ (match fnB l b c with | some to => min (max (to.map (wtF l b k)).sum 1) 65 | none => ((hdE c).length : Int)) ≤ 65
  cases fnB l b c with
  | none => simp only []; omega
  | some to => simp only []; omega
theorem sum_nn {f : Int → Int} (hf : ∀ e, 1 ≤ f e) : ∀ L : List Int, (L.length : Int) ≤ (L.map f).sum
 | [] => by simp
 | x :: L => by have := sum_nn hf L; have := hf x; simp only [List.map_cons, List.sum_cons, List.length_cons]; omega
theorem flat_le {f : Int → List Int} {w : Int → Int} (hw : ∀ e, 1 ≤ w e) (N : Int) : ∀ (L : List Int), (∀ e ∈ L, w e ≤ N → ((f e).length : Int) ≤ w e) → (L.map w).sum ≤ N → ((L.flatMap f).length : Int) ≤ (L.map w).sum
 | [], _, _ => by simp
 | x :: L, h, hs => by
  have h0 := sum_nn hw L
  have h1 := hw x
  simp only [List.map_cons, List.sum_cons] at hs ⊢
  have ih := flat_le hw N L (fun e he => h e (by simp [he])) (by omega)
  have hx := h x (by simp) (by omega)
  rw [List.flatMap_cons, List.length_append]
  omega
theorem exF_len {l : List Mapping} {b : Bool} : ∀ (k : Nat) (c : Int), wtF l b k c ≤ 64 → ((exF l b k c).length : Int) ≤ wtF l b k c := by
 intro k
 induction k with
 | zero => intro c _; show ((hdE c).length : Int) ≤ ((hdE c).length : Int); omega
 | succ k ih =>
  intro c
  show (match fnB l b c with | some to => min (max (to.map (wtF l b k)).sum 1) 65 | none => ((hdE c).length : Int)) ≤ 64 → (((match fnB l b c with | some to => to.flatMap (exF l b k) | none => hdE c) : List Int).length : Int) ≤ (match fnB l b c with | some to => min (max (to.map (wtF l b k)).sum 1) 65 | none => ((hdE c).length : Int))
  cases fnB l b c with
  | none => intro _; simp only []; omega
  | some to =>
   simp only []
   intro h
   have := flat_le (f := exF l b k) (w := wtF l b k) (fun e => (wtF_pos k e).1) 64 to (fun e _ he => ih e he) (by omega)
   omega
theorem wt_mono {l : List Mapping} (hd : DS l) : ∀ (k : Nat) (c : Int), wtF l false k c ≤ wtF l true k c := by
 intro k
 induction k with
 | zero => intro c; exact Int.le_refl _
 | succ k ih =>
  intro c
  have hs : ∀ L : List Int, (L.map (wtF l false k)).sum ≤ (L.map (wtF l true k)).sum := by
   intro L
   induction L with
   | nil => simp
   | cons x L ihL => have := ih x; simp only [List.map_cons, List.sum_cons]; omega
  show (match fnB l false c with | some to => min (max (to.map (wtF l false k)).sum 1) 65 | none => ((hdE c).length : Int)) ≤ (match fnB l true c with | some to => min (max (to.map (wtF l true k)).sum 1) 65 | none => ((hdE c).length : Int))
  cases hf : fnB l false c with
  | some to =>
   rw [fnB_ft hf]
   have := hs to
   simp only []; omega
  | none =>
   cases ht : fnB l true c with
   | none => exact Int.le_refl _
   | some to =>
    obtain ⟨m, h1, _, _⟩ := fnB_some ht
    obtain ⟨h2, rfl⟩ := fd_from h1
    have : hdE m.From = [m.From] := by unfold hdE; rw [if_neg (by simp [from_syl hd h2])]
    simp only [this, List.length_singleton]; omega
theorem fu_len {l : List Mapping} (hd : DS l) (h : ∀ c, wt l true c ≤ 64) (b : Bool) (c : Int) : (fu l b c).length ≤ 64 := by
 have h1 : wtF l b l.length c ≤ wtF l true l.length c := by
  cases b with
  | true => exact Int.le_refl _
  | false => exact wt_mono hd _ c
 have h2 : wtF l true l.length c ≤ 64 := h c
 have := exF_len (l := l) (b := b) l.length c (by omega)
 unfold fu
 omega
theorem wt_dep {l : List Mapping} (hd : DS l) (hD : ∀ c, DD l l.length c) (c : Int) : (dep l c = [] → wt l true c = 1) ∧ (dep l c ≠ [] → wt l true c = min ((dep l c).map (wt l true)).sum 65) := by
 have hp : ∀ e, 1 ≤ wt l true e := fun e => (wtF_pos _ e).1
 rw [wt_eq hD c, fnB_true]
 cases hf : l.find? (isF c) with
 | some m =>
  rw [dep_find hd hf]
  simp only [Option.map_some]
  constructor
  · intro h; rw [h]; rfl
  ·
   intro h
   have := sum_nn hp m.To
   have : 0 < m.To.length := List.length_pos_iff.2 h
   omega
 | none =>
  simp only [Option.map_none]
  cases hs : syl c with
  | false =>
   have h1 : dep l c = [] := by unfold dep; rw [if_neg (by simp [hs]), hf]
   have h2 : hdE c = [c] := by unfold hdE; rw [if_neg (by simp [hs])]
   rw [h1, h2]
   exact ⟨fun _ => rfl, fun h => absurd rfl h⟩
  | true =>
   have h1 : dep l c = hdE c := by unfold dep; rw [if_pos hs]
   have hl := hd_len c
   have hone : ∀ e ∈ hdE c, wt l true e = 1 := by
    intro e he
    obtain ⟨p1, p2⟩ := hd_parts hs he
    have hn : l.find? (isF e) = none := by
     cases hf2 : l.find? (isF e) with
     | none => rfl
     | some m => obtain ⟨q1, rfl⟩ := fd_from hf2; exact absurd (hd.hk m q1) p2
    rw [wt_eq hD e, fnB_none hn]
    simp only []
    unfold hdE; rw [if_neg (by simp [p1])]; rfl
   have hsum : ∀ L : List Int, (∀ e ∈ L, wt l true e = 1) → (L.map (wt l true)).sum = (L.length : Int) := by
    intro L
    induction L with
    | nil => intro _; rfl
    | cons x L ih => intro h; have := ih fun e he => h e (by simp [he]); have := h x (by simp); simp only [List.map_cons, List.sum_cons, List.length_cons]; omega
   rw [h1]
   constructor
   · intro h; rw [h] at hl; simp at hl
   · intro _; rw [hsum _ hone]; omega
end Go.M
namespace Go.M
open Go.AV
section
variable {n : Norm} (hd : DS n.Decomp) (hl : n.Decomp.length ≤ 1000) (H : ∀ m ∈ n.Decomp, WW n.Decomp m.From)
include hd hl H
structure MeX (l : List Mapping) (m : List (Int × Int)) (lo : Bool) : Prop where
 val : ∀ k v, mget m k = some v → v = -1 ∨ v = wt l true k
 lof : lo = false → ∀ k v, mget m k = some v → v ≠ -1 → v ≤ 64
 lot : lo = true → ∃ x ∈ l, 64 < wt l true x.From
def MXPost (l : List Mapping) (m m' : List (Int × Int)) (lo' : Bool) : Prop :=
 MeX l m' lo' ∧ (∀ k v, mget m k = some v → mget m' k = some v) ∧ ∀ e, mget m' e = some (-1) → mget m e = some (-1)
omit hd hl H in
theorem mhas_mono {m m' : List (Int × Int)} (h : ∀ k v, mget m k = some v → mget m' k = some v) : ∀ k, mhas m k = true → mhas m' k = true := by
 intro k hk
 obtain ⟨v, hv⟩ := Option.isSome_iff_exists.1 hk
 show (mget m' k).isSome = true
 rw [h k v hv]; rfl
omit H hl in
theorem mx_loop {f : Nat} (c : Int) (k1 : Nat) (ih : ∀ c m lo, MeX n.Decomp m lo → need n.Decomp f c m → (∃ k, EE n.Decomp k c ∧ ∀ e, mget m e = some (-1) → ¬ EE n.Decomp k e) → ∃ lo' m', decompose_measure_1 f c n m false lo = some (wt n.Decomp true c, false, lo', m') ∧ MXPost n.Decomp m m' lo' ∧ (dep n.Decomp c ≠ [] → mget m' c = some (wt n.Decomp true c))) (hk1 : ∀ e ∈ dep n.Decomp c, EE n.Decomp k1 e) :
    ∀ (d i : Nat) (s : Int) (lo : Bool) (m : List (Int × Int)), (dep n.Decomp c).length - i = d → i ≤ (dep n.Decomp c).length → 0 ≤ s → s ≤ 65 → MeX n.Decomp m lo → (∀ e ∈ dep n.Decomp c, need n.Decomp f e m) → (∀ e, mget m e = some (-1) → ¬ EE n.Decomp k1 e) →
      ∃ lo' m', loopM (MBody (dep n.Decomp c, true) (decompose_measure_1 f) n) (s, (i : Int), false, lo, m) = some (min (s + (((dep n.Decomp c).drop i).map (wt n.Decomp true)).sum) 65, false, lo', m') ∧ MXPost n.Decomp m m' lo' := by
  have hL := dep_len hd c
  generalize dep n.Decomp c = L at *
  intro d
  induction d with
  | zero =>
    intro i s lo m h1 h2 h3 h4 h5 h6 h7
    refine ⟨lo, m, ?_, h5, fun _ _ h => h, fun _ h => h⟩
    refine loopM_done ?_
    rw [List.drop_of_length_le (show L.length ≤ i by omega)]
    simp only [decompose_measure_1_L0, lt_f (show L.length ≤ i by omega), cond_false, List.map_nil, List.sum_nil, Int.add_zero]
    rw [Int.min_eq_left h4]
  | succ d ihd =>
    intro i s lo m h1 h2 h3 h4 h5 h6 h7
    have hi : i < L.length := by omega
    have hm := List.getElem_mem hi
    obtain ⟨lo1, m1, hr, ⟨r1, r2, r3⟩, _⟩ := ih L[i] m lo h5 (h6 _ hm) ⟨k1, hk1 _ hm, h7⟩
    have hp := wtF_pos (l := n.Decomp) (b := true) n.Decomp.length L[i]
    have hp' : 1 ≤ wt n.Decomp true L[i] ∧ wt n.Decomp true L[i] ≤ 65 := hp
    have hb : MBody (L, true) (decompose_measure_1 f) n (s, (i : Int), false, lo, m) = some (.next (min (s + wt n.Decomp true L[i]) 65, ((i + 1 : Nat) : Int), false, lo1, m1)) := by
      simp only [decompose_measure_1_L0, lt_t hi, cond_true, idx_nat hi, some_bind, hr, wi_succ (k := i) (by omega)]
      rw [wi_id (n := s + wt n.Decomp true L[i]) (by omega) (by omega)]
    rw [loopM_next hb]
    obtain ⟨lo2, m2, hq, q1, q2, q3⟩ := ihd (i + 1) (min (s + wt n.Decomp true L[i]) 65) lo1 m1 (by omega) (by omega) (by omega) (by omega) r1 (fun e he => need_mono (mhas_mono r2) (h6 e he)) (fun e he => h7 e (r3 e he))
    refine ⟨lo2, m2, ?_, q1, fun k v h => q2 k v (r2 k v h), fun e h => r3 e (q3 e h)⟩
    rw [hq, List.drop_eq_getElem_cons hi, List.map_cons, List.sum_cons]
    have hnn := sum_nn (f := wt n.Decomp true) (fun e => (wtF_pos _ e).1) (L.drop (i + 1))
    have : min (min (s + wt n.Decomp true L[i]) 65 + ((L.drop (i + 1)).map (wt n.Decomp true)).sum) 65 = min (s + (wt n.Decomp true L[i] + ((L.drop (i + 1)).map (wt n.Decomp true)).sum)) 65 := by omega
    rw [this]
theorem meas_ex : ∀ (f : Nat) (c : Int) (m : List (Int × Int)) (lo : Bool), MeX n.Decomp m lo → need n.Decomp f c m → (∃ k, EE n.Decomp k c ∧ ∀ e, mget m e = some (-1) → ¬ EE n.Decomp k e) →
    ∃ lo' m', decompose_measure_1 f c n m false lo = some (wt n.Decomp true c, false, lo', m') ∧ MXPost n.Decomp m m' lo' ∧ (dep n.Decomp c ≠ [] → mget m' c = some (wt n.Decomp true c)) := by
  have hD := all_dd hd H
  intro f
  induction f with
  | zero =>
    intro c m lo _ hn
    exfalso
    rcases hn with h | h | h <;> omega
  | succ f ih =>
    intro c m lo hm hn hst
    show ∃ lo' m', decompose_measure_1_B (decompose_measure_1 f) c n m false lo = some _ ∧ _
    obtain ⟨w0, w1⟩ := wt_dep hd hD c
    have hp' : 1 ≤ wt n.Decomp true c ∧ wt n.Decomp true c ≤ 65 := wtF_pos (l := n.Decomp) (b := true) n.Decomp.length c
    by_cases h0 : dep n.Decomp c = []
    · rw [mB_leaf hd hl h0, w0 h0]
      exact ⟨lo, m, rfl, ⟨hm, fun _ _ h => h, fun _ h => h⟩, fun h => absurd h0 h⟩
    · rw [mB_ne hd hl h0]
      obtain ⟨k, hk, hks⟩ := hst
      cases hh : mhas m c with
      | true =>
        obtain ⟨v, hv⟩ := Option.isSome_iff_exists.1 hh
        have hg : mgetD m c 0 = v := by unfold mgetD; rw [hv]; rfl
        have hne : v ≠ -1 := fun e => hks c (by rw [hv, e]) hk
        have hvw : v = wt n.Decomp true c := (hm.val c v hv).resolve_left hne
        rw [hg, cond_true]
        have e1 : decide (v = -1) = false := by simpa using hne
        rw [e1]
        refine ⟨lo, m, ?_, ⟨hm, fun _ _ h => h, fun _ h => h⟩, fun _ => by rw [hv, hvw]⟩
        rw [show max v 1 = wt n.Decomp true c by omega]
        rfl
      | false =>
        have hmin : ∃ k0, EE n.Decomp (k0 + 1) c ∧ ¬ EE n.Decomp k0 c ∧ k0 + 1 ≤ k := by
          clear hks
          induction k with
          | zero => exact hk.elim
          | succ k ihk =>
            by_cases h : EE n.Decomp k c
            · obtain ⟨k0, a, b, e⟩ := ihk h
              exact ⟨k0, a, b, by omega⟩
            · exact ⟨k, hk, h, Nat.le_refl _⟩
        obtain ⟨k0, a, b, e⟩ := hmin
        have hgn : mget m c = none := by
          cases hx : mget m c with
          | none => rfl
          | some v => have : mhas m c = true := by unfold mhas; rw [hx]; rfl
                      rw [hh] at this; cases this
        have hok : MeX n.Decomp (mput m c (-1)) lo := by
          refine ⟨fun k v hk => ?_, fun hc k v hk hne => ?_, hm.lot⟩
          · rw [mget_mput] at hk
            split at hk
            · cases hk; exact .inl rfl
            · exact hm.val k v hk
          · rw [mget_mput] at hk
            split at hk
            · cases hk; exact absurd rfl hne
            · exact hm.lof hc k v hk hne
        have hnd : ∀ e ∈ dep n.Decomp c, need n.Decomp f e (mput m c (-1)) := by
          intro e he
          cases hs : syl c with
          | true =>
            refine .inr (.inr ⟨dep_syl hd hs he, ?_⟩)
            rcases hn with h | h | h
            · omega
            · omega
            · exact absurd h.1 h0
          | false =>
            rcases hn with h | h | h
            · refine .inl ?_
              have := pot_put (l := n.Decomp) (v := -1) (dep_ne h0 hs) hh
              omega
            · rw [hs] at h; cases h.1
            · exact absurd h.1 h0
        obtain ⟨lo1, m1, hq, q1, q2, q3⟩ := mx_loop hd c k0 ih (fun e he => a e he) (dep n.Decomp c).length 0 0 lo (mput m c (-1)) (by omega) (by omega) (by omega) (by omega) hok hnd (fun e' he' => by
          rw [mget_mput] at he'
          split at he'
          · rename_i hx; rw [hx]; exact b
          · exact fun h => hks e' he' (EE_le (by omega) h))
        rw [List.drop_zero, Int.zero_add, ← w1 h0] at hq
        have hq' : loopM (MBody (dep n.Decomp c, true) (decompose_measure_1 f) n) (0, 0, false, lo, mput m c (-1)) = some (wt n.Decomp true c, false, lo1, m1) := hq
        simp only [cond_false]
        rw [hq']
        refine ⟨(lo1 || decide (64 < wt n.Decomp true c)), mput m1 c (wt n.Decomp true c), rfl, ⟨⟨fun k v hk => ?_, fun hc k v hk hne => ?_, fun hc => ?_⟩, fun k v hk => ?_, fun e' he' => ?_⟩, fun _ => by rw [mget_mput, if_pos rfl]⟩
        · rw [mget_mput] at hk
          split at hk
          · rename_i hx; cases hk; rw [hx]; exact .inr rfl
          · exact q1.val k v hk
        · rw [Bool.or_eq_false_iff] at hc
          rw [mget_mput] at hk
          split at hk
          · cases hk; have := hc.2; simp only [decide_eq_false_iff_not] at this; omega
          · exact q1.lof hc.1 k v hk hne
        · rcases Bool.or_eq_true_iff.1 hc with h | h
          · exact q1.lot h
          · simp only [decide_eq_true_eq] at h
            cases hs : syl c with
            | true =>
              have : wt n.Decomp true c ≤ 3 := by
                rw [wt_eq hD c, fnB_none (syl_none hd hs)]
                have := hd_len c
                simp only []; omega
              omega
            | false => obtain ⟨x, hx, rfl⟩ := dep_ne h0 hs; exact ⟨x, hx, h⟩
        · rw [mget_mput]
          split
          · rename_i hx; rw [hx, hgn] at hk; cases hk
          · rename_i hx
            exact q2 k v (by rw [mget_mput, if_neg hx]; exact hk)
        · rw [mget_mput] at he'
          split at he'
          · injection he' with he'; omega
          · rename_i hx
            have := q3 e' he'
            rw [mget_mput, if_neg hx] at this
            exact this
theorem measure_ex (hp : n.Decomp.length ≤ 90) : ∃ lo, decompose_measure n = some (false, lo) ∧ (lo = false ↔ ∀ x ∈ n.Decomp, wt n.Decomp true x.From ≤ 64) := by
  have hD := all_dd hd H
  have key : ∀ (d i : Nat) (lo : Bool) (m : List (Int × Int)), n.Decomp.length - i = d → i ≤ n.Decomp.length → MeX n.Decomp m lo → (∀ e, mget m e ≠ some (-1)) → (∀ x ∈ n.Decomp.take i, dep n.Decomp x.From ≠ [] → mget m x.From = some (wt n.Decomp true x.From)) →
      ∃ lo', loopM (fun (x : Int × Bool × Bool × (List (Int × Int))) => decompose_measure_L0 n x.1 x.2.1 x.2.2.1 x.2.2.2) ((i : Int), false, lo, m) = some (false, lo') ∧ (lo' = false ↔ ∀ x ∈ n.Decomp, wt n.Decomp true x.From ≤ 64) := by
    intro d
    induction d with
    | zero =>
      intro i lo m h1 h2 h3 h4 h5
      refine ⟨lo, ?_, fun h x hx => ?_, fun h => ?_⟩
      · refine loopM_done ?_
        simp only [decompose_measure_L0, lt_f (show n.Decomp.length ≤ i by omega), cond_false]
      · by_cases h0 : dep n.Decomp x.From = []
        · rw [(wt_dep hd hD x.From).1 h0]; decide
        · have hg := h5 x (by rw [List.take_of_length_le (by omega)]; exact hx) h0
          have hp' : 1 ≤ wt n.Decomp true x.From ∧ wt n.Decomp true x.From ≤ 65 := wtF_pos (l := n.Decomp) (b := true) n.Decomp.length x.From
          exact h3.lof h _ _ hg (by omega)
      · cases lo with
        | false => rfl
        | true => obtain ⟨x, hx, hg⟩ := h3.lot rfl; have := h x hx; omega
    | succ d ih =>
      intro i lo m h1 h2 h3 h4 h5
      have hi : i < n.Decomp.length := by omega
      have hpot : pot n.Decomp m ≤ n.Decomp.length := List.countP_le_length
      obtain ⟨k, hk⟩ := H n.Decomp[i] (List.getElem_mem hi)
      obtain ⟨lo1, m1, hr, ⟨r1, r2, r3⟩, r4⟩ := meas_ex hd hl H 100 n.Decomp[i].From m lo h3 (.inl (by omega)) ⟨k, hk, fun e he => absurd he (h4 e)⟩
      rw [loopM_next (x' := (((i + 1 : Nat) : Int), false, lo1, m1)) (by
        simp only [decompose_measure_L0, lt_t hi, cond_true, idx_nat hi, some_bind, hr, wi_succ (k := i) (by omega)])]
      refine ih (i + 1) lo1 m1 (by omega) (by omega) r1 (fun e he => h4 e (r3 e he)) (fun x hx hx0 => ?_)
      rw [List.take_add_one, List.getElem?_eq_getElem hi] at hx
      rcases List.mem_append.1 hx with hx | hx
      · exact r2 _ _ (h5 x hx hx0)
      · simp only [Option.toList_some, List.mem_singleton] at hx
        subst hx
        exact r4 hx0
  obtain ⟨lo, hr, h1⟩ := key n.Decomp.length 0 false [] (by omega) (by omega) ⟨fun k v h => (by cases h), fun _ k v h => (by cases h), fun h => by cases h⟩ (fun e h => by cases h) (fun x hx => by cases hx)
  have hr' : loopM (fun (x : Int × Bool × Bool × (List (Int × Int))) => decompose_measure_L0 n x.1 x.2.1 x.2.2.1 x.2.2.2) (0, false, false, []) = some (false, lo) := hr
  refine ⟨lo, ?_, h1⟩
  unfold decompose_measure
  rw [hr']
  rfl
end
theorem ms_iff {n : Norm} (hd : DS n.Decomp) (hp : n.Decomp.length ≤ 90) : decompose_measure n = some (false, false) ↔ (∀ m ∈ n.Decomp, WW n.Decomp m.From) ∧ ∀ m ∈ n.Decomp, wt n.Decomp true m.From ≤ 64 := by
 have hl : n.Decomp.length ≤ 1000 := by omega
 constructor
 ·
  intro h
  obtain ⟨r, h1, h2⟩ := measure_tot hd hl hp
  rw [h] at h1
  injection h1 with h1
  subst h1
  have H := h2 rfl
  obtain ⟨lo, h3, h4⟩ := measure_ex hd hl H hp
  rw [h] at h3
  injection h3 with h3
  injection h3 with _ h3
  exact ⟨H, h4.1 h3.symm⟩
 ·
  rintro ⟨H, h⟩
  obtain ⟨lo, h3, h4⟩ := measure_ex hd hl H hp
  rw [h3, h4.2 h]
theorem wt_all {l : List Mapping} (hd : DS l) (H : ∀ m ∈ l, WW l m.From) (h : ∀ m ∈ l, wt l true m.From ≤ 64) (c : Int) : wt l true c ≤ 64 := by
 cases hf : l.find? (isF c) with
 | some m => obtain ⟨h1, rfl⟩ := fd_from hf; exact h m h1
 | none =>
  rw [wt_eq (all_dd hd H) c, fnB_none hf]
  have := hd_len c
  simp only []; omega
end Go.M
namespace Go.M
open Go.AV
set_option linter.unusedSimpArgs false
set_option linter.unusedVariables false
end Go.M
namespace Go.M
open Go.AV
set_option linter.unusedSimpArgs false
set_option linter.unusedVariables false
section
variable (key : Int → Int)
def Flt (a b : List Int) : Prop := a.Perm b ∧ ∀ k, a.filter (fun x => decide (key x = k)) = b.filter (fun x => decide (key x = k))
end
section
variable {key : Int → Int}
theorem Flt.refl (a : List Int) : Flt key a a := ⟨.refl _, fun _ => rfl⟩
theorem Flt.trans {a b c : List Int} (h : Flt key a b) (k : Flt key b c) : Flt key a c := ⟨h.1.trans k.1, fun q => (h.2 q).trans (k.2 q)⟩
theorem Flt.symm {a b : List Int} (h : Flt key a b) : Flt key b a := ⟨h.1.symm, fun q => (h.2 q).symm⟩
theorem Flt.app {a b c d : List Int} (h : Flt key a b) (k : Flt key c d) : Flt key (a ++ c) (b ++ d) := ⟨h.1.append k.1, fun q => by rw [List.filter_append, List.filter_append, h.2 q, k.2 q]⟩
theorem Flt.swap {a b : List Int} (h : ∀ x ∈ a, ∀ y ∈ b, key x ≠ key y) : Flt key (a ++ b) (b ++ a) := ⟨List.perm_append_comm, fun q => by
  rw [List.filter_append, List.filter_append]
  by_cases hq : ∃ x ∈ a, key x = q
  · obtain ⟨x, hx, e⟩ := hq
    have : b.filter (fun x => decide (key x = q)) = [] := by
      rw [List.filter_eq_nil_iff]
      intro y hy he
      exact h x hx y hy (by rw [e]; simpa using Eq.symm (by simpa using he))
    rw [this]; simp
  · have : a.filter (fun x => decide (key x = q)) = [] := by
      rw [List.filter_eq_nil_iff]
      intro y hy he
      exact hq ⟨y, hy, by simpa using he⟩
    rw [this]; simp⟩
theorem Flt.mem {a b : List Int} (h : Flt key a b) {x : Int} : x ∈ a ↔ x ∈ b := h.1.mem_iff
theorem Flt.len {a b : List Int} (h : Flt key a b) : a.length = b.length := h.1.length_eq
end
end Go.M
namespace Go.M
open Go.AV
set_option linter.unusedSimpArgs false
set_option linter.unusedVariables false
end Go.M
namespace Go.M
open Go.AV
set_option linter.unusedSimpArgs false
set_option linter.unusedVariables false
end Go.M
namespace Go.M
open Go.AV
set_option linter.unusedSimpArgs false
set_option linter.unusedVariables false
end Go.M


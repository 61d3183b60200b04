/- The plain counterparts with loops of a bounded count: they answer only what the counterparts answer. Conditions: none. -/
import Derived.Test.YtgeaoceiacdadaaDoorMir
set_option linter.unusedSimpArgs false
set_option linter.unusedVariables false
set_option linter.unnecessarySimpa false
namespace Go.M
open Go.AV
def Le {α : Type} (a b : Option α) : Prop := ∀ v, a = some v → b = some v
theorem Le.refl {α : Type} (a : Option α) : Le a a := fun _ h => h
theorem Le.bind {α β : Type} {a b : Option α} {f g : α → Option β} (h : Le a b) (k : ∀ x, Le (f x) (g x)) : Le (a.bind f) (b.bind g) := by
  intro v hv
  cases a with
  | none => cases hv
  | some x => rw [h x rfl]; exact k x v hv
theorem Le.cond {α : Type} {c : Bool} {a b a' b' : Option α} (h : Le a a') (k : Le b b') : Le (cond c a b) (cond c a' b') := by cases c <;> assumption
theorem Le.gM {α : Type} [Inhabited α] {c : Bool} {a a' : Option α} (h : Le a a') : Le (gM c a) (gM c a') := by cases c; exact Le.refl _; exact h
theorem Le.elim {α β γ : Type} {f f' : α → Option γ} {g g' : β → Option γ} {y : α ⊕ β} (h : ∀ x, Le (f x) (f' x)) (k : ∀ x, Le (g x) (g' x)) : Le (y.elim f g) (y.elim f' g') := by
  cases y with
  | inl x => exact h x
  | inr x => exact k x
def iterE {X Y : Type} (f : X → Option (Stp X Y)) (x : X) : Option Y := iter f 60 x
theorem iter_le {X Y : Type} {f g : X → Option (Stp X Y)} (h : ∀ x, Le (f x) (g x)) : ∀ (n : Nat) (x : X), Le (iter f n x) (iter g n x)
  | 0, _ => fun _ hv => by cases hv
  | n + 1, x => fun v hv => by
    simp only [iter] at hv ⊢
    cases hb : f x with
    | none => rw [hb] at hv; cases hv
    | some s =>
      rw [hb] at hv
      rw [h x s hb]
      cases s with
      | next x' => exact iter_le h n x' v hv
      | done y => exact hv
theorem Le.loop {X Y : Type} {f g : X → Option (Stp X Y)} {x : X} (h : ∀ x, Le (f x) (g x)) : Le (iterE f x) (loopM g x) := fun v hv => loopM_some.2 ⟨60, iter_le h 60 x v hv⟩
def slices_Clone_int_int_e (a0 : (List Int)) : Option ((List Int)) :=
 app [] a0
theorem slices_Clone_int_int_le {a0 : (List Int)} : Le (slices_Clone_int_int_e a0) (slices_Clone_int_int a0) := by
  unfold slices_Clone_int_int_e slices_Clone_int_int
  repeat' (first | apply Le.bind | apply Le.cond | apply Le.gM | apply Le.elim | apply Le.loop | with_reducible exact Le.refl _ | intro _)
def colltable_isWeight_e (a0 : Int) : Option (Bool) :=
(pv (decide (1 ≤ a0))).bind fun b5 =>
 some (b5 && (decide (a0 ≤ 65535)))
theorem colltable_isWeight_le {a0 : Int} : Le (colltable_isWeight_e a0) (colltable_isWeight a0) := by
  unfold colltable_isWeight_e colltable_isWeight
  repeat' (first | apply Le.bind | apply Le.cond | apply Le.gM | apply Le.elim | apply Le.loop | with_reducible exact Le.refl _ | intro _)
def colltable_isName_L0_e (a0 : Str) (v7 : Int) : Option (Stp (Int) ((Unit) ⊕ (Bool))) :=
 cond (decide (v7 < (a0.length : Int))) ((sidx a0 v7).bind fun t12 =>
(pv (decide (65 ≤ t12))).bind fun b15 =>
(pv (b15 && (decide (t12 ≤ 90)))).bind fun b19 =>
(pv (decide (97 ≤ t12))).bind fun b22 =>
(pv (b19 || (b22 && (decide (t12 ≤ 122))))).bind fun b27 =>
(pv (decide (48 ≤ t12))).bind fun b30 =>
(pv (b27 || (b30 && (decide (t12 ≤ 57))))).bind fun b35 =>
 cond (!(b35 || (decide (t12 = 95)))) (some (.done (.inr (false)))) (some (.next (wi (v7 + 1))))) (some (.done (.inl (()))))
theorem colltable_isName_L0_le {a0 : Str} {v7 : Int} : Le (colltable_isName_L0_e a0 v7) (colltable_isName_L0 a0 v7) := by
  unfold colltable_isName_L0_e colltable_isName_L0
  repeat' (first | apply Le.bind | apply Le.cond | apply Le.gM | apply Le.elim | apply Le.loop | with_reducible exact Le.refl _ | intro _)
def colltable_isName_e (a0 : Str) : Option (Bool) :=
(iterE (fun (x : Int) => colltable_isName_L0_e a0 x) 0).bind fun (y1 : (Unit) ⊕ (Bool)) =>
 y1.elim (fun y1 => (pv (!(a0 == []))).bind fun b43 =>
 some (b43 && (decide ((a0.length : Int) ≤ 32)))) (fun y1 => some y1)
theorem colltable_isName_le {a0 : Str} : Le (colltable_isName_e a0) (colltable_isName a0) := by
  unfold colltable_isName_e colltable_isName
  repeat' (first | apply colltable_isName_L0_le | apply Le.bind | apply Le.cond | apply Le.gM | apply Le.elim | apply Le.loop | with_reducible exact Le.refl _ | intro _)
def colltable_checkGroups_L0_e (a0 : Collation) (v15 : Int) : Option (Stp (Int) ((Unit) ⊕ (Int))) :=
 cond (decide (v15 < (a0.Groups.length : Int))) ((idx a0.Groups v15).bind fun t17 =>
(colltable_isName_e t17.Name).bind fun t21 =>
 cond (!t21) (some (.done (.inr (6)))) (some (.next (wi (v15 + 1))))) (some (.done (.inl (()))))
theorem colltable_checkGroups_L0_le {a0 : Collation} {v15 : Int} : Le (colltable_checkGroups_L0_e a0 v15) (colltable_checkGroups_L0 a0 v15) := by
  unfold colltable_checkGroups_L0_e colltable_checkGroups_L0
  repeat' (first | apply colltable_isName_le | apply Le.bind | apply Le.cond | apply Le.gM | apply Le.elim | apply Le.loop | with_reducible exact Le.refl _ | intro _)
def colltable_checkGroups_L1_e (a0 : Collation) (v28 : Int) (r24 : (List (Str × Bool))) : Option (Stp (Int × (List (Str × Bool))) ((Unit) ⊕ (Int))) :=
 cond (decide (v28 < (a0.Groups.length : Int))) ((idx a0.Groups v28).bind fun t30 =>
 cond (mgetD r24 t30.Name false) (some (.done (.inr (5)))) (some (.next (wi (v28 + 1), mput r24 t30.Name true)))) (some (.done (.inl (()))))
theorem colltable_checkGroups_L1_le {a0 : Collation} {v28 : Int} {r24 : (List (Str × Bool))} : Le (colltable_checkGroups_L1_e a0 v28 r24) (colltable_checkGroups_L1 a0 v28 r24) := by
  unfold colltable_checkGroups_L1_e colltable_checkGroups_L1
  repeat' (first | apply Le.bind | apply Le.cond | apply Le.gM | apply Le.elim | apply Le.loop | with_reducible exact Le.refl _ | intro _)
def colltable_checkGroups_L2_e (a0 : Collation) (v43 : Int) : Option (Stp (Int) ((Unit) ⊕ (Int))) :=
 cond (decide (v43 < (a0.Groups.length : Int))) ((idx a0.Groups v43).bind fun t45 =>
(pv (decide (t45.Lo < 1))).bind fun b50 =>
(pv (b50 || (decide (t45.Hi < t45.Lo)))).bind fun b57 =>
 cond (b57 || (decide (a0.Base ≤ t45.Hi))) (some (.done (.inr (1)))) (some (.next (wi (v43 + 1))))) (some (.done (.inl (()))))
theorem colltable_checkGroups_L2_le {a0 : Collation} {v43 : Int} : Le (colltable_checkGroups_L2_e a0 v43) (colltable_checkGroups_L2 a0 v43) := by
  unfold colltable_checkGroups_L2_e colltable_checkGroups_L2
  repeat' (first | apply Le.bind | apply Le.cond | apply Le.gM | apply Le.elim | apply Le.loop | with_reducible exact Le.refl _ | intro _)
def colltable_checkGroups_L3_e (a0 : Collation) (v68 : Int) : Option (Stp (Int) ((Unit) ⊕ (Int))) :=
 cond (decide (v68 < (a0.Groups.length : Int))) ((idx a0.Groups v68).bind fun t71 =>
(pv (decide (0 < v68))).bind fun b75 =>
(gM b75 (idx a0.Groups (wi (v68 - 1)))).bind fun t82 =>
 cond (b75 && (!decide (t71.Lo = (wi (t82.Hi + 1))))) (some (.done (.inr (4)))) (some (.next (wi (v68 + 1))))) (some (.done (.inl (()))))
theorem colltable_checkGroups_L3_le {a0 : Collation} {v68 : Int} : Le (colltable_checkGroups_L3_e a0 v68) (colltable_checkGroups_L3 a0 v68) := by
  unfold colltable_checkGroups_L3_e colltable_checkGroups_L3
  repeat' (first | apply Le.bind | apply Le.cond | apply Le.gM | apply Le.elim | apply Le.loop | with_reducible exact Le.refl _ | intro _)
def colltable_checkGroups_e (a0 : Collation) : Option (Int) :=
(iterE (fun (x : Int) => colltable_checkGroups_L0_e a0 x) 0).bind fun (y1 : (Unit) ⊕ (Int)) =>
 y1.elim (fun y1 => (iterE (fun (x : Int × (List (Str × Bool))) => colltable_checkGroups_L1_e a0 x.1 x.2) (0, [])).bind fun (y2 : (Unit) ⊕ (Int)) =>
 y2.elim (fun y2 => (iterE (fun (x : Int) => colltable_checkGroups_L2_e a0 x) 0).bind fun (y3 : (Unit) ⊕ (Int)) =>
 y3.elim (fun y3 => (iterE (fun (x : Int) => colltable_checkGroups_L3_e a0 x) 0).bind fun (y4 : (Unit) ⊕ (Int)) =>
 y4.elim (fun y4 => some 0) (fun y4 => some y4)) (fun y3 => some y3)) (fun y2 => some y2)) (fun y1 => some y1)
theorem colltable_checkGroups_le {a0 : Collation} : Le (colltable_checkGroups_e a0) (colltable_checkGroups a0) := by
  unfold colltable_checkGroups_e colltable_checkGroups
  repeat' (first | apply colltable_checkGroups_L0_le | apply colltable_checkGroups_L1_le | apply colltable_checkGroups_L2_le | apply colltable_checkGroups_L3_le | apply Le.bind | apply Le.cond | apply Le.gM | apply Le.elim | apply Le.loop | with_reducible exact Le.refl _ | intro _)
def codepoint_Valid_e (a0 : Int) : Option (Bool) :=
(pv (decide (0 ≤ a0))).bind fun b5 =>
 some (b5 && (decide (a0 ≤ 1114111)))
theorem codepoint_Valid_le {a0 : Int} : Le (codepoint_Valid_e a0) (codepoint_Valid a0) := by
  unfold codepoint_Valid_e codepoint_Valid
  repeat' (first | apply Le.bind | apply Le.cond | apply Le.gM | apply Le.elim | apply Le.loop | with_reducible exact Le.refl _ | intro _)
def colltable_checkEntry_L0_e (a0 : Entry) (v31 : Int) : Option (Stp (Int) ((Unit) ⊕ (Int))) :=
 cond (decide (v31 < (a0.Codes.length : Int))) ((idx a0.Codes v31).bind fun t33 =>
(codepoint_Valid_e t33).bind fun t36 =>
 cond (!t36) (some (.done (.inr (1)))) (some (.next (wi (v31 + 1))))) (some (.done (.inl (()))))
theorem colltable_checkEntry_L0_le {a0 : Entry} {v31 : Int} : Le (colltable_checkEntry_L0_e a0 v31) (colltable_checkEntry_L0 a0 v31) := by
  unfold colltable_checkEntry_L0_e colltable_checkEntry_L0
  repeat' (first | apply codepoint_Valid_le | apply Le.bind | apply Le.cond | apply Le.gM | apply Le.elim | apply Le.loop | with_reducible exact Le.refl _ | intro _)
def element_Check_L0_e (a0 : Element) (v12 : Int) : Option (Stp (Int) ((Unit) ⊕ (Int))) :=
 cond (decide (v12 < 3)) ((idx [({ x0 := a0.Primary, x1 := a0.Secondary, x2 := a0.Tertiary } : A3Int).x0, ({ x0 := a0.Primary, x1 := a0.Secondary, x2 := a0.Tertiary } : A3Int).x1, ({ x0 := a0.Primary, x1 := a0.Secondary, x2 := a0.Tertiary } : A3Int).x2] v12).bind fun t14 =>
(pv (decide (t14 < 0))).bind fun b17 =>
 cond (b17 || (decide (65535 < t14))) (some (.done (.inr (1)))) (some (.next (wi (v12 + 1))))) (some (.done (.inl (()))))
theorem element_Check_L0_le {a0 : Element} {v12 : Int} : Le (element_Check_L0_e a0 v12) (element_Check_L0 a0 v12) := by
  unfold element_Check_L0_e element_Check_L0
  repeat' (first | apply Le.bind | apply Le.cond | apply Le.gM | apply Le.elim | apply Le.loop | with_reducible exact Le.refl _ | intro _)
def element_Check_e (a0 : Element) : Option (Int) :=
(iterE (fun (x : Int) => element_Check_L0_e a0 x) 0).bind fun (y1 : (Unit) ⊕ (Int)) =>
 y1.elim (fun y1 => (pv (!decide (a0.Primary = 0))).bind fun b26 =>
(pv (decide (a0.Secondary = 0))).bind fun b30 =>
 cond (b26 && (b30 || (decide (a0.Tertiary = 0)))) (some 11) ((pv (!decide (a0.Secondary = 0))).bind fun b40 =>
 cond (b40 && (decide (a0.Tertiary = 0))) (some 11) ((pv a0.Variable).bind fun b48 =>
 cond (b48 && (decide (a0.Primary = 0))) (some 11) (some 0)))) (fun y1 => some y1)
theorem element_Check_le {a0 : Element} : Le (element_Check_e a0) (element_Check a0) := by
  unfold element_Check_e element_Check
  repeat' (first | apply element_Check_L0_le | apply Le.bind | apply Le.cond | apply Le.gM | apply Le.elim | apply Le.loop | with_reducible exact Le.refl _ | intro _)
def colltable_checkEntry_L1_e (a0 : Entry) (v42 : Int) : Option (Stp (Int) ((Unit) ⊕ (Int))) :=
 cond (decide (v42 < (a0.Elements.length : Int))) ((idx a0.Elements v42).bind fun t44 =>
(element_Check_e t44).bind fun t47 =>
 cond (!decide (t47 = 0)) (some (.done (.inr (t47)))) (some (.next (wi (v42 + 1))))) (some (.done (.inl (()))))
theorem colltable_checkEntry_L1_le {a0 : Entry} {v42 : Int} : Le (colltable_checkEntry_L1_e a0 v42) (colltable_checkEntry_L1 a0 v42) := by
  unfold colltable_checkEntry_L1_e colltable_checkEntry_L1
  repeat' (first | apply element_Check_le | apply Le.bind | apply Le.cond | apply Le.gM | apply Le.elim | apply Le.loop | with_reducible exact Le.refl _ | intro _)
def colltable_checkEntry_L2_e (a0 : Entry) (a1 : Int) (v55 : Int) : Option (Stp (Int) ((Unit) ⊕ (Int))) :=
 cond (decide (v55 < (a0.Elements.length : Int))) ((idx a0.Elements v55).bind fun t57 =>
 cond (decide (a1 ≤ t57.Primary)) (some (.done (.inr (1)))) (some (.next (wi (v55 + 1))))) (some (.done (.inl (()))))
theorem colltable_checkEntry_L2_le {a0 : Entry} {a1 : Int} {v55 : Int} : Le (colltable_checkEntry_L2_e a0 a1 v55) (colltable_checkEntry_L2 a0 a1 v55) := by
  unfold colltable_checkEntry_L2_e colltable_checkEntry_L2
  repeat' (first | apply Le.bind | apply Le.cond | apply Le.gM | apply Le.elim | apply Le.loop | with_reducible exact Le.refl _ | intro _)
def colltable_checkEntry_e (a0 : Entry) (a1 : Int) : Option (Int) :=
(pv (decide ((a0.Codes.length : Int) < 1))).bind fun b16 =>
(pv (b16 || (decide (8 < (a0.Codes.length : Int))))).bind fun b22 =>
 cond (b22 || (decide (16 < (a0.Elements.length : Int)))) (some 2) ((iterE (fun (x : Int) => colltable_checkEntry_L0_e a0 x) 0).bind fun (y1 : (Unit) ⊕ (Int)) =>
 y1.elim (fun y1 => (iterE (fun (x : Int) => colltable_checkEntry_L1_e a0 x) 0).bind fun (y2 : (Unit) ⊕ (Int)) =>
 y2.elim (fun y2 => (iterE (fun (x : Int) => colltable_checkEntry_L2_e a0 a1 x) 0).bind fun (y3 : (Unit) ⊕ (Int)) =>
 y3.elim (fun y3 => some 0) (fun y3 => some y3)) (fun y2 => some y2)) (fun y1 => some y1))
theorem colltable_checkEntry_le {a0 : Entry} {a1 : Int} : Le (colltable_checkEntry_e a0 a1) (colltable_checkEntry a0 a1) := by
  unfold colltable_checkEntry_e colltable_checkEntry
  repeat' (first | apply colltable_checkEntry_L0_le | apply colltable_checkEntry_L1_le | apply colltable_checkEntry_L2_le | apply Le.bind | apply Le.cond | apply Le.gM | apply Le.elim | apply Le.loop | with_reducible exact Le.refl _ | intro _)
def cmp_isNaN_int_e (a0 : Int) : Option (Bool) :=
 some (!decide (a0 = a0))
theorem cmp_isNaN_int_le {a0 : Int} : Le (cmp_isNaN_int_e a0) (cmp_isNaN_int a0) := by
  unfold cmp_isNaN_int_e cmp_isNaN_int
  repeat' (first | apply Le.bind | apply Le.cond | apply Le.gM | apply Le.elim | apply Le.loop | with_reducible exact Le.refl _ | intro _)
def cmp_Compare_int_e (a0 : Int) (a1 : Int) : Option (Int) :=
(cmp_isNaN_int_e a0).bind fun t8 =>
(cmp_isNaN_int_e a1).bind fun t10 =>
 cond t8 (cond t10 (some 0) (some (-1))) (cond t10 (some 1) (cond (decide (a0 < a1)) (some (-1)) (cond (decide (a1 < a0)) (some 1) (some 0))))
theorem cmp_Compare_int_le {a0 : Int} {a1 : Int} : Le (cmp_Compare_int_e a0 a1) (cmp_Compare_int a0 a1) := by
  unfold cmp_Compare_int_e cmp_Compare_int
  repeat' (first | apply cmp_isNaN_int_le | apply Le.bind | apply Le.cond | apply Le.gM | apply Le.elim | apply Le.loop | with_reducible exact Le.refl _ | intro _)
def codepoint_Compare_L0_e (a0 : (List Int)) (a1 : (List Int)) (v11 : Int) : Option (Stp (Int) ((Unit) ⊕ (Int))) :=
 cond (decide (v11 < (min (a0.length : Int) (a1.length : Int)))) ((idx a0 v11).bind fun t16 =>
(idx a1 v11).bind fun t20 =>
 cond (!decide (t16 = t20)) ((idx a0 v11).bind fun t25 =>
(idx a1 v11).bind fun t29 =>
(cmp_Compare_int_e t25 t29).bind fun t31 =>
 some (.done (.inr (t31)))) (some (.next (wi (v11 + 1))))) (some (.done (.inl (()))))
theorem codepoint_Compare_L0_le {a0 : (List Int)} {a1 : (List Int)} {v11 : Int} : Le (codepoint_Compare_L0_e a0 a1 v11) (codepoint_Compare_L0 a0 a1 v11) := by
  unfold codepoint_Compare_L0_e codepoint_Compare_L0
  repeat' (first | apply cmp_Compare_int_le | apply Le.bind | apply Le.cond | apply Le.gM | apply Le.elim | apply Le.loop | with_reducible exact Le.refl _ | intro _)
def codepoint_Compare_e (a0 : (List Int)) (a1 : (List Int)) : Option (Int) :=
(iterE (fun (x : Int) => codepoint_Compare_L0_e a0 a1 x) 0).bind fun (y1 : (Unit) ⊕ (Int)) =>
 y1.elim (fun y1 => (cmp_Compare_int_e (a0.length : Int) (a1.length : Int)).bind fun t37 =>
 some t37) (fun y1 => some y1)
theorem codepoint_Compare_le {a0 : (List Int)} {a1 : (List Int)} : Le (codepoint_Compare_e a0 a1) (codepoint_Compare a0 a1) := by
  unfold codepoint_Compare_e codepoint_Compare
  repeat' (first | apply cmp_Compare_int_le | apply codepoint_Compare_L0_le | apply Le.bind | apply Le.cond | apply Le.gM | apply Le.elim | apply Le.loop | with_reducible exact Le.refl _ | intro _)
def colltable_Check_L0_e (a0 : Collation) (v35 : Int) : Option (Stp (Int) ((Unit) ⊕ (Int))) :=
 cond (decide (v35 < (a0.Entries.length : Int))) ((idx a0.Entries v35).bind fun t38 =>
(colltable_checkEntry_e t38 a0.Base).bind fun t43 =>
 cond (!decide (t43 = 0)) (some (.done (.inr (t43)))) ((pv (decide (0 < v35))).bind fun b49 =>
(gM b49 (idx a0.Entries (wi (v35 - 1)))).bind fun t54 =>
(gM b49 (codepoint_Compare_e t54.Codes t38.Codes)).bind fun t59 =>
 cond (b49 && (decide (0 ≤ t59))) (some (.done (.inr (4)))) (some (.next (wi (v35 + 1)))))) (some (.done (.inl (()))))
theorem colltable_Check_L0_le {a0 : Collation} {v35 : Int} : Le (colltable_Check_L0_e a0 v35) (colltable_Check_L0 a0 v35) := by
  unfold colltable_Check_L0_e colltable_Check_L0
  repeat' (first | apply codepoint_Compare_le | apply colltable_checkEntry_le | apply Le.bind | apply Le.cond | apply Le.gM | apply Le.elim | apply Le.loop | with_reducible exact Le.refl _ | intro _)
def colltable_Check_e (a0 : Collation) : Option (Int) :=
(pv (decide (a0.Base < 1))).bind fun b10 =>
(pv (b10 || (decide (65502 < a0.Base)))).bind fun b15 =>
(gM (!b15) (colltable_isWeight_e a0.Second)).bind fun t18 =>
(pv (b15 || (!t18))).bind fun b21 =>
(gM (!b21) (colltable_isWeight_e a0.Third)).bind fun t24 =>
 cond (b21 || (!t24)) (some 1) ((colltable_checkGroups_e a0).bind fun t28 =>
 cond (!decide (t28 = 0)) (some t28) ((iterE (fun (x : Int) => colltable_Check_L0_e a0 x) 0).bind fun (y1 : (Unit) ⊕ (Int)) =>
 y1.elim (fun y1 => some 0) (fun y1 => some y1)))
theorem colltable_Check_le {a0 : Collation} : Le (colltable_Check_e a0) (colltable_Check a0) := by
  unfold colltable_Check_e colltable_Check
  repeat' (first | apply colltable_Check_L0_le | apply colltable_checkGroups_le | apply colltable_isWeight_le | apply Le.bind | apply Le.cond | apply Le.gM | apply Le.elim | apply Le.loop | with_reducible exact Le.refl _ | intro _)
def colltable_keyOf_e (a0 : (List Int)) : Option (A9Int) :=
 some ({ x0 := ({ x0 := (a0.length : Int), x1 := 0, x2 := 0, x3 := 0, x4 := 0, x5 := 0, x6 := 0, x7 := 0, x8 := 0 } : A9Int).x0, x1 := cpA a0 0 (({ x0 := (a0.length : Int), x1 := 0, x2 := 0, x3 := 0, x4 := 0, x5 := 0, x6 := 0, x7 := 0, x8 := 0 } : A9Int).x1), x2 := cpA a0 1 (({ x0 := (a0.length : Int), x1 := 0, x2 := 0, x3 := 0, x4 := 0, x5 := 0, x6 := 0, x7 := 0, x8 := 0 } : A9Int).x2), x3 := cpA a0 2 (({ x0 := (a0.length : Int), x1 := 0, x2 := 0, x3 := 0, x4 := 0, x5 := 0, x6 := 0, x7 := 0, x8 := 0 } : A9Int).x3), x4 := cpA a0 3 (({ x0 := (a0.length : Int), x1 := 0, x2 := 0, x3 := 0, x4 := 0, x5 := 0, x6 := 0, x7 := 0, x8 := 0 } : A9Int).x4), x5 := cpA a0 4 (({ x0 := (a0.length : Int), x1 := 0, x2 := 0, x3 := 0, x4 := 0, x5 := 0, x6 := 0, x7 := 0, x8 := 0 } : A9Int).x5), x6 := cpA a0 5 (({ x0 := (a0.length : Int), x1 := 0, x2 := 0, x3 := 0, x4 := 0, x5 := 0, x6 := 0, x7 := 0, x8 := 0 } : A9Int).x6), x7 := cpA a0 6 (({ x0 := (a0.length : Int), x1 := 0, x2 := 0, x3 := 0, x4 := 0, x5 := 0, x6 := 0, x7 := 0, x8 := 0 } : A9Int).x7), x8 := cpA a0 7 (({ x0 := (a0.length : Int), x1 := 0, x2 := 0, x3 := 0, x4 := 0, x5 := 0, x6 := 0, x7 := 0, x8 := 0 } : A9Int).x8) } : A9Int)
theorem colltable_keyOf_le {a0 : (List Int)} : Le (colltable_keyOf_e a0) (colltable_keyOf a0) := by
  unfold colltable_keyOf_e colltable_keyOf
  repeat' (first | apply Le.bind | apply Le.cond | apply Le.gM | apply Le.elim | apply Le.loop | with_reducible exact Le.refl _ | intro _)
def colltable_made_L0_e (y1 : (List Entry) × (List Group) × Int × Int × Int) (v17 : Int) (r11 : (List (A9Int × (List Element)))) (k13_6 : Int) : Option (Stp (Int × (List (A9Int × (List Element))) × Int) (((List (A9Int × (List Element))) × Int))) :=
 cond (decide (v17 < (y1.1.length : Int))) ((idx y1.1 v17).bind fun t19 =>
(colltable_keyOf_e t19.Codes).bind fun t27 =>
 some (.next (wi (v17 + 1), mput r11 t27 t19.Elements, max k13_6 (t19.Codes.length : Int)))) (some (.done (r11, k13_6)))
theorem colltable_made_L0_le {y1 : (List Entry) × (List Group) × Int × Int × Int} {v17 : Int} {r11 : (List (A9Int × (List Element)))} {k13_6 : Int} : Le (colltable_made_L0_e y1 v17 r11 k13_6) (colltable_made_L0 y1 v17 r11 k13_6) := by
  unfold colltable_made_L0_e colltable_made_L0
  repeat' (first | apply colltable_keyOf_le | apply Le.bind | apply Le.cond | apply Le.gM | apply Le.elim | apply Le.loop | with_reducible exact Le.refl _ | intro _)
def colltable_made_e (a0 : Collation) : Option (Colltable_table) :=
(colltable_Check_e ({ Entries := a0.Entries, Groups := a0.Groups, Base := a0.Base, Second := a0.Second, Third := a0.Third } : Collation)).bind fun t7 =>
(cond (!decide (t7 = 0)) (some (({ Entries := [], Groups := [], Base := 64448, Second := 32, Third := 2 } : Collation).Entries, ({ Entries := [], Groups := [], Base := 64448, Second := 32, Third := 2 } : Collation).Groups, ({ Entries := [], Groups := [], Base := 64448, Second := 32, Third := 2 } : Collation).Base, ({ Entries := [], Groups := [], Base := 64448, Second := 32, Third := 2 } : Collation).Second, ({ Entries := [], Groups := [], Base := 64448, Second := 32, Third := 2 } : Collation).Third)) (some (a0.Entries, a0.Groups, a0.Base, a0.Second, a0.Third))).bind fun (y1 : (List Entry) × (List Group) × Int × Int × Int) =>
(iterE (fun (x : Int × (List (A9Int × (List Element))) × Int) => colltable_made_L0_e y1 x.1 x.2.1 x.2.2) (0, [], 0)).bind fun (y2 : (List (A9Int × (List Element))) × Int) =>
 some ({ c := ({ Entries := ({ Entries := y1.1, Groups := y1.2.1, Base := y1.2.2.1, Second := y1.2.2.2.1, Third := y1.2.2.2.2 } : Collation).Entries, Groups := ({ Entries := y1.1, Groups := y1.2.1, Base := y1.2.2.1, Second := y1.2.2.2.1, Third := y1.2.2.2.2 } : Collation).Groups, Base := ({ Entries := y1.1, Groups := y1.2.1, Base := y1.2.2.1, Second := y1.2.2.2.1, Third := y1.2.2.2.2 } : Collation).Base, Second := ({ Entries := y1.1, Groups := y1.2.1, Base := y1.2.2.1, Second := y1.2.2.2.1, Third := y1.2.2.2.2 } : Collation).Second, Third := ({ Entries := y1.1, Groups := y1.2.1, Base := y1.2.2.1, Second := y1.2.2.2.1, Third := y1.2.2.2.2 } : Collation).Third } : Collation), entries := y2.1, longest := y2.2, classes := [], top := 0 } : Colltable_table)
theorem colltable_made_le {a0 : Collation} : Le (colltable_made_e a0) (colltable_made a0) := by
  unfold colltable_made_e colltable_made
  repeat' (first | apply colltable_Check_le | apply colltable_made_L0_le | apply Le.bind | apply Le.cond | apply Le.gM | apply Le.elim | apply Le.loop | with_reducible exact Le.refl _ | intro _)
def ordering_Check_L0_e (a0 : (List Span)) (v14 : Int) : Option (Stp (Int) ((Unit) ⊕ (Int))) :=
 cond (decide (v14 < (a0.length : Int))) ((idx a0 v14).bind fun t16 =>
(pv (decide (t16.Lo < 0))).bind fun b21 =>
(pv (b21 || (decide (1114111 < t16.Hi)))).bind fun b26 =>
(pv (b26 || (decide (t16.Hi < t16.Lo)))).bind fun b33 =>
(pv (b33 || (decide (t16.Value < 1)))).bind fun b38 =>
 cond (b38 || (decide (254 < t16.Value))) (some (.done (.inr (1)))) (some (.next (wi (v14 + 1))))) (some (.done (.inl (()))))
theorem ordering_Check_L0_le {a0 : (List Span)} {v14 : Int} : Le (ordering_Check_L0_e a0 v14) (ordering_Check_L0 a0 v14) := by
  unfold ordering_Check_L0_e ordering_Check_L0
  repeat' (first | apply Le.bind | apply Le.cond | apply Le.gM | apply Le.elim | apply Le.loop | with_reducible exact Le.refl _ | intro _)
def ordering_Check_L1_e (a0 : (List Span)) (v5 : Int) : Option (Stp (Int) ((Unit) ⊕ (Int))) :=
 cond (decide (v5 < (a0.length : Int))) ((idx a0 (wi (v5 - 1))).bind fun t53 =>
(idx a0 v5).bind fun t57 =>
(pv (decide (t57.Lo ≤ t53.Hi))).bind fun b64 =>
(pv (decide (t57.Lo = (wi (t53.Hi + 1))))).bind fun b71 =>
 cond (b64 || (b71 && (decide (t57.Value = t53.Value)))) (some (.done (.inr (4)))) (some (.next (wi (v5 + 1))))) (some (.done (.inl (()))))
theorem ordering_Check_L1_le {a0 : (List Span)} {v5 : Int} : Le (ordering_Check_L1_e a0 v5) (ordering_Check_L1 a0 v5) := by
  unfold ordering_Check_L1_e ordering_Check_L1
  repeat' (first | apply Le.bind | apply Le.cond | apply Le.gM | apply Le.elim | apply Le.loop | with_reducible exact Le.refl _ | intro _)
def ordering_Check_L3_e (t85 : A4Range) (t83 : Span) (v86 : Int) : Option (Stp (Int) ((Unit) ⊕ (Int))) :=
 cond (decide (v86 < 4)) ((idx [t85.x0, t85.x1, t85.x2, t85.x3] v86).bind fun t88 =>
(pv (decide (t83.Lo ≤ t88.Hi))).bind fun b94 =>
 cond (b94 && (decide (t88.Lo ≤ t83.Hi))) (some (.done (.inr (11)))) (some (.next (wi (v86 + 1))))) (some (.done (.inl (()))))
theorem ordering_Check_L3_le {t85 : A4Range} {t83 : Span} {v86 : Int} : Le (ordering_Check_L3_e t85 t83 v86) (ordering_Check_L3 t85 t83 v86) := by
  unfold ordering_Check_L3_e ordering_Check_L3
  repeat' (first | apply Le.bind | apply Le.cond | apply Le.gM | apply Le.elim | apply Le.loop | with_reducible exact Le.refl _ | intro _)
def ordering_Check_L2_e (a0 : (List Span)) (v81 : Int) : Option (Stp (Int) ((Unit) ⊕ (Int))) :=
 cond (decide (v81 < (a0.length : Int))) ((idx a0 v81).bind fun t83 =>
(pv ({ x0 := ({ Lo := 4352, Hi := 4370 } : Range), x1 := ({ Lo := 4449, Hi := 4469 } : Range), x2 := ({ Lo := 4520, Hi := 4546 } : Range), x3 := ({ Lo := 44032, Hi := 55203 } : Range) } : A4Range)).bind fun t85 =>
(iterE (fun (x : Int) => ordering_Check_L3_e t85 t83 x) 0).bind fun (y4 : (Unit) ⊕ (Int)) =>
 y4.elim (fun y4 => some (.next (wi (v81 + 1)))) (fun y4 => some (.done (.inr (y4))))) (some (.done (.inl (()))))
theorem ordering_Check_L2_le {a0 : (List Span)} {v81 : Int} : Le (ordering_Check_L2_e a0 v81) (ordering_Check_L2 a0 v81) := by
  unfold ordering_Check_L2_e ordering_Check_L2
  repeat' (first | apply ordering_Check_L3_le | apply Le.bind | apply Le.cond | apply Le.gM | apply Le.elim | apply Le.loop | with_reducible exact Le.refl _ | intro _)
def ordering_Check_e (a0 : (List Span)) : Option (Int) :=
(iterE (fun (x : Int) => ordering_Check_L0_e a0 x) 0).bind fun (y1 : (Unit) ⊕ (Int)) =>
 y1.elim (fun y1 => (iterE (fun (x : Int) => ordering_Check_L1_e a0 x) 1).bind fun (y2 : (Unit) ⊕ (Int)) =>
 y2.elim (fun y2 => (iterE (fun (x : Int) => ordering_Check_L2_e a0 x) 0).bind fun (y3 : (Unit) ⊕ (Int)) =>
 y3.elim (fun y3 => some 0) (fun y3 => some y3)) (fun y2 => some y2)) (fun y1 => some y1)
theorem ordering_Check_le {a0 : (List Span)} : Le (ordering_Check_e a0) (ordering_Check a0) := by
  unfold ordering_Check_e ordering_Check
  repeat' (first | apply ordering_Check_L0_le | apply ordering_Check_L1_le | apply ordering_Check_L2_le | apply Le.bind | apply Le.cond | apply Le.gM | apply Le.elim | apply Le.loop | with_reducible exact Le.refl _ | intro _)
def mapping_parts_L1_e (t15 : Mapping) (v24 : Int) : Option (Stp (Int) ((Unit) ⊕ (Int))) :=
 cond (decide (v24 < (t15.To.length : Int))) ((idx t15.To v24).bind fun t26 =>
(codepoint_Valid_e t26).bind fun t29 =>
 cond (!t29) (some (.done (.inr (1)))) (some (.next (wi (v24 + 1))))) (some (.done (.inl (()))))
theorem mapping_parts_L1_le {t15 : Mapping} {v24 : Int} : Le (mapping_parts_L1_e t15 v24) (mapping_parts_L1 t15 v24) := by
  unfold mapping_parts_L1_e mapping_parts_L1
  repeat' (first | apply codepoint_Valid_le | apply Le.bind | apply Le.cond | apply Le.gM | apply Le.elim | apply Le.loop | with_reducible exact Le.refl _ | intro _)
def mapping_parts_L0_e (a0 : (List Mapping)) (v13 : Int) : Option (Stp (Int) ((Unit) ⊕ (Int))) :=
 cond (decide (v13 < (a0.length : Int))) ((idx a0 v13).bind fun t15 =>
(codepoint_Valid_e t15.From).bind fun t19 =>
 cond (!t19) (some (.done (.inr (1)))) ((iterE (fun (x : Int) => mapping_parts_L1_e t15 x) 0).bind fun (y2 : (Unit) ⊕ (Int)) =>
 y2.elim (fun y2 => some (.next (wi (v13 + 1)))) (fun y2 => some (.done (.inr (y2)))))) (some (.done (.inl (()))))
theorem mapping_parts_L0_le {a0 : (List Mapping)} {v13 : Int} : Le (mapping_parts_L0_e a0 v13) (mapping_parts_L0 a0 v13) := by
  unfold mapping_parts_L0_e mapping_parts_L0
  repeat' (first | apply codepoint_Valid_le | apply mapping_parts_L1_le | apply Le.bind | apply Le.cond | apply Le.gM | apply Le.elim | apply Le.loop | with_reducible exact Le.refl _ | intro _)
def mapping_parts_L2_e (a0 : (List Mapping)) (v35 : Int) : Option (Stp (Int) ((Unit) ⊕ (Int))) :=
 cond (decide (v35 < (a0.length : Int))) ((idx a0 v35).bind fun t37 =>
 cond (decide (64 < (t37.To.length : Int))) (some (.done (.inr (2)))) (some (.next (wi (v35 + 1))))) (some (.done (.inl (()))))
theorem mapping_parts_L2_le {a0 : (List Mapping)} {v35 : Int} : Le (mapping_parts_L2_e a0 v35) (mapping_parts_L2 a0 v35) := by
  unfold mapping_parts_L2_e mapping_parts_L2
  repeat' (first | apply Le.bind | apply Le.cond | apply Le.gM | apply Le.elim | apply Le.loop | with_reducible exact Le.refl _ | intro _)
def mapping_isName_L0_e (a0 : Str) (v15 : Int) : Option (Stp (Int) ((Unit) ⊕ (Bool))) :=
 cond (decide (v15 < (a0.length : Int))) ((sidx a0 v15).bind fun t20 =>
(pv (decide (65 ≤ t20))).bind fun b23 =>
(pv (b23 && (decide (t20 ≤ 90)))).bind fun b27 =>
(pv (decide (97 ≤ t20))).bind fun b30 =>
(pv (!(b27 || (b30 && (decide (t20 ≤ 122)))))).bind fun b37 =>
(pv (decide (48 ≤ t20))).bind fun b40 =>
(pv (b37 && (!(b40 && (decide (t20 ≤ 57)))))).bind fun b46 =>
 cond (b46 && (!decide (t20 = 95))) (some (.done (.inr (false)))) (some (.next (wi (v15 + 1))))) (some (.done (.inl (()))))
theorem mapping_isName_L0_le {a0 : Str} {v15 : Int} : Le (mapping_isName_L0_e a0 v15) (mapping_isName_L0 a0 v15) := by
  unfold mapping_isName_L0_e mapping_isName_L0
  repeat' (first | apply Le.bind | apply Le.cond | apply Le.gM | apply Le.elim | apply Le.loop | with_reducible exact Le.refl _ | intro _)
def mapping_isName_e (a0 : Str) : Option (Bool) :=
(pv (a0 == [])).bind fun b8 =>
 cond (b8 || (decide (32 < (a0.length : Int)))) (some false) ((iterE (fun (x : Int) => mapping_isName_L0_e a0 x) 0).bind fun (y1 : (Unit) ⊕ (Bool)) =>
 y1.elim (fun y1 => some true) (fun y1 => some y1))
theorem mapping_isName_le {a0 : Str} : Le (mapping_isName_e a0) (mapping_isName a0) := by
  unfold mapping_isName_e mapping_isName
  repeat' (first | apply mapping_isName_L0_le | apply Le.bind | apply Le.cond | apply Le.gM | apply Le.elim | apply Le.loop | with_reducible exact Le.refl _ | intro _)
def mapping_parts_L3_e (a0 : (List Mapping)) (v46 : Int) : Option (Stp (Int) ((Unit) ⊕ (Int))) :=
 cond (decide (v46 < (a0.length : Int))) ((idx a0 v46).bind fun t48 =>
(pv (!(t48.Tag == []))).bind fun b53 =>
(gM b53 (mapping_isName_e t48.Tag)).bind fun t56 =>
 cond (b53 && (!t56)) (some (.done (.inr (6)))) (some (.next (wi (v46 + 1))))) (some (.done (.inl (()))))
theorem mapping_parts_L3_le {a0 : (List Mapping)} {v46 : Int} : Le (mapping_parts_L3_e a0 v46) (mapping_parts_L3 a0 v46) := by
  unfold mapping_parts_L3_e mapping_parts_L3
  repeat' (first | apply mapping_isName_le | apply Le.bind | apply Le.cond | apply Le.gM | apply Le.elim | apply Le.loop | with_reducible exact Le.refl _ | intro _)
def mapping_parts_e (a0 : (List Mapping)) : Option (Int) :=
(iterE (fun (x : Int) => mapping_parts_L0_e a0 x) 0).bind fun (y1 : (Unit) ⊕ (Int)) =>
 y1.elim (fun y1 => (iterE (fun (x : Int) => mapping_parts_L2_e a0 x) 0).bind fun (y3 : (Unit) ⊕ (Int)) =>
 y3.elim (fun y3 => (iterE (fun (x : Int) => mapping_parts_L3_e a0 x) 0).bind fun (y4 : (Unit) ⊕ (Int)) =>
 y4.elim (fun y4 => some 0) (fun y4 => some y4)) (fun y3 => some y3)) (fun y1 => some y1)
theorem mapping_parts_le {a0 : (List Mapping)} : Le (mapping_parts_e a0) (mapping_parts a0) := by
  unfold mapping_parts_e mapping_parts
  repeat' (first | apply mapping_parts_L0_le | apply mapping_parts_L2_le | apply mapping_parts_L3_le | apply Le.bind | apply Le.cond | apply Le.gM | apply Le.elim | apply Le.loop | with_reducible exact Le.refl _ | intro _)
def cmp_isNaN_string_e (a0 : Str) : Option (Bool) :=
 some (!(a0 == a0))
theorem cmp_isNaN_string_le {a0 : Str} : Le (cmp_isNaN_string_e a0) (cmp_isNaN_string a0) := by
  unfold cmp_isNaN_string_e cmp_isNaN_string
  repeat' (first | apply Le.bind | apply Le.cond | apply Le.gM | apply Le.elim | apply Le.loop | with_reducible exact Le.refl _ | intro _)
def cmp_Compare_string_e (a0 : Str) (a1 : Str) : Option (Int) :=
(cmp_isNaN_string_e a0).bind fun t8 =>
(cmp_isNaN_string_e a1).bind fun t10 =>
 cond t8 (cond t10 (some 0) (some (-1))) (cond t10 (some 1) (cond (Op.bytesLess a0 a1) (some (-1)) (cond (!Op.bytesLess a0 a1 && !(a0 == a1)) (some 1) (some 0))))
theorem cmp_Compare_string_le {a0 : Str} {a1 : Str} : Le (cmp_Compare_string_e a0 a1) (cmp_Compare_string a0 a1) := by
  unfold cmp_Compare_string_e cmp_Compare_string
  repeat' (first | apply cmp_isNaN_string_le | apply Le.bind | apply Le.cond | apply Le.gM | apply Le.elim | apply Le.loop | with_reducible exact Le.refl _ | intro _)
def cmp_Or_int_L0_e (a0 : (List Int)) (v8 : Int) : Option (Stp (Int) ((Unit) ⊕ (Int))) :=
 cond (decide (v8 < (a0.length : Int))) ((idx a0 v8).bind fun t10 =>
 cond (!decide (t10 = 0)) (some (.done (.inr (t10)))) (some (.next (wi (v8 + 1))))) (some (.done (.inl (()))))
theorem cmp_Or_int_L0_le {a0 : (List Int)} {v8 : Int} : Le (cmp_Or_int_L0_e a0 v8) (cmp_Or_int_L0 a0 v8) := by
  unfold cmp_Or_int_L0_e cmp_Or_int_L0
  repeat' (first | apply Le.bind | apply Le.cond | apply Le.gM | apply Le.elim | apply Le.loop | with_reducible exact Le.refl _ | intro _)
def cmp_Or_int_e (a0 : (List Int)) : Option (Int) :=
(iterE (fun (x : Int) => cmp_Or_int_L0_e a0 x) 0).bind fun (y1 : (Unit) ⊕ (Int)) =>
 y1.elim (fun y1 => some 0) (fun y1 => some y1)
theorem cmp_Or_int_le {a0 : (List Int)} : Le (cmp_Or_int_e a0) (cmp_Or_int a0) := by
  unfold cmp_Or_int_e cmp_Or_int
  repeat' (first | apply cmp_Or_int_L0_le | apply Le.bind | apply Le.cond | apply Le.gM | apply Le.elim | apply Le.loop | with_reducible exact Le.refl _ | intro _)
def mapping_compare_e (a0 : Mapping) (a1 : Mapping) : Option (Int) :=
(cmp_Compare_int_e a0.From a1.From).bind fun t9 =>
(cmp_Compare_string_e a0.Tag a1.Tag).bind fun t14 =>
(cmp_Or_int_e [t9, t14]).bind fun t16 =>
 some t16
theorem mapping_compare_le {a0 : Mapping} {a1 : Mapping} : Le (mapping_compare_e a0 a1) (mapping_compare a0 a1) := by
  unfold mapping_compare_e mapping_compare
  repeat' (first | apply cmp_Compare_int_le | apply cmp_Compare_string_le | apply cmp_Or_int_le | apply Le.bind | apply Le.cond | apply Le.gM | apply Le.elim | apply Le.loop | with_reducible exact Le.refl _ | intro _)
def mapping_Check_L0_e (a0 : (List Mapping)) (v4 : Bool) (v5 : Int) : Option (Stp (Bool × Int) ((Bool))) :=
 cond (decide (v5 < (a0.length : Int))) (((idx a0 (wi (v5 - 1))).bind fun t23 =>
(idx a0 v5).bind fun t27 =>
(mapping_compare_e t23 t27).bind fun t29 =>
 cond (decide (0 ≤ t29)) (some false) (some v4)).bind fun (y2 : Bool) =>
 some (.next (y2, wi (v5 + 1)))) (some (.done v4))
theorem mapping_Check_L0_le {a0 : (List Mapping)} {v4 : Bool} {v5 : Int} : Le (mapping_Check_L0_e a0 v4 v5) (mapping_Check_L0 a0 v4 v5) := by
  unfold mapping_Check_L0_e mapping_Check_L0
  repeat' (first | apply mapping_compare_le | apply Le.bind | apply Le.cond | apply Le.gM | apply Le.elim | apply Le.loop | with_reducible exact Le.refl _ | intro _)
def mapping_keyOf_e (a0 : Mapping) : Option (Mapping_key) :=
 some ({ from_ := a0.From, tag := a0.Tag } : Mapping_key)
theorem mapping_keyOf_le {a0 : Mapping} : Le (mapping_keyOf_e a0) (mapping_keyOf a0) := by
  unfold mapping_keyOf_e mapping_keyOf
  repeat' (first | apply Le.bind | apply Le.cond | apply Le.gM | apply Le.elim | apply Le.loop | with_reducible exact Le.refl _ | intro _)
def mapping_Check_L1_e (a0 : (List Mapping)) (v35 : Int) (r32 : (List (Mapping_key × Bool))) : Option (Stp (Int × (List (Mapping_key × Bool))) ((Unit) ⊕ (Int))) :=
 cond (decide (v35 < (a0.length : Int))) ((idx a0 v35).bind fun t37 =>
(mapping_keyOf_e t37).bind fun t41 =>
 cond (mgetD r32 t41 false) (some (.done (.inr (5)))) ((mapping_keyOf_e t37).bind fun t45 =>
 some (.next (wi (v35 + 1), mput r32 t45 true)))) (some (.done (.inl (()))))
theorem mapping_Check_L1_le {a0 : (List Mapping)} {v35 : Int} {r32 : (List (Mapping_key × Bool))} : Le (mapping_Check_L1_e a0 v35 r32) (mapping_Check_L1 a0 v35 r32) := by
  unfold mapping_Check_L1_e mapping_Check_L1
  repeat' (first | apply mapping_keyOf_le | apply Le.bind | apply Le.cond | apply Le.gM | apply Le.elim | apply Le.loop | with_reducible exact Le.refl _ | intro _)
def mapping_Check_e (a0 : (List Mapping)) : Option (Int) :=
(mapping_parts_e a0).bind fun t10 =>
 cond (!decide (t10 = 0)) (some t10) ((iterE (fun (x : Bool × Int) => mapping_Check_L0_e a0 x.1 x.2) (true, 1)).bind fun (y1 : Bool) =>
 cond y1 (some 0) ((iterE (fun (x : Int × (List (Mapping_key × Bool))) => mapping_Check_L1_e a0 x.1 x.2) (0, [])).bind fun (y3 : (Unit) ⊕ (Int)) =>
 y3.elim (fun y3 => some 4) (fun y3 => some y3)))
theorem mapping_Check_le {a0 : (List Mapping)} : Le (mapping_Check_e a0) (mapping_Check a0) := by
  unfold mapping_Check_e mapping_Check
  repeat' (first | apply mapping_Check_L0_le | apply mapping_Check_L1_le | apply mapping_parts_le | apply Le.bind | apply Le.cond | apply Le.gM | apply Le.elim | apply Le.loop | with_reducible exact Le.refl _ | intro _)
def cpset_Make_L0_e (a0 : (List Range)) (v13 : Int) (r1003 : (List Range)) : Option (Stp (Int × (List Range)) (((List Range)))) :=
 cond (decide (v13 < (a0.length : Int))) (((idx a0 v13).bind fun t15 =>
 cond (decide ((({ Lo := max t15.Lo 0, Hi := min t15.Hi 1114111 } : Range).Lo) ≤ (({ Lo := max t15.Lo 0, Hi := min t15.Hi 1114111 } : Range).Hi))) ((app r1003 [({ Lo := max t15.Lo 0, Hi := min t15.Hi 1114111 } : Range)]).bind fun r1003_3 =>
 some r1003_3) (some r1003)).bind fun (y2 : (List Range)) =>
 some (.next (wi (v13 + 1), y2))) (some (.done r1003))
theorem cpset_Make_L0_le {a0 : (List Range)} {v13 : Int} {r1003 : (List Range)} : Le (cpset_Make_L0_e a0 v13 r1003) (cpset_Make_L0 a0 v13 r1003) := by
  unfold cpset_Make_L0_e cpset_Make_L0
  repeat' (first | apply Le.bind | apply Le.cond | apply Le.gM | apply Le.elim | apply Le.loop | with_reducible exact Le.refl _ | intro _)
def slices_SortFunc_api_Range_api_Range_e (l : (List Range)) : Option ((List Range)) :=
 if l = [] then some [] else none
theorem slices_SortFunc_api_Range_api_Range_le {l : (List Range)} : Le (slices_SortFunc_api_Range_api_Range_e l) (slices_SortFunc_api_Range_api_Range l) := by
  unfold slices_SortFunc_api_Range_api_Range_e slices_SortFunc_api_Range_api_Range
  repeat' (first | apply Le.bind | apply Le.cond | apply Le.gM | apply Le.elim | apply Le.loop | with_reducible exact Le.refl _ | intro _)
def cpset_Make_L1_e (r1003_4 : (List Range)) (v38 : Int) (r1007 : (List Range)) : Option (Stp (Int × (List Range)) (((List Range)))) :=
 cond (decide (v38 < (r1003_4.length : Int))) (((idx r1003_4 v38).bind fun t40 =>
(pv (decide (0 < (r1007.length : Int)))).bind fun b46 =>
(gM b46 (idx r1007 (wi ((r1007.length : Int) - 1)))).bind fun t52 =>
 cond (b46 && (decide (t40.Lo ≤ (wi (t52.Hi + 1))))) ((idx r1007 (wi ((r1007.length : Int) - 1))).bind fun t64 =>
(idx r1007 (wi ((r1007.length : Int) - 1))).bind fun t70 =>
(setM r1007 (wi ((r1007.length : Int) - 1)) ({ t70 with Hi := max t64.Hi t40.Hi })).bind fun r1007_7 =>
 some r1007_7) ((app r1007 [t40]).bind fun r1007_8 =>
 some r1007_8)).bind fun (y6 : (List Range)) =>
 some (.next (wi (v38 + 1), y6))) (some (.done r1007))
theorem cpset_Make_L1_le {r1003_4 : (List Range)} {v38 : Int} {r1007 : (List Range)} : Le (cpset_Make_L1_e r1003_4 v38 r1007) (cpset_Make_L1 r1003_4 v38 r1007) := by
  unfold cpset_Make_L1_e cpset_Make_L1
  repeat' (first | apply Le.bind | apply Le.cond | apply Le.gM | apply Le.elim | apply Le.loop | with_reducible exact Le.refl _ | intro _)
def cpset_Make_e (a0 : (List Range)) : Option (Set) :=
(iterE (fun (x : Int × (List Range)) => cpset_Make_L0_e a0 x.1 x.2) (0, [])).bind fun (y1 : (List Range)) =>
(slices_SortFunc_api_Range_api_Range_e y1).bind fun r1003_4 =>
(iterE (fun (x : Int × (List Range)) => cpset_Make_L1_e r1003_4 x.1 x.2) (0, [])).bind fun (y5 : (List Range)) =>
 some ({ Ranges := y5 } : Set)
theorem cpset_Make_le {a0 : (List Range)} : Le (cpset_Make_e a0) (cpset_Make a0) := by
  unfold cpset_Make_e cpset_Make
  repeat' (first | apply cpset_Make_L0_le | apply cpset_Make_L1_le | apply slices_SortFunc_api_Range_api_Range_le | apply Le.bind | apply Le.cond | apply Le.gM | apply Le.elim | apply Le.loop | with_reducible exact Le.refl _ | intro _)
def cpset_Valid_L0_e (t8 : Set) (a0 : Set) (v19 : Int) : Option (Stp (Int) ((Unit) ⊕ (Bool))) :=
 cond (decide (v19 < (t8.Ranges.length : Int))) ((idx t8.Ranges v19).bind fun t22 =>
(idx a0.Ranges v19).bind fun t28 =>
 cond (!decide (t22 = t28)) (some (.done (.inr (false)))) (some (.next (wi (v19 + 1))))) (some (.done (.inl (()))))
theorem cpset_Valid_L0_le {t8 : Set} {a0 : Set} {v19 : Int} : Le (cpset_Valid_L0_e t8 a0 v19) (cpset_Valid_L0 t8 a0 v19) := by
  unfold cpset_Valid_L0_e cpset_Valid_L0
  repeat' (first | apply Le.bind | apply Le.cond | apply Le.gM | apply Le.elim | apply Le.loop | with_reducible exact Le.refl _ | intro _)
def cpset_Valid_e (a0 : Set) : Option (Bool) :=
(cpset_Make_e a0.Ranges).bind fun t8 =>
 cond (!decide ((t8.Ranges.length : Int) = (a0.Ranges.length : Int))) (some false) ((iterE (fun (x : Int) => cpset_Valid_L0_e t8 a0 x) 0).bind fun (y1 : (Unit) ⊕ (Bool)) =>
 y1.elim (fun y1 => some true) (fun y1 => some y1))
theorem cpset_Valid_le {a0 : Set} : Le (cpset_Valid_e a0) (cpset_Valid a0) := by
  unfold cpset_Valid_e cpset_Valid
  repeat' (first | apply cpset_Make_le | apply cpset_Valid_L0_le | apply Le.bind | apply Le.cond | apply Le.gM | apply Le.elim | apply Le.loop | with_reducible exact Le.refl _ | intro _)
def decompose_Check_L0_e (a0 : Norm) (v5 : Int) : Option (Stp (Int) ((Unit) ⊕ (Int))) :=
 cond (decide (v5 < (a0.Decomp.length : Int))) ((idx a0.Decomp v5).bind fun t39 =>
(idx a0.Decomp (wi (v5 - 1))).bind fun t46 =>
 cond (decide (t39.From = t46.From)) (some (.done (.inr (5)))) (some (.next (wi (v5 + 1))))) (some (.done (.inl (()))))
theorem decompose_Check_L0_le {a0 : Norm} {v5 : Int} : Le (decompose_Check_L0_e a0 v5) (decompose_Check_L0 a0 v5) := by
  unfold decompose_Check_L0_e decompose_Check_L0
  repeat' (first | apply Le.bind | apply Le.cond | apply Le.gM | apply Le.elim | apply Le.loop | with_reducible exact Le.refl _ | intro _)
def decompose_Check_L1_e (a0 : Norm) (v53 : Int) : Option (Stp (Int) ((Unit) ⊕ (Int))) :=
 cond (decide (v53 < (a0.Decomp.length : Int))) ((idx a0.Decomp v53).bind fun t55 =>
(pv (t55.Tag == [])).bind fun b60 =>
(pv (b60 && (!decide ((t55.To.length : Int) = 1)))).bind fun b66 =>
 cond (b66 && (!decide ((t55.To.length : Int) = 2))) (some (.done (.inr (8)))) (some (.next (wi (v53 + 1))))) (some (.done (.inl (()))))
theorem decompose_Check_L1_le {a0 : Norm} {v53 : Int} : Le (decompose_Check_L1_e a0 v53) (decompose_Check_L1 a0 v53) := by
  unfold decompose_Check_L1_e decompose_Check_L1
  repeat' (first | apply Le.bind | apply Le.cond | apply Le.gM | apply Le.elim | apply Le.loop | with_reducible exact Le.refl _ | intro _)
def hangul_Kind_e (a0 : Int) : Option (Int) :=
(pv (decide (4352 ≤ a0))).bind fun b6 =>
 cond (b6 && (decide (a0 < 4371))) (some 1) ((pv (decide (4449 ≤ a0))).bind fun b13 =>
 cond (b13 && (decide (a0 < 4470))) (some 2) ((pv (decide (4520 ≤ a0))).bind fun b20 =>
 cond (b20 && (decide (a0 < 4547))) (some 3) ((pv (decide (a0 < 44032))).bind fun b27 =>
 cond (b27 || (decide (55204 ≤ a0))) (some 0) ((remM (wi (a0 - 44032)) 28).bind fun t34 =>
 cond (decide (t34 = 0)) (some 4) (some 5)))))
theorem hangul_Kind_le {a0 : Int} : Le (hangul_Kind_e a0) (hangul_Kind a0) := by
  unfold hangul_Kind_e hangul_Kind
  repeat' (first | apply Le.bind | apply Le.cond | apply Le.gM | apply Le.elim | apply Le.loop | with_reducible exact Le.refl _ | intro _)
def decompose_Check_L2_e (a0 : Norm) (v76 : Int) (r1008 : (List Int)) : Option (Stp (Int × (List Int)) (((List Int)) ⊕ (Int))) :=
 cond (decide (v76 < (a0.Decomp.length : Int))) (((idx a0.Decomp v76).bind fun t78 =>
(hangul_Kind_e t78.From).bind fun t82 =>
 cond (!decide (t82 = 0)) (some (.inr (()))) (cond (!(t78.Tag == [])) ((app r1008 [t78.From]).bind fun r1008_5 =>
 some (.inl (r1008_5))) (some (.inl (r1008))))).bind fun (y4 : ((List Int)) ⊕ (Unit)) =>
 y4.elim (fun y4 => some (.next (wi (v76 + 1), y4))) (fun y4 => some (.done (.inr (11))))) (some (.done (.inl (r1008))))
theorem decompose_Check_L2_le {a0 : Norm} {v76 : Int} {r1008 : (List Int)} : Le (decompose_Check_L2_e a0 v76 r1008) (decompose_Check_L2 a0 v76 r1008) := by
  unfold decompose_Check_L2_e decompose_Check_L2
  repeat' (first | apply hangul_Kind_le | apply Le.bind | apply Le.cond | apply Le.gM | apply Le.elim | apply Le.loop | with_reducible exact Le.refl _ | intro _)
def ordering_usable_e (a0 : (List Span)) : Option ((List Span)) :=
(ordering_Check_e a0).bind fun t4 =>
 cond (!decide (t4 = 0)) (some []) (some a0)
theorem ordering_usable_le {a0 : (List Span)} : Le (ordering_usable_e a0) (ordering_usable a0) := by
  unfold ordering_usable_e ordering_usable
  repeat' (first | apply ordering_Check_le | apply Le.bind | apply Le.cond | apply Le.gM | apply Le.elim | apply Le.loop | with_reducible exact Le.refl _ | intro _)
def slices_BinarySearchFunc_api_Span_api_Span_int_L0_e (a0 : (List Span)) (a2 : Span → Int → Option (Int)) (a1 : Int) (v9 : Int) (v10 : Int) : Option (Stp (Int × Int) ((Int))) :=
 cond (decide (v9 < v10)) (((idx a0 (wi ((wu (wi (v9 + v10))) / 2 ^ 1))).bind fun t27 =>
(a2 t27 a1).bind fun t30 =>
 cond (decide (t30 < 0)) (some (wi ((wi ((wu (wi (v9 + v10))) / 2 ^ 1)) + 1), v10)) (some (v9, wi ((wu (wi (v9 + v10))) / 2 ^ 1)))).bind fun (y2 : Int × Int) =>
 some (.next (y2.1, y2.2))) (some (.done v9))
theorem slices_BinarySearchFunc_api_Span_api_Span_int_L0_le {a0 : (List Span)} {a2 a2' : Span → Int → Option (Int)} (ha2 : ∀ x0 x1, Le (a2 x0 x1) (a2' x0 x1)) {a1 : Int} {v9 : Int} {v10 : Int} : Le (slices_BinarySearchFunc_api_Span_api_Span_int_L0_e a0 a2 a1 v9 v10) (slices_BinarySearchFunc_api_Span_api_Span_int_L0 a0 a2' a1 v9 v10) := by
  unfold slices_BinarySearchFunc_api_Span_api_Span_int_L0_e slices_BinarySearchFunc_api_Span_api_Span_int_L0
  repeat' (first | exact ha2 _ _  | apply Le.bind | apply Le.cond | apply Le.gM | apply Le.elim | apply Le.loop | with_reducible exact Le.refl _ | intro _)
def slices_BinarySearchFunc_api_Span_api_Span_int_e (a0 : (List Span)) (a1 : Int) (a2 : Span → Int → Option (Int)) : Option (Int × Bool) :=
(iterE (fun (x : Int × Int) => slices_BinarySearchFunc_api_Span_api_Span_int_L0_e a0 a2 a1 x.1 x.2) (0, (a0.length : Int))).bind fun (y1 : Int) =>
(pv (decide (y1 < (a0.length : Int)))).bind fun b39 =>
(gM b39 (idx a0 y1)).bind fun t43 =>
(gM b39 (a2 t43 a1)).bind fun t46 =>
 some (y1, (b39 && (decide (t46 = 0))))
theorem slices_BinarySearchFunc_api_Span_api_Span_int_le {a0 : (List Span)} {a1 : Int} {a2 a2' : Span → Int → Option (Int)} (ha2 : ∀ x0 x1, Le (a2 x0 x1) (a2' x0 x1)) : Le (slices_BinarySearchFunc_api_Span_api_Span_int_e a0 a1 a2) (slices_BinarySearchFunc_api_Span_api_Span_int a0 a1 a2') := by
  unfold slices_BinarySearchFunc_api_Span_api_Span_int_e slices_BinarySearchFunc_api_Span_api_Span_int
  repeat' (first | apply slices_BinarySearchFunc_api_Span_api_Span_int_L0_le | exact ha2 _ _  | apply Le.bind | apply Le.cond | apply Le.gM | apply Le.elim | apply Le.loop | with_reducible exact Le.refl _ | intro _)
def ordering_class_1_e (a0 : Span) (a1 : Int) : Option (Int) :=
 cond (decide (a0.Hi < a1)) (some (-1)) (cond (decide (a1 < a0.Lo)) (some 1) (some 0))
theorem ordering_class_1_le {a0 : Span} {a1 : Int} : Le (ordering_class_1_e a0 a1) (ordering_class_1 a0 a1) := by
  unfold ordering_class_1_e ordering_class_1
  repeat' (first | apply Le.bind | apply Le.cond | apply Le.gM | apply Le.elim | apply Le.loop | with_reducible exact Le.refl _ | intro _)
def ordering_class_e (a0 : (List Span)) (a1 : Int) : Option (Int) :=
(slices_BinarySearchFunc_api_Span_api_Span_int_e a0 a1 (fun x0 x1 => ordering_class_1_e x0 x1)).bind fun t10 =>
 cond (!t10.2) (some 0) ((idx a0 t10.1).bind fun t17 =>
 some t17.Value)
theorem ordering_class_le {a0 : (List Span)} {a1 : Int} : Le (ordering_class_e a0 a1) (ordering_class a0 a1) := by
  unfold ordering_class_e ordering_class
  repeat' (first | apply ordering_class_1_le | apply slices_BinarySearchFunc_api_Span_api_Span_int_le | apply Le.bind | apply Le.cond | apply Le.gM | apply Le.elim | apply Le.loop | with_reducible exact Le.refl _ | intro _)
def ordering_runs_1_L0_e (a1 : (List Int)) (a2 : (List Span)) (v4 : Int) (v10 : Int) : Option (Stp (Int × Int) ((Int))) :=
 cond (decide (v10 < (a1.length : Int))) (((idx a1 v10).bind fun t13 =>
(ordering_class_e a2 t13).bind fun t17 =>
((pv (!(decide (t17 = 0)))).bind fun b22 =>
 cond (b22 && (decide (v4 < 0))) (some v10) ((pv (decide (t17 = 0))).bind fun b29 =>
 cond (b29 && (decide (0 ≤ v4))) (none) (some v4))).bind fun (y3 : Int) =>
 some y3).bind fun (y2 : Int) =>
 some (.next (y2, wi (v10 + 1)))) (some (.done v4))
theorem ordering_runs_1_L0_le {a1 : (List Int)} {a2 : (List Span)} {v4 : Int} {v10 : Int} : Le (ordering_runs_1_L0_e a1 a2 v4 v10) (ordering_runs_1_L0 a1 a2 v4 v10) := by
  unfold ordering_runs_1_L0_e ordering_runs_1_L0
  repeat' (first | apply ordering_class_le | apply Le.bind | apply Le.cond | apply Le.gM | apply Le.elim | apply Le.loop | with_reducible exact Le.refl _ | intro _)
def ordering_runs_1_e (a1 : (List Int)) (a2 : (List Span)) : Option (Unit) :=
(iterE (fun (x : Int × Int) => ordering_runs_1_L0_e a1 a2 x.1 x.2) ((-1), 0)).bind fun (y1 : Int) =>
 cond (decide (0 ≤ y1)) (none) (some ())
theorem ordering_runs_1_le {a1 : (List Int)} {a2 : (List Span)} : Le (ordering_runs_1_e a1 a2) (ordering_runs_1 a1 a2) := by
  unfold ordering_runs_1_e ordering_runs_1
  repeat' (first | apply ordering_runs_1_L0_le | apply Le.bind | apply Le.cond | apply Le.gM | apply Le.elim | apply Le.loop | with_reducible exact Le.refl _ | intro _)
def ordering_Runs_e (a0 : List Span) (a1 : List Int) : Option (List Range) :=
(ordering_usable_e a0).bind fun t6 => (ordering_runs_1_e a1 t6).bind fun _ => some []
theorem ordering_Runs_le {a0 : List Span} {a1 : List Int} : Le (ordering_Runs_e a0 a1) (ordering_Runs a0 a1) := by
  unfold ordering_Runs_e ordering_Runs
  repeat' (first | apply ordering_runs_1_le | apply ordering_usable_le | apply Le.bind | apply Le.cond | apply Le.gM | apply Le.elim | apply Le.loop | with_reducible exact Le.refl _ | intro _)
def decompose_measure_L0_e (a0 : Norm) : Option (Stp (Unit) ((Unit))) :=
 cond (decide (0 < (a0.Decomp.length : Int))) ((idx a0.Decomp (0 : Int)).bind fun t15 =>
 none) (some (.done ()))
theorem decompose_measure_L0_le {a0 : Norm} : Le (decompose_measure_L0_e a0) (decompose_measure_L0 a0) := by
  unfold decompose_measure_L0_e decompose_measure_L0
  repeat' (first | apply Le.bind | apply Le.cond | apply Le.gM | apply Le.elim | apply Le.loop | with_reducible exact Le.refl _ | intro _)
def decompose_measure_e (a0 : Norm) : Option (Bool × Bool) :=
(iterE (fun (_ : Unit) => decompose_measure_L0_e a0) ()).bind fun (y1 : Unit) =>
 some (false, false)
theorem decompose_measure_le {a0 : Norm} : Le (decompose_measure_e a0) (decompose_measure a0) := by
  unfold decompose_measure_e decompose_measure
  repeat' (first | apply decompose_measure_L0_le | apply Le.bind | apply Le.cond | apply Le.gM | apply Le.elim | apply Le.loop | with_reducible exact Le.refl _ | intro _)
def decompose_Check_e (a0 : Norm) : Option (Int) :=
(ordering_Check_e a0.Classes).bind fun t15 =>
 cond (!decide (t15 = 0)) (some t15) ((mapping_Check_e a0.Decomp).bind fun t21 =>
 cond (!decide (t21 = 0)) (some t21) ((cpset_Valid_e a0.Excluded).bind fun t27 =>
 cond (!t27) (some 11) ((iterE (fun (x : Int) => decompose_Check_L0_e a0 x) 1).bind fun (y1 : (Unit) ⊕ (Int)) =>
 y1.elim (fun y1 => (iterE (fun (x : Int) => decompose_Check_L1_e a0 x) 0).bind fun (y2 : (Unit) ⊕ (Int)) =>
 y2.elim (fun y2 => (iterE (fun (x : Int × (List Int)) => decompose_Check_L2_e a0 x.1 x.2) (0, [])).bind fun (y3 : ((List Int)) ⊕ (Int)) =>
 y3.elim (fun y3 => (ordering_Runs_e a0.Classes y3).bind fun t96 =>
 cond (decide (0 < (t96.length : Int))) (some 11) ((decompose_measure_e a0).bind fun t101 =>
 cond t101.1 (some 12) (cond t101.2 (some 13) (some 0)))) (fun y3 => some y3)) (fun y2 => some y2)) (fun y1 => some y1))))
theorem decompose_Check_le {a0 : Norm} : Le (decompose_Check_e a0) (decompose_Check a0) := by
  unfold decompose_Check_e decompose_Check
  repeat' (first | apply cpset_Valid_le | apply decompose_Check_L0_le | apply decompose_Check_L1_le | apply decompose_Check_L2_le | apply decompose_measure_le | apply mapping_Check_le | apply ordering_Check_le | apply ordering_Runs_le | apply Le.bind | apply Le.cond | apply Le.gM | apply Le.elim | apply Le.loop | with_reducible exact Le.refl _ | intro _)
def colltable_table_with_L0_e (y1 : (List Span)) (v20 : Int) (k3000_8 : Int) : Option (Stp (Int × Int) ((Int))) :=
 cond (decide (v20 < (y1.length : Int))) ((idx y1 v20).bind fun t22 =>
 some (.next (wi (v20 + 1), max k3000_8 t22.Value))) (some (.done k3000_8))
theorem colltable_table_with_L0_le {y1 : (List Span)} {v20 : Int} {k3000_8 : Int} : Le (colltable_table_with_L0_e y1 v20 k3000_8) (colltable_table_with_L0 y1 v20 k3000_8) := by
  unfold colltable_table_with_L0_e colltable_table_with_L0
  repeat' (first | apply Le.bind | apply Le.cond | apply Le.gM | apply Le.elim | apply Le.loop | with_reducible exact Le.refl _ | intro _)
def colltable_table_with_e (a0 : Colltable_table) (a1 : Norm) : Option (Colltable_table) :=
(decompose_Check_e a1).bind fun t8 =>
(cond (decide (t8 = 0)) (some a1.Classes) (some a0.classes)).bind fun (y1 : (List Span)) =>
(iterE (fun (x : Int × Int) => colltable_table_with_L0_e y1 x.1 x.2) (0, a0.top)).bind fun (y2 : Int) =>
 some ({ c := ({ Entries := a0.c.Entries, Groups := a0.c.Groups, Base := a0.c.Base, Second := a0.c.Second, Third := a0.c.Third } : Collation), entries := a0.entries, longest := a0.longest, classes := y1, top := y2 } : Colltable_table)
theorem colltable_table_with_le {a0 : Colltable_table} {a1 : Norm} : Le (colltable_table_with_e a0 a1) (colltable_table_with a0 a1) := by
  unfold colltable_table_with_e colltable_table_with
  repeat' (first | apply colltable_table_with_L0_le | apply decompose_Check_le | apply Le.bind | apply Le.cond | apply Le.gM | apply Le.elim | apply Le.loop | with_reducible exact Le.refl _ | intro _)
def colltable_table_find_e (a0 : Colltable_table) (a1 : (List Int)) : Option ((List Element) × Bool) :=
(pv (decide ((a1.length : Int) = 0))).bind fun b11 =>
 cond (b11 || (decide (a0.longest < (a1.length : Int)))) (some ([], false)) ((colltable_keyOf_e a1).bind fun t26 =>
 some (mgetD a0.entries t26 [], mhas a0.entries t26))
theorem colltable_table_find_le {a0 : Colltable_table} {a1 : (List Int)} : Le (colltable_table_find_e a0 a1) (colltable_table_find a0 a1) := by
  unfold colltable_table_find_e colltable_table_find
  repeat' (first | apply colltable_keyOf_le | apply Le.bind | apply Le.cond | apply Le.gM | apply Le.elim | apply Le.loop | with_reducible exact Le.refl _ | intro _)
def colltable_table_match_L0_e (a1 : (List Int)) (a0 : Colltable_table) (v7 : Int) : Option (Stp (Int) ((Int))) :=
 cond (decide (0 < v7)) ((slc a1 0 v7).bind fun t31 =>
(colltable_table_find_e a0 t31).bind fun t32 =>
 cond t32.2 (some (.done v7)) (some (.next (wi (v7 - 1))))) (some (.done v7))
theorem colltable_table_match_L0_le {a1 : (List Int)} {a0 : Colltable_table} {v7 : Int} : Le (colltable_table_match_L0_e a1 a0 v7) (colltable_table_match_L0 a1 a0 v7) := by
  unfold colltable_table_match_L0_e colltable_table_match_L0
  repeat' (first | apply colltable_table_find_le | apply Le.bind | apply Le.cond | apply Le.gM | apply Le.elim | apply Le.loop | with_reducible exact Le.refl _ | intro _)
def colltable_table_implicit_e (a0 : Colltable_table) (a1 : Int) : Option ((List Element)) :=
(codepoint_Valid_e a1).bind fun t6 =>
 cond (!t6) (some []) ((divM wi a1 32768).bind fun t14 =>
(remM a1 32768).bind fun t28 =>
 some [({ Primary := wi (a0.c.Base + t14), Secondary := a0.c.Second, Tertiary := a0.c.Third, Variable := false } : Element), ({ Primary := wi (32768 + t28), Secondary := 0, Tertiary := 0, Variable := false } : Element)])
theorem colltable_table_implicit_le {a0 : Colltable_table} {a1 : Int} : Le (colltable_table_implicit_e a0 a1) (colltable_table_implicit a0 a1) := by
  unfold colltable_table_implicit_e colltable_table_implicit
  repeat' (first | apply codepoint_Valid_le | apply Le.bind | apply Le.cond | apply Le.gM | apply Le.elim | apply Le.loop | with_reducible exact Le.refl _ | intro _)
def sort_Search_L0_e (a1 : Int → Option (Bool)) (v5 : Int) (v6 : Int) : Option (Stp (Int × Int) ((Int))) :=
 cond (decide (v5 < v6)) (((a1 (wi ((wu (wi (v5 + v6))) / 2 ^ 1))).bind fun t20 =>
 cond (!t20) (some (wi ((wi ((wu (wi (v5 + v6))) / 2 ^ 1)) + 1), v6)) (some (v5, wi ((wu (wi (v5 + v6))) / 2 ^ 1)))).bind fun (y2 : Int × Int) =>
 some (.next (y2.1, y2.2))) (some (.done v5))
theorem sort_Search_L0_le {a1 a1' : Int → Option (Bool)} (ha1 : ∀ x0, Le (a1 x0) (a1' x0)) {v5 : Int} {v6 : Int} : Le (sort_Search_L0_e a1 v5 v6) (sort_Search_L0 a1' v5 v6) := by
  unfold sort_Search_L0_e sort_Search_L0
  repeat' (first | exact ha1 _  | apply Le.bind | apply Le.cond | apply Le.gM | apply Le.elim | apply Le.loop | with_reducible exact Le.refl _ | intro _)
def sort_Search_e (a0 : Int) (a1 : Int → Option (Bool)) : Option (Int) :=
(iterE (fun (x : Int × Int) => sort_Search_L0_e a1 x.1 x.2) (0, a0)).bind fun (y1 : Int) =>
 some y1
theorem sort_Search_le {a0 : Int} {a1 a1' : Int → Option (Bool)} (ha1 : ∀ x0, Le (a1 x0) (a1' x0)) : Le (sort_Search_e a0 a1) (sort_Search a0 a1') := by
  unfold sort_Search_e sort_Search
  repeat' (first | apply sort_Search_L0_le | exact ha1 _  | apply Le.bind | apply Le.cond | apply Le.gM | apply Le.elim | apply Le.loop | with_reducible exact Le.refl _ | intro _)
def colltable_table_class_1_e (a0 : Int) (a1 : Colltable_table) (a2 : Int) : Option (Bool) :=
(idx a1.classes a0).bind fun t10 =>
 some (decide (a2 ≤ t10.Hi))
theorem colltable_table_class_1_le {a0 : Int} {a1 : Colltable_table} {a2 : Int} : Le (colltable_table_class_1_e a0 a1 a2) (colltable_table_class_1 a0 a1 a2) := by
  unfold colltable_table_class_1_e colltable_table_class_1
  repeat' (first | apply Le.bind | apply Le.cond | apply Le.gM | apply Le.elim | apply Le.loop | with_reducible exact Le.refl _ | intro _)
def colltable_table_class_e (a0 : Colltable_table) (a1 : Int) : Option (Int) :=
(sort_Search_e (a0.classes.length : Int) (fun x0 => colltable_table_class_1_e x0 a0 a1)).bind fun t12 =>
(pv (decide (t12 < (a0.classes.length : Int)))).bind fun b20 =>
(gM b20 (idx a0.classes t12)).bind fun t26 =>
 cond (b20 && (decide (t26.Lo ≤ a1))) ((idx a0.classes t12).bind fun t37 =>
 some t37.Value) (some 0)
theorem colltable_table_class_le {a0 : Colltable_table} {a1 : Int} : Le (colltable_table_class_e a0 a1) (colltable_table_class a0 a1) := by
  unfold colltable_table_class_e colltable_table_class
  repeat' (first | apply colltable_table_class_1_le | apply sort_Search_le | apply Le.bind | apply Le.cond | apply Le.gM | apply Le.elim | apply Le.loop | with_reducible exact Le.refl _ | intro _)
def colltable_table_match_L1_e (a0 : Colltable_table) (v7 : Int) (v10 : Int) (v11 : Int) (r3001 : (List Int)) : Option (Stp (Int × Int × Int × (List Int)) ((Int × (List Int)))) :=
(pv (decide (v11 < (r3001.length : Int)))).bind fun b50 =>
 cond (b50 && (decide (v10 < a0.top))) (((idx r3001 v11).bind fun t62 =>
(colltable_table_class_e a0 t62).bind fun t66 =>
 cond (decide (t66 = 0)) (some (.inl (()))) (cond (decide (t66 ≤ v10)) (some (.inr ((v7, v10, r3001)))) ((slc r3001 0 v7).bind fun t77 =>
(app t77 [t62]).bind fun r80_4 =>
(colltable_table_find_e a0 r80_4).bind fun t81 =>
 cond (!t81.2) (some (.inr ((v7, t66, r3001)))) ((slc r3001 (wi (v7 + 1)) (wi (v11 + 1))).bind fun t92 =>
(slc r3001 v7 v11).bind fun t96 =>
(idx (cpM r3001 (wi (v7 + 1)) (wi (v11 + 1)) v7 v11) v7).bind fun t101 =>
(setM (cpM r3001 (wi (v7 + 1)) (wi (v11 + 1)) v7 v11) v7 t62).bind fun r3001_5 =>
 some (.inr ((wi (v7 + 1), v10, r3001_5))))))).bind fun (y3 : (Unit) ⊕ (Int × Int × (List Int))) =>
 y3.elim (fun y3 => some (.done (v7, r3001))) (fun y3 => some (.next (y3.1, y3.2.1, wi (v11 + 1), y3.2.2)))) (some (.done (v7, r3001)))
theorem colltable_table_match_L1_le {a0 : Colltable_table} {v7 : Int} {v10 : Int} {v11 : Int} {r3001 : (List Int)} : Le (colltable_table_match_L1_e a0 v7 v10 v11 r3001) (colltable_table_match_L1 a0 v7 v10 v11 r3001) := by
  unfold colltable_table_match_L1_e colltable_table_match_L1
  repeat' (first | apply colltable_table_class_le | apply colltable_table_find_le | apply Le.bind | apply Le.cond | apply Le.gM | apply Le.elim | apply Le.loop | with_reducible exact Le.refl _ | intro _)
def colltable_table_match_e (a0 : Colltable_table) (a1 : (List Int)) : Option (Int × (List Element) × Bool × (List Int)) :=
(iterE (fun (x : Int) => colltable_table_match_L0_e a1 a0 x) (min a0.longest (a1.length : Int))).bind fun (y1 : Int) =>
 cond (decide (y1 = 0)) ((idx a1 (0 : Int)).bind fun t42 =>
(colltable_table_implicit_e a0 t42).bind fun t44 =>
 some (1, t44, false, a1)) ((iterE (fun (x : Int × Int × Int × (List Int)) => colltable_table_match_L1_e a0 x.1 x.2.1 x.2.2.1 x.2.2.2) (y1, 0, y1, a1)).bind fun (y2 : Int × (List Int)) =>
(slc y2.2 0 y2.1).bind fun t108 =>
(colltable_table_find_e a0 t108).bind fun t109 =>
 some (y2.1, t109.1, true, y2.2))
theorem colltable_table_match_le {a0 : Colltable_table} {a1 : (List Int)} : Le (colltable_table_match_e a0 a1) (colltable_table_match a0 a1) := by
  unfold colltable_table_match_e colltable_table_match
  repeat' (first | apply colltable_table_find_le | apply colltable_table_implicit_le | apply colltable_table_match_L0_le | apply colltable_table_match_L1_le | apply Le.bind | apply Le.cond | apply Le.gM | apply Le.elim | apply Le.loop | with_reducible exact Le.refl _ | intro _)
def slices_Clone_api_Element_api_Element_e (a0 : (List Element)) : Option ((List Element)) :=
 app [] a0
theorem slices_Clone_api_Element_api_Element_le {a0 : (List Element)} : Le (slices_Clone_api_Element_api_Element_e a0) (slices_Clone_api_Element_api_Element a0) := by
  unfold slices_Clone_api_Element_api_Element_e slices_Clone_api_Element_api_Element
  repeat' (first | apply Le.bind | apply Le.cond | apply Le.gM | apply Le.elim | apply Le.loop | with_reducible exact Le.refl _ | intro _)
def colltable_Step_e (a0 : Norm) (a1 : Collation) (a2 : (List Int)) : Option (Int × (List Int) × (List Element)) :=
 cond (decide ((a2.length : Int) = 0)) (some (0, [], [])) ((slices_Clone_int_int_e a2).bind fun t17 =>
(colltable_made_e a1).bind fun t20 =>
(colltable_table_with_e t20 a0).bind fun t22 =>
(colltable_table_match_e t22 t17).bind fun t24 =>
(slc t24.2.2.2 t24.1 (t24.2.2.2.length : Int)).bind fun t35 =>
(slices_Clone_api_Element_api_Element_e t24.2.1).bind fun t37 =>
 some (t24.1, t35, t37))
theorem colltable_Step_le {a0 : Norm} {a1 : Collation} {a2 : (List Int)} : Le (colltable_Step_e a0 a1 a2) (colltable_Step a0 a1 a2) := by
  unfold colltable_Step_e colltable_Step
  repeat' (first | apply colltable_made_le | apply colltable_table_match_le | apply colltable_table_with_le | apply slices_Clone_api_Element_api_Element_le | apply slices_Clone_int_int_le | apply Le.bind | apply Le.cond | apply Le.gM | apply Le.elim | apply Le.loop | with_reducible exact Le.refl _ | intro _)
def ref01_Compare_L0_e (a0 : (List Int)) (a1 : (List Int)) (v5 : Int) : Option (Stp (Int) ((Unit) ⊕ (Int))) :=
(pv (decide (v5 < (a0.length : Int)))).bind fun b10 =>
 cond (b10 && (decide (v5 < (a1.length : Int)))) ((idx a0 v5).bind fun t20 =>
(idx a1 v5).bind fun t24 =>
 cond (decide (t20 < t24)) (some (.done (.inr ((-1))))) ((idx a0 v5).bind fun t29 =>
(idx a1 v5).bind fun t33 =>
 cond (decide (t33 < t29)) (some (.done (.inr (1)))) (some (.next (wi (v5 + 1)))))) (some (.done (.inl (()))))
theorem ref01_Compare_L0_le {a0 : (List Int)} {a1 : (List Int)} {v5 : Int} : Le (ref01_Compare_L0_e a0 a1 v5) (ref01_Compare_L0 a0 a1 v5) := by
  unfold ref01_Compare_L0_e ref01_Compare_L0
  repeat' (first | apply Le.bind | apply Le.cond | apply Le.gM | apply Le.elim | apply Le.loop | with_reducible exact Le.refl _ | intro _)
def ref01_Compare_e (a0 : (List Int)) (a1 : (List Int)) : Option (Int) :=
(iterE (fun (x : Int) => ref01_Compare_L0_e a0 a1 x) 0).bind fun (y1 : (Unit) ⊕ (Int)) =>
 y1.elim (fun y1 => cond (decide ((a0.length : Int) < (a1.length : Int))) (some (-1)) (cond (decide ((a1.length : Int) < (a0.length : Int))) (some 1) (some 0))) (fun y1 => some y1)
theorem ref01_Compare_le {a0 : (List Int)} {a1 : (List Int)} : Le (ref01_Compare_e a0 a1) (ref01_Compare a0 a1) := by
  unfold ref01_Compare_e ref01_Compare
  repeat' (first | apply ref01_Compare_L0_le | apply Le.bind | apply Le.cond | apply Le.gM | apply Le.elim | apply Le.loop | with_reducible exact Le.refl _ | intro _)
def ref01_Equal_e (a0 : (List Int)) (a1 : (List Int)) : Option (Bool) :=
(ref01_Compare_e a0 a1).bind fun t7 =>
 some (decide (t7 = 0))
theorem ref01_Equal_le {a0 : (List Int)} {a1 : (List Int)} : Le (ref01_Equal_e a0 a1) (ref01_Equal a0 a1) := by
  unfold ref01_Equal_e ref01_Equal
  repeat' (first | apply ref01_Compare_le | apply Le.bind | apply Le.cond | apply Le.gM | apply Le.elim | apply Le.loop | with_reducible exact Le.refl _ | intro _)
def ref43_Same_L0_e (a0 : (List Element)) (a1 : (List Element)) (v5 : Int) : Option (Stp (Int) ((Unit) ⊕ (Bool))) :=
 cond (decide (v5 < (a0.length : Int))) ((idx a0 v5).bind fun t19 =>
(idx a1 v5).bind fun t23 =>
 cond (!decide (t19 = t23)) (some (.done (.inr (false)))) (some (.next (wi (v5 + 1))))) (some (.done (.inl (()))))
theorem ref43_Same_L0_le {a0 : (List Element)} {a1 : (List Element)} {v5 : Int} : Le (ref43_Same_L0_e a0 a1 v5) (ref43_Same_L0 a0 a1 v5) := by
  unfold ref43_Same_L0_e ref43_Same_L0
  repeat' (first | apply Le.bind | apply Le.cond | apply Le.gM | apply Le.elim | apply Le.loop | with_reducible exact Le.refl _ | intro _)
def ref43_Same_e (a0 : (List Element)) (a1 : (List Element)) : Option (Bool) :=
 cond (!decide ((a0.length : Int) = (a1.length : Int))) (some false) ((iterE (fun (x : Int) => ref43_Same_L0_e a0 a1 x) 0).bind fun (y1 : (Unit) ⊕ (Bool)) =>
 y1.elim (fun y1 => some true) (fun y1 => some y1))
theorem ref43_Same_le {a0 : (List Element)} {a1 : (List Element)} : Le (ref43_Same_e a0 a1) (ref43_Same a0 a1) := by
  unfold ref43_Same_e ref43_Same
  repeat' (first | apply ref43_Same_L0_le | apply Le.bind | apply Le.cond | apply Le.gM | apply Le.elim | apply Le.loop | with_reducible exact Le.refl _ | intro _)
def law43_alive_e  : Option (Bool) :=
(colltable_Step_e ({ Classes := ({ Classes := [({ Lo := 769, Hi := 769, Value := 230 } : Span), ({ Lo := 803, Hi := 803, Value := 220 } : Span)], Decomp := [], Excluded := (({ Ranges := [] }) : Set) } : Norm).Classes, Decomp := ({ Classes := [({ Lo := 769, Hi := 769, Value := 230 } : Span), ({ Lo := 803, Hi := 803, Value := 220 } : Span)], Decomp := [], Excluded := (({ Ranges := [] }) : Set) } : Norm).Decomp, Excluded := ({ Ranges := (({ Classes := [({ Lo := 769, Hi := 769, Value := 230 } : Span), ({ Lo := 803, Hi := 803, Value := 220 } : Span)], Decomp := [], Excluded := (({ Ranges := [] }) : Set) } : Norm).Excluded).Ranges } : Set) } : Norm) ({ Entries := [({ Codes := [97], Elements := [({ Primary := 7, Secondary := 1, Tertiary := 1, Variable := false } : Element)] } : Entry), ({ Codes := [97, 769], Elements := [({ Primary := 8, Secondary := 1, Tertiary := 1, Variable := false } : Element)] } : Entry)], Groups := [], Base := 100, Second := 1, Third := 1 } : Collation) [97, 803, 769]).bind fun t28 =>
(colltable_Check_e ({ Entries := [({ Codes := [97], Elements := [({ Primary := 7, Secondary := 1, Tertiary := 1, Variable := false } : Element)] } : Entry), ({ Codes := [97, 769], Elements := [({ Primary := 8, Secondary := 1, Tertiary := 1, Variable := false } : Element)] } : Entry)], Groups := [], Base := 100, Second := 1, Third := 1 } : Collation)).bind fun t33 =>
(pv (decide (t33 = 0))).bind fun b35 =>
(pv (b35 && (decide (t28.1 = 2)))).bind fun b39 =>
(gM b39 (ref01_Equal_e t28.2.1 [803])).bind fun t42 =>
(pv (b39 && t42)).bind fun b44 =>
(gM b44 (ref43_Same_e t28.2.2 [({ Primary := 8, Secondary := 1, Tertiary := 1, Variable := false } : Element)])).bind fun t47 =>
 some (b44 && t47)
theorem law43_alive_le  : Le (law43_alive_e ) (law43_alive ) := by
  unfold law43_alive_e law43_alive
  repeat' (first | apply colltable_Check_le | apply colltable_Step_le | apply ref01_Equal_le | apply ref43_Same_le | apply Le.bind | apply Le.cond | apply Le.gM | apply Le.elim | apply Le.loop | with_reducible exact Le.refl _ | intro _)
end Go.M

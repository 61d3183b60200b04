/- The layer of abstract values: what a temporary holds, said once; every rule of it is proved from the model. Conditions: none. -/
import Derived.Test.YtgeaoceiacdadaaDoorAv18
import Derived.Test.YtgeaoceiacdadaaDoorTop
import Derived.Test.YtgeaoceiacdadaaDoorM
set_option linter.unusedSimpArgs false
set_option linter.unusedVariables false
set_option linter.unnecessarySimpa false
namespace Go.AV
open Go.RowKit Go.M

/-! ## Control: one way out -/

/-- The code is left by e, and what is known then includes S2. -/
def outK (E : Env) (e : Exit) (S2 : AState) : Exit → AState → Prop := fun e' S' => e' = e ∧ Weak E S' S2

def roundK {X Y : Type} (E : Env) (T : X → AState) (y : Y) (K : Exit → AState → Prop) : Stp X Y → Exit → AState → Prop
  | .next x', .normal, S => Weak E S (T x')
  | .next _, _, _ => False
  | .done _, .normal, _ => False
  | .done y', e, S => y' = y → K e S

section
variable {P : Program} {r : Option Nat} {E : Env} {S S2 : AState} {K : Exit → AState → Prop}

theorem out_mk {e : Exit} (h : Weak E S S2) : outK E e S2 e S := ⟨rfl, h⟩

theorem avc_then {c rest : Code} (h1 : Avc P r E c (outK E .normal S2) S) (h2 : Avc P r E rest K S2) : Avc P r E (.seq c rest) K S := fun a w hs =>
  wpIn_seq (wpIn_mono (h1 a w hs) fun e a' w' ⟨S', hK, hs'⟩ => by
    obtain ⟨rfl, hw⟩ := hK
    exact h2 a' w' (hw a' w' hs'))
theorem avc_jump {c rest : Code} {e : Exit} (h1 : Avc P r E c (outK E e S2) S) (he : e ≠ .normal) (h2 : K e S2) : Avc P r E (.seq c rest) K S := fun a w hs =>
  wpIn_seq (wpIn_mono (h1 a w hs) fun e' a' w' ⟨S', hK, hs'⟩ => by
    obtain ⟨rfl, hw⟩ := hK
    cases e' with
    | normal => exact absurd rfl he
    | _ => exact ⟨S2, h2, hw a' w' hs'⟩)
theorem avc_tail {c : Code} {e : Exit} (h1 : Avc P r E c (outK E e S2) S) (h2 : K e S2) : Avc P r E c K S := fun a w hs =>
  wpIn_mono (h1 a w hs) fun e' a' w' ⟨S', hK, hs'⟩ => by
    obtain ⟨rfl, hw⟩ := hK
    exact ⟨S2, h2, hw a' w' hs'⟩

theorem avc_loopM {c : Code} {X Y : Type} {body : X → Option (Stp X Y)} {x0 : X} {y : Y} (T : X → AState) (h : loopM body x0 = some y) (hS : Weak E S (T x0))
    (round : ∀ x s, body x = some s → Avc P r E c (roundK E T y K s) (T x)) : Avc P r E (.loop c) K S := by
  obtain ⟨n, hn⟩ := loopM_some.1 h
  refine avc_loop (ι := Nat × X) (fun q => T q.2) (fun q => iter body q.1 q.2 = some y) (fun q => q.1) (n, x0) hn hS ?_
  rintro ⟨m, x⟩ hm
  cases m with
  | zero => cases hm
  | succ m =>
    simp only [iter] at hm
    cases hb : body x with
    | none => rw [hb] at hm; cases hm
    | some s =>
      rw [hb] at hm
      refine avc_mono (round x s hb) fun e S' hk => ?_
      cases s with
      | next x' =>
        cases e with
        | normal => exact ⟨(m, x'), hm, Nat.lt_succ_self m, hk⟩
        | _ => exact hk.elim
      | done y' =>
        have hy : y' = y := by simpa using hm
        cases e with
        | normal => exact hk.elim
        | _ => exact hk hy
end

/-! ## Data of types -/

def ds (s : Str) : DV := .v (.string ⟨s.toArray⟩)

/-- How the values of a type are laid. -/
structure En (α : Type) where
  dv : α → DV
  size : Nat
  ok : ∀ x, okDV size (dv x) = true

def En.cells {α : Type} (e : En α) (x : α) : List DV := flatDV (e.dv x)
theorem okDV_len {size : Nat} {d : DV} (h : okDV size d = true) : (flatDV d).length = size := by
  cases d <;> simp_all [okDV, flatDV]
theorem En.len {α : Type} (e : En α) (x : α) : (e.cells x).length = e.size := okDV_len (e.ok x)

def enInt (k : IntKind) : En Int := ⟨fun n => .v (.int k n), 1, fun _ => rfl⟩
def eI : En Int := ⟨di, 1, fun _ => rfl⟩
def e8 : En Int := ⟨dby, 1, fun _ => rfl⟩
def eU : En Int := ⟨fun n => .v (.int .u64 n), 1, fun _ => rfl⟩
def eB : En Bool := ⟨db, 1, fun _ => rfl⟩
def eS : En Str := ⟨ds, 1, fun _ => rfl⟩
/-- The cells of a list. -/
def En.all {α : Type} (e : En α) (l : List α) : List DV := l.flatMap e.cells
def dsl {α : Type} (e : En α) (l : List α) : DV := .sl e.size (e.all l)
def eL {α : Type} (e : En α) : En (List α) := ⟨dsl e, 1, fun _ => rfl⟩

section
variable {α : Type} (e : En α)
theorem all_len (l : List α) : (e.all l).length = l.length * e.size := by
  induction l with
  | nil => simp [En.all]
  | cons x l ih => simp only [En.all, List.flatMap_cons, List.length_append, List.length_cons] at ih ⊢; rw [ih, e.len, Nat.add_mul]; omega
theorem all_append (l m : List α) : e.all (l ++ m) = e.all l ++ e.all m := by simp [En.all]
theorem all_drop (l : List α) (k : Nat) : (e.all l).drop (k * e.size) = e.all (l.drop k) := by
  induction k generalizing l with
  | zero => simp
  | succ k ih =>
    cases l with
    | nil => simp [En.all]
    | cons x l =>
      rw [List.drop_succ_cons, ← ih l]
      show (e.cells x ++ e.all l).drop ((k + 1) * e.size) = _
      have : (k + 1) * e.size = (e.cells x).length + k * e.size := by rw [e.len, Nat.add_mul]; omega
      rw [this, List.drop_length_add_append]
theorem all_take (l : List α) (k : Nat) : (e.all l).take (k * e.size) = e.all (l.take k) := by
  induction k generalizing l with
  | zero => simp [En.all]
  | succ k ih =>
    cases l with
    | nil => simp [En.all]
    | cons x l =>
      rw [List.take_succ_cons]
      show (e.cells x ++ e.all l).take ((k + 1) * e.size) = e.cells x ++ e.all (l.take k)
      have : (k + 1) * e.size = (e.cells x).length + k * e.size := by rw [e.len, Nat.add_mul]; omega
      rw [this, List.take_length_add_append, ih]
theorem all_get {l : List α} {k : Nat} {x : α} (h : l[k]? = some x) (off : Nat) (ho : off < e.size) : (e.all l)[k * e.size + off]? = (e.cells x)[off]? := by
  have h1 : (e.all l)[k * e.size + off]? = ((e.all l).drop (k * e.size))[off]? := by rw [List.getElem?_drop]
  rw [h1, all_drop]
  obtain ⟨hlt, hx⟩ := List.getElem?_eq_some_iff.1 h
  rw [List.drop_eq_getElem_cons hlt, hx]
  show (e.cells x ++ e.all (l.drop (k + 1)))[off]? = _
  rw [List.getElem?_append_left (by rw [e.len]; exact ho)]
theorem all_sub {l : List α} {k : Nat} {x : α} (h : l[k]? = some x) (off n : Nat) (ho : off + n ≤ e.size) : ((e.all l).drop (k * e.size + off)).take n = ((e.cells x).drop off).take n := by
  rw [← List.drop_drop, all_drop]
  obtain ⟨hlt, hx⟩ := List.getElem?_eq_some_iff.1 h
  rw [List.drop_eq_getElem_cons hlt, hx]
  show ((e.cells x ++ e.all (l.drop (k + 1))).drop off).take n = _
  rw [List.drop_append_of_le_length (by rw [e.len]; omega), List.take_append_of_le_length (by simp only [List.length_drop, e.len]; omega)]
theorem all_set {l : List α} {k : Nat} {x : α} (h : l[k]? = some x) {y : α} {off : Nat} {d : DV} (ho : off < e.size) (hy : (e.cells x).set off d = e.cells y) : (e.all l).set (k * e.size + off) d = e.all (l.set k y) := by
  induction l generalizing k with
  | nil => simp at h
  | cons z l ih =>
    cases k with
    | zero =>
      simp at h; subst h
      show (e.cells z ++ e.all l).set (0 * e.size + off) d = e.cells y ++ e.all l
      rw [Nat.zero_mul, Nat.zero_add, List.set_append_left _ _ (by rw [e.len]; exact ho), hy]
    | succ k =>
      simp at h
      show (e.cells z ++ e.all l).set ((k + 1) * e.size + off) d = e.cells z ++ e.all (l.set k y)
      rw [← ih h]
      have : (k + 1) * e.size + off = (e.cells z).length + (k * e.size + off) := by rw [e.len, Nat.add_mul]; omega
      rw [this, List.set_append_right _ _ (by omega)]
      simp
theorem all_spl {l : List α} {k : Nat} (h : k < l.length) (y : α) : spl (e.all l) (k * e.size) (e.cells y) = e.all (l.set k y) := by
  unfold spl
  rw [all_take, e.len, show k * e.size + e.size = (k + 1) * e.size by rw [Nat.add_mul]; omega, all_drop, List.set_eq_take_append_cons_drop, if_pos h]
  simp only [En.all, List.flatMap_append, List.flatMap_cons, List.append_assoc]
end

theorem idx_some {α : Type} {l : List α} {i : Int} {v : α} (h : idx l i = some v) : 0 ≤ i ∧ i = (i.toNat : Int) ∧ i.toNat < l.length ∧ l[i.toNat]? = some v := by
  unfold idx at h
  split at h
  · rename_i hi
    exact ⟨hi, by omega, (List.getElem?_eq_some_iff.1 h).1, h⟩
  · cases h

theorem str_mk (s : Str) : (⟨s.toArray⟩ : ByteArray).toList = s := by rw [ByteArray.toList_eq]
end Go.AV

/- Loops over lists, in plain terms. Conditions: none. -/
import Derived.Test.YtgeaoceiacdadaaDoorMir
set_option linter.unusedSimpArgs false
set_option linter.unusedVariables false
set_option linter.unnecessarySimpa false
namespace Go.M
open Go.AV

/-! ## Plain lemmas on the mirrors' operations -/
theorem wi_id {n : Int} (h1 : -9223372036854775808 ≤ n) (h2 : n ≤ 9223372036854775807) : wi n = n := w64 h1 h2
theorem wi_nat {k : Nat} (h : k ≤ 9223372036854775807) : wi (k : Int) = (k : Int) := wi_id (by omega) (by omega)
theorem wi_succ {k : Nat} (h : k + 1 ≤ 9223372036854775807) : wi ((k : Int) + 1) = ((k + 1 : Nat) : Int) := by rw [wi_id (by omega) (by omega)]; omega
theorem wi_pred {k : Nat} (h : k + 1 ≤ 9223372036854775807) : wi (((k + 1 : Nat) : Int) - 1) = (k : Int) := by rw [wi_id (by omega) (by omega)]; omega
theorem lt_t {k n : Nat} (h : k < n) : decide ((k : Int) < (n : Int)) = true := by simp; omega
theorem lt_f {k n : Nat} (h : n ≤ k) : decide ((k : Int) < (n : Int)) = false := by simp; omega
theorem idx_nat {α : Type} {l : List α} {k : Nat} (h : k < l.length) : idx l (k : Int) = some l[k] := by
  unfold idx; rw [if_pos (by omega)]; simp [h]
theorem idx_zero {α : Type} {x : α} {l : List α} : idx (x :: l) 0 = some x := rfl
theorem setM_nat {α : Type} {l : List α} {k : Nat} (h : k < l.length) (x : α) : setM l (k : Int) x = some (l.set k x) := by
  unfold setM; rw [if_pos ⟨by omega, by simpa using h⟩]; simp
theorem app_ok {α : Type} {l m : List α} (h : l.length + m.length ≤ 4294967296) : app l m = some (l ++ m) := by
  unfold app; rw [if_pos (by unfold LIM; exact h)]
theorem mkM_ok {α : Type} {z : α} {n : Nat} (h : n ≤ 4294967296) : mkM z (n : Int) = some (List.replicate n z) := by
  unfold mkM; rw [if_pos ⟨by omega, by unfold LIM; simpa using h⟩]; simp
theorem slc_ok {α : Type} {l : List α} {a b : Nat} (h1 : a ≤ b) (h2 : b ≤ l.length) : slc l (a : Int) (b : Int) = some ((l.take b).drop a) := by
  unfold slc; rw [if_pos ⟨by omega, by omega, by simpa using h2⟩]; simp
theorem slc_take {α : Type} {l : List α} {b : Nat} (h2 : b ≤ l.length) : slc l 0 (b : Int) = some (l.take b) := by
  have := slc_ok (l := l) (a := 0) (b := b) (by omega) h2
  simpa using this
theorem slc_drop {α : Type} {l : List α} {a : Nat} (h2 : a ≤ l.length) : slc l (a : Int) (l.length : Int) = some (l.drop a) := by
  have := slc_ok (l := l) (a := a) (b := l.length) h2 (Nat.le_refl _)
  simpa using this
theorem pv_bind {α β : Type} (x : α) (f : α → Option β) : (pv x).bind f = f x := rfl
theorem gM_t {α : Type} [Inhabited α] (m : Option α) : gM true m = m := rfl
theorem gM_f {α : Type} [Inhabited α] (m : Option α) : gM false m = some default := rfl
theorem some_bind {α β : Type} (x : α) (f : α → Option β) : (some x).bind f = f x := rfl

/-! ## Rounds -/
theorem loopM_next {X Y : Type} {body : X → Option (Stp X Y)} {x x' : X} (h : body x = some (.next x')) : loopM body x = loopM body x' := by
  rw [loopM_eq, h]
theorem loopM_done {X Y : Type} {body : X → Option (Stp X Y)} {x : X} {y : Y} (h : body x = some (.done y)) : loopM body x = some y := by
  rw [loopM_eq, h]
theorem z0 : ((0 : Nat) : Int) = 0 := rfl

/-! ## Loops over a list -/
def runL {A B Y : Type} (g : Nat → A → B → Option (Stp B Y)) (fin : B → Y) : List A → Nat → B → Option Y
  | [], _, b => some (fin b)
  | x :: xs, k, b => match g k x b with
    | none => none
    | some (.next b') => runL g fin xs (k + 1) b'
    | some (.done y) => some y

theorem loop_list {A B X Y : Type} (l : List A) (mk : Nat → B → X) {body : X → Option (Stp X Y)} (g : Nat → A → B → Option (Stp B Y)) (fin : B → Y)
    (hstep : ∀ k b (h : k < l.length), body (mk k b) = match g k l[k] b with
      | none => none
      | some (.next b') => some (.next (mk (k + 1) b'))
      | some (.done y) => some (.done y))
    (hend : ∀ b, body (mk l.length b) = some (.done (fin b))) : ∀ (n k : Nat) (b : B), k + n = l.length → loopM body (mk k b) = runL g fin (l.drop k) k b := by
  intro n
  induction n with
  | zero =>
    intro k b hk
    have : k = l.length := by omega
    subst this
    rw [loopM_eq, hend, List.drop_length]
    rfl
  | succ n ih =>
    intro k b hk
    have hlt : k < l.length := by omega
    rw [loopM_eq, hstep k b hlt, List.drop_eq_getElem_cons hlt]
    simp only [runL]
    cases hg : g k l[k] b with
    | none => rfl
    | some s =>
      cases s with
      | next b' => exact ih (k + 1) b' (by omega)
      | done y => rfl
theorem loop_list0 {A B X Y : Type} (l : List A) (mk : Nat → B → X) {body : X → Option (Stp X Y)} (g : Nat → A → B → Option (Stp B Y)) (fin : B → Y)
    (hstep : ∀ k b (h : k < l.length), body (mk k b) = match g k l[k] b with
      | none => none
      | some (.next b') => some (.next (mk (k + 1) b'))
      | some (.done y) => some (.done y))
    (hend : ∀ b, body (mk l.length b) = some (.done (fin b))) (b : B) : loopM body (mk 0 b) = runL g fin l 0 b := by
  have := loop_list l mk g fin hstep hend l.length 0 b (by omega)
  simpa using this

/-- A search: the first element that is found decides. -/
theorem runL_find {A Y : Type} (p : A → Bool) (yes : Nat → A → Y) (no : Y) (l : List A) : ∀ k : Nat, runL (B := Unit) (fun k x _ => if p x then some (.done (yes k x)) else some (.next ())) (fun _ => no) l k () =
    some (match l.findIdx? p with
      | some j => (match l[j]? with | some x => yes (k + j) x | none => no)
      | none => no) := by
  induction l with
  | nil => intro k; rfl
  | cons x l ih =>
    intro k
    simp only [runL, List.findIdx?_cons]
    by_cases hp : p x = true
    · simp [hp]
    · simp only [hp, Bool.false_eq_true, if_false]
      rw [ih (k + 1)]
      cases hf : l.findIdx? p with
      | none => simp
      | some j => simp [Nat.add_assoc, Nat.add_comm 1 j]
/-- A check: all pass, or the answer is 'bad'. -/
theorem runL_all {A Y : Type} (p : A → Bool) (bad good : Y) (l : List A) : ∀ k : Nat, runL (B := Unit) (fun _ x _ => if p x then some (.next ()) else some (.done bad)) (fun _ => good) l k () = some (if l.all p then good else bad) := by
  induction l with
  | nil => intro k; rfl
  | cons x l ih =>
    intro k
    simp only [runL, List.all_cons]
    by_cases hp : p x = true
    · simp [hp, ih (k + 1)]
    · simp [hp]
/-- Accumulating: each element turns the state. -/
theorem runL_fold {A B Y : Type} (f : B → A → B) (fin : B → Y) (l : List A) : ∀ (k : Nat) (b : B), runL (fun _ x b => some (.next (f b x))) fin l k b = some (fin (l.foldl f b)) := by
  induction l with
  | nil => intro k b; rfl
  | cons x l ih => intro k b; simp only [runL, List.foldl_cons]; exact ih (k + 1) (f b x)
theorem runL_congr {A B Y : Type} {g g' : Nat → A → B → Option (Stp B Y)} {fin : B → Y} {l : List A} (h : ∀ k x b, x ∈ l → g k x b = g' k x b) : ∀ k b, runL g fin l k b = runL g' fin l k b := by
  induction l with
  | nil => intro k b; rfl
  | cons x l ih =>
    intro k b
    simp only [runL, h k x b (by simp)]
    cases g' k x b with
    | none => rfl
    | some s =>
      cases s with
      | next b' => exact ih (fun k y b hy => h k y b (by simp [hy])) (k + 1) b'
      | done y => rfl
end Go.M

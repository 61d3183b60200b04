/- Comparing lists of numbers, in plain Lean. Conditions: none. -/
set_option linter.unusedSimpArgs false
set_option linter.unusedVariables false
set_option linter.unnecessarySimpa false
namespace Go.Plain
def cmpI (x y : Int) : Int := if x < y then -1 else if y < x then 1 else 0
def cmpL : List Int → List Int → Int
  | [], [] => 0
  | [], _ :: _ => -1
  | _ :: _, [] => 1
  | x :: xs, y :: ys => if x < y then -1 else if y < x then 1 else cmpL xs ys
theorem drop_at {l : List Int} {k : Nat} (h : k < l.length) : l.drop k = l.getD k 0 :: l.drop (k + 1) := by
  rw [List.drop_eq_getElem_cons h]; simp [List.getD, h]
theorem cmp_step {a b : List Int} {k : Nat} (ha : k < a.length) (hb : k < b.length) :
    cmpL (a.drop k) (b.drop k) = if a.getD k 0 < b.getD k 0 then -1 else if b.getD k 0 < a.getD k 0 then 1 else cmpL (a.drop (k + 1)) (b.drop (k + 1)) := by
  rw [drop_at ha, drop_at hb, cmpL]
theorem cmp_end {a b : List Int} {k : Nat} (ha : k ≤ a.length) (hb : k ≤ b.length) (h : ¬ (k < a.length ∧ k < b.length)) :
    cmpL (a.drop k) (b.drop k) = cmpI a.length b.length := by
  unfold cmpI
  by_cases h1 : k < a.length
  · have : b.drop k = [] := List.drop_of_length_le (by omega)
    rw [this, drop_at h1, cmpL, if_neg (by omega), if_pos (by omega)]
  · have e : a.drop k = [] := List.drop_of_length_le (by omega)
    by_cases h2 : k < b.length
    · rw [e, drop_at h2, cmpL, if_pos (by omega)]
    · have : b.drop k = [] := List.drop_of_length_le (by omega)
      rw [this, e, cmpL, if_neg (by omega), if_neg (by omega)]
theorem cmpL_zero : ∀ {a b : List Int}, cmpL a b = 0 ↔ a = b
  | [], [] => by simp [cmpL]
  | [], _ :: _ => by simp [cmpL]
  | _ :: _, [] => by simp [cmpL]
  | x :: xs, y :: ys => by
    simp only [cmpL, List.cons.injEq]
    split
    · constructor
      · intro h; simp at h
      · rintro ⟨rfl, _⟩; omega
    · split
      · constructor
        · intro h; simp at h
        · rintro ⟨rfl, _⟩; omega
      · rw [cmpL_zero]
        constructor
        · intro h; exact ⟨by omega, h⟩
        · exact fun h => h.2
end Go.Plain

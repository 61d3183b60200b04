/- What slices.Repeat makes, in plain Lean. Conditions: none. -/
import Derived.Test.YtdelglnpgpaaiaaAv14
import Derived.Test.YtdelglnpgpaaiaaPlain
set_option linter.unusedSimpArgs false
set_option linter.unusedVariables false
set_option linter.unnecessarySimpa false
namespace Go.AV
open Go.Plain
def rp (v : Int) (k n : Nat) : List DV := List.replicate k (di v) ++ List.replicate (n - k) (di 0)
theorem zeros_int (n : Nat) : zerosDV (.int .i64 0) n = List.replicate n (di 0) := by
  have : ((Value.int .i64 0).cells.toList.map DV.v) = [di 0] := rfl
  simp only [zerosDV, this]
  induction n with
  | zero => rfl
  | succ n ih => simp [List.replicate_succ, ih]
theorem rp_len (v : Int) {k n : Nat} (h : k ≤ n) : (rp v k n).length = n * 1 := by simp [rp]; omega
theorem rp_make (v : Int) (n : Nat) : spl (zerosDV (.int .i64 0) n) 0 (([v].map di).take (min 1 n * 1)) = rp v (min 1 n) n := by
  rw [zeros_int]
  cases n with
  | zero => rfl
  | succ n =>
    have : min 1 (n + 1) = 1 := by omega
    simp [this, spl, rp, List.replicate_succ]
theorem rp_step (v : Int) {k n : Nat} (h : k ≤ n) : spl (rp v k n) (k * 1) ((((rp v k n).drop (0 * 1)).take (k * 1)).take (min k (n - k) * 1)) = rp v (k + min k (n - k)) n := by
  have e1 : (rp v k n).take k = List.replicate k (di v) := by simp [rp]
  simp only [Nat.mul_one, List.drop_zero, Nat.zero_mul, e1, spl]
  rw [List.take_replicate, List.length_replicate]
  have e3 : min (min k (n - k)) k = min k (n - k) := by omega
  rw [e3, rp, List.drop_append, List.drop_replicate, List.drop_replicate, List.length_replicate]
  have e4 : k - (k + min k (n - k)) = 0 := by omega
  have e5 : n - k - (k + min k (n - k) - k) = n - (k + min k (n - k)) := by omega
  rw [e4, e5, rp, ← List.replicate_append_replicate]
  simp
theorem rp_done (v : Int) (n : Nat) : rp v n n = (List.replicate n v).map di := by simp [rp]
end Go.AV

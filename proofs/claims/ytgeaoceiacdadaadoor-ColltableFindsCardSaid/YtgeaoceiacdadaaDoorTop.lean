/- The layer of abstract values: what a temporary holds, said once; every rule of it is proved from the model. Conditions: none. -/
import Derived.Test.YtgeaoceiacdadaaDoorAv14
set_option linter.unusedSimpArgs false
set_option linter.unusedVariables false
set_option linter.unnecessarySimpa false
namespace Go.AV
open Go.RowKit
/-- All that is there when the call begins. -/
def oldI (w : World) : Im := fun b _ => b < w.heap.size

theorem rep_ints {k : IntKind} {w : World} {a : Option Addr} {len cap : Nat} {zs : List Int}
    (h : (a = none ∧ len = 0 ∧ cap = 0 ∧ zs = []) ∨ ∃ x, a = some x ∧ len ≤ cap ∧ cap ≤ maxLen ∧ zs.length = cap ∧ (∀ i, i < zs.length → w.cell? (x.add i) = some (.int k (zs.getD i 0))) ∧ ∀ n ∈ zs, (Lit.int k n).wf = true) :
    Rep w (oldI w) (.slice a len cap) (.sl 1 ((zs.take len).map fun n => .v (.int k n))) := by
  by_cases h0 : len = 0
  · subst h0; exact .nil _ _ _
  rcases h with ⟨_, h, _⟩ | ⟨x, rfl, hl, hm, hz, hc, _⟩
  · exact absurd h h0
  obtain ⟨b, off, spot⟩ := x
  have hspot : spot = none := by
    have := hc 0 (by omega)
    simp only [Addr.add, if_true, World.cell?] at this
    cases spot with
    | none => rfl
    | some s => cases hb : w.heap[b]? with
      | none => simp [hb] at this
      | some o => cases o <;> simp [hb] at this
  subst hspot
  have hadd : ∀ i, (⟨b, off, none⟩ : Addr).add i = ⟨b, off + i, none⟩ := fun i => by
    unfold Addr.add; split
    · rename_i e; subst e; rfl
    · rfl
  refine .sl b off len cap 1 ((zs.take len).map fun n => .int k n) _ (by omega) hl (by simp; omega) (by simp) (fun j y hj => ?_) (fun y hy => ?_) (fun j y d hj hd => ?_)
  · simp only [List.getElem?_map, Option.map_eq_some_iff] at hj
    obtain ⟨n, hn, rfl⟩ := hj
    rw [List.getElem?_take] at hn
    split at hn
    · obtain ⟨hlt, hv⟩ := List.getElem?_eq_some_iff.1 hn
      have := hc j hlt
      rw [hadd, List.getD_eq_getElem?_getD, hn] at this
      refine ⟨this, ?_⟩
      show b < w.heap.size
      unfold World.cell? at this
      cases hb : w.heap[b]? with
      | none => simp [hb] at this
      | some o => exact (Array.getElem?_eq_some_iff.1 hb).1
    · cases hn
  · simp only [List.mem_map] at hy
    obtain ⟨n, _, rfl⟩ := hy
    rfl
  · simp only [List.getElem?_map, Option.map_eq_some_iff] at hj hd
    obtain ⟨n, hn, rfl⟩ := hj
    obtain ⟨m, hm', rfl⟩ := hd
    rw [hn] at hm'
    cases hm'
    exact .v _

theorem top_law {P : Program} {f : FuncId} {ds : List DV} (hc : Contract P f ds [.v (.bool true)]) {w : World} {vs : List Value} (hG : GlI (gdOf P) w (oldI w)) (hr : Reps w (oldI w) vs ds) :
    Calls P f vs.toArray w fun e w' => e = .returned (.bool true) ∧ Below w.heap.size w w' := by
  refine (hc.2 w (oldI w) vs (fun _ _ h => h) hG hr).mono ?_
  rintro e w' ⟨v, I', rfl, hb, _, _, hret⟩
  refine ⟨?_, hb⟩
  have h : Rep w' I' v (.v (.bool true)) := hret
  cases h
  rfl

theorem reps_nil (w : World) (I : Im) : Reps w I [] [] := Pw.nil
theorem reps_cons {w : World} {I : Im} {v : Value} {vs : List Value} {d : DV} {ds : List DV} (h : Rep w I v d) (hs : Reps w I vs ds) : Reps w I (v :: vs) (d :: ds) := by
  refine ⟨by simp [hs.1], fun j x y hx hy => ?_⟩
  cases j with
  | zero => simp at hx hy; subst hx; subst hy; exact h
  | succ j => exact hs.2 j x y (by simpa using hx) (by simpa using hy)
end Go.AV
namespace Go.AV
theorem lq {a b : Nat} (h : Nat.ble a b = true) : a ≤ b := Nat.le_of_ble_eq_true h
end Go.AV

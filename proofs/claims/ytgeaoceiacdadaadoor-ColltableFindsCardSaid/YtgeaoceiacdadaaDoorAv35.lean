/- The layer of abstract values: what a temporary holds, said once; every rule of it is proved from the model. Conditions: none. -/
import Derived.Test.YtgeaoceiacdadaaDoorAv34
set_option linter.unusedSimpArgs false
set_option linter.unusedVariables false
set_option linter.unnecessarySimpa false
namespace Go.AV
open Go.RowKit Go.M

theorem BlkOk.lt {w : World} {I : Im} {ρ : Nat → Value} {M : Nat → Prop} {i b : Nat} {x : Blk} (h : BlkOk w I ρ M i x) (hne : x ≠ .none) (hb : blockOf (ρ i) = some b) : b < w.heap.size := by
  cases x with
  | none => exact absurd rfl hne
  | row e size sh cells =>
    obtain ⟨hM, n, xs, hl, hown, _⟩ := h
    rcases hown.2 with ⟨hn, _⟩ | ⟨g, cap, cur, hv, hB, hh, _⟩
    · rw [hn] at hb; simp [blockOf] at hb
    · rw [hv] at hb; simp [blockOf] at hb; subst hb; exact (Array.getElem?_eq_some_iff.1 hh).1
  | box e cells =>
    obtain ⟨b', arr, hv, hB, hh, _⟩ := h
    rw [hv] at hb; simp [blockOf] at hb; subst hb; exact (Array.getElem?_eq_some_iff.1 hh).1
  | map es =>
    obtain ⟨b', ents, clock, hv, hB, hh, _⟩ := h
    rw [hv] at hb; simp [blockOf] at hb; subst hb; exact (Array.getElem?_eq_some_iff.1 hh).1
  | win e size k cells =>
    obtain ⟨A, n, c, xs, hv, _, _, _, _, _, hA⟩ := h
    rcases hA with ⟨hA, _⟩ | ⟨b', off, arr, hA, hB, hh, _⟩
    · rw [hv, hA] at hb; simp [blockOf] at hb
    · rw [hv, hA] at hb; simp [blockOf] at hb; subst hb; exact (Array.getElem?_eq_some_iff.1 hh).1

/-- A call that turns nothing and hands nothing back. -/
theorem gc_still {P : Program} {f : FuncId} {args : List Cap} {T : List (Nat × Blk)} {keep : List Nat} (hfn : ∃ fn, P.funcs[f]? = some fn ∧ (fn.name == "runtime.NumGoroutine") = false ∧ fn.body.isNone = false)
    (h : ∀ (w : World) (I : Im) (ρ : Nat → Value) (vs : List Value), Frag w I ρ T → Pw (HoldsC w I ρ) vs args → Calls P f vs.toArray w fun en w' => en = .returned (.tuple #[]) ∧ w' = w) : GC P f args T keep [] T := by
  refine ⟨hfn, fun w I ρ vs hI hG hfrag hvs => (h w I ρ vs hfrag hvs).mono ?_⟩
  rintro en w' ⟨rfl, rfl⟩
  refine ⟨_, I, ρ, rfl, Chg.refl _ _, same_refl _ _, fun _ _ h => h, fun b j hi => ⟨hI b j hi, .inl hi⟩, hfrag, ⟨[], rfl, Pw.nil⟩, fun b hb => ?_, fun _ _ _ => rfl⟩
  obtain ⟨id, hne, hbo⟩ := hb
  exact ⟨(hfrag.ok id).lt hne hbo, .inr ⟨id, hne, hbo⟩⟩

/-- The same, of an empty window. -/
theorem gc_still_win {P : Program} {f : FuncId} {e size : Nat} {fv : DV} (hp : 0 < size) (hfn : ∃ fn, P.funcs[f]? = some fn ∧ (fn.name == "runtime.NumGoroutine") = false ∧ fn.body.isNone = false)
    (h : ∀ (A : Option Addr) (c : Nat) (u : Value) (w : World), Calls P f #[.slice A 0 c, u] w fun en w' => en = .returned (.tuple #[]) ∧ w' = w) : GC P f [.row 0, .d fv] [(0, .win e size 0 [])] [0] [] [(0, .win e size 0 [])] :=
  gc_still hfn fun w I ρ vs hf hv => by
    match vs, hv.1 with
    | [v, u], _ =>
      have h0 : v = ρ 0 := hv.2 0 v (.row 0) rfl rfl
      have hk := hf.ok 0
      have hlk : look Blk.none [(0, Blk.win e size 0 [])] 0 = .win e size 0 [] := rfl
      rw [hlk] at hk
      obtain ⟨A, n, c, xs, hρ, _, _, hl, _⟩ := hk
      have hn : n = 0 := by
        simp only [List.length_nil] at hl
        rcases Nat.eq_zero_or_pos n with h | h
        · exact h
        · have := Nat.mul_pos h hp; omega
      subst hn
      rw [h0, hρ]
      exact h A c u w
end Go.AV

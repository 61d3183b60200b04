/- The layer of abstract values: what a temporary holds, said once; every rule of it is proved from the model. Conditions: none. -/
import Derived.Test.YtgeaoceiacdadaaDoorAv26
set_option linter.unusedSimpArgs false
set_option linter.unusedVariables false
set_option linter.unnecessarySimpa false
namespace Go.AV
open Go.RowKit Go.M

/-! ## Map keys that are structs or arrays -/
theorem findAsk_gen {P : Program} {κ : Type} [DecidableEq κ] {kt : TypeId} {kv : κ → Value} {w : World} (h0 : ∀ a b, (Op.equal kt (kv a) (kv b)).run P w = .ok (decide (a = b)) w) (a : κ) : ∀ (es : List MapEntry) (ks : List κ) (i : Nat), Pw (fun (x : MapEntry) k => x.key = kv k) es ks →
    (Instr.findAsking kt (kv a) es i).run P w = .ok (findAt a ks es i) w
  | [], ks, i, h => by
    cases ks with
    | nil => simp [Instr.findAsking, findAt]
    | cons k ks => have := h.1; simp at this
  | x :: es, ks, i, h => by
    cases ks with
    | nil => have := h.1; simp at this
    | cons k ks =>
      obtain ⟨h1, h2⟩ := pw_tail h
      have ih := findAsk_gen h0 a es ks (i + 1) h2
      simp only [Instr.findAsking, Sem.run_bind, h1, h0, Result.andThen_ok, findAt]
      by_cases e : a = k
      · simp [e]
      · simp [e, ih]
theorem findNow_agg {td : TypeDesc} {k : Value} {es : List MapEntry} (h0 : ∀ x ∈ es, Instr.sameNow td k x.key = none) (i : Nat) : Instr.findNow td k es i = if es = [] then some none else none := by
  cases es with
  | nil => rfl
  | cons x es => simp [Instr.findNow, h0 x (by simp)]
theorem keyAgg {P : Program} {κ : Type} [DecidableEq κ] {kt : TypeId} {en : En κ} {kv : κ → Value} {vals : κ → List Value} {td : TypeDesc} (hu : P.underlying kt = some td) (hT : EqTy P kt en) (hv : ∀ a, en.dv a = .agg ((vals a).map DV.v)) (hk : ∀ a, kv a = .agg (vals a).toArray) (h1 : ∀ a, (vals a).all Value.oneCell' = true)
    (hs : ∀ a, (vals a).all (fun x => Instr.sameBits 9999 x x) = true) (hc : ∀ a b w, (Instr.checkKey b 10000 kt (kv a)).run P w = .ok () w) : KeyTy P kt kv where
  same := fun a => by
    rw [hk]
    have : ∀ (l : List Value), l.all (fun x => Instr.sameBits 9999 x x) = true → (l.zip l).all (fun (x, y) => Instr.sameBits 9999 x y) = true := by
      intro l
      induction l with
      | nil => intro _; rfl
      | cons x l ih => intro h; simp only [List.all_cons, Bool.and_eq_true] at h; simp only [List.zip_cons_cons, List.all_cons, Bool.and_eq_true]; exact ⟨h.1, ih h.2⟩
    show Instr.sameBits (9999 + 1) _ _ = true
    rw [Instr.sameBits]
    simp [this _ (hs a)]
  check := hc
  find := fun a ks es w h => by
    have heq : ∀ a b, (Op.equal kt (kv a) (kv b)).run P w = .ok (decide (a = b)) w := by
      intro a b
      have ra : Rep w (fun _ _ => False) (kv a) (en.dv a) := by rw [hk, hv]; exact rep_vals _ (h1 a)
      have rb : Rep w (fun _ _ => False) (kv b) (en.dv b) := by rw [hk, hv]; exact rep_vals _ (h1 b)
      exact (hT.eq a b _ _ w _ ra rb).2
    have hn := findNow_agg (td := td) (k := kv a) (es := es) (fun x _ => by rw [hk]; cases td <;> rfl) 0
    simp only [Instr.findKey, Sem.run_bind, run_underlying hu, Result.andThen_ok, hn]
    by_cases he : es = []
    · subst he
      cases ks with
      | nil => simp [findAt]
      | cons k ks => have := h.1; simp at this
    · simp only [he, if_false]
      exact findAsk_gen heq a es ks 0 h
end Go.AV

/- The layer of abstract values: what a temporary holds, said once; every rule of it is proved from the model. Conditions: none. -/
import Derived.Test.YtgeaoceiacdadaaDoorAv25
import Derived.ChangeArms
import Derived.WideShapes
set_option linter.unusedSimpArgs false
set_option linter.unusedVariables false
set_option linter.unnecessarySimpa false
namespace Go.AV
open Go.RowKit Go.M

/-! ## From the arguments that came in to data -/

/-- Whatever reads as a value of type t is laid as en says. -/
def Opens (P : Program) (t : TypeId) {α : Type} (en : En α) (ok : α → Prop) : Prop :=
  ∀ (H : Type) (enc : TypeId × Value → H) (w : World) (base : Nat) (spare : Nat → Bool) (held : Bool) (fuel : Nat) (cs : List Value) (x : DataW H × List MemPlace), DataW.trod enc P w base spare held fuel t cs = some x →
    ∃ a, ok a ∧ Reps w (oldI w) cs (en.cells a) ∧ ∀ c ∈ cs, c.oneCell' = true

section
variable {P : Program} {t : TypeId}

theorem opens_i64 (ht : P.underlying t = some (.int .i64)) : Opens P t eI (fun n => -9223372036854775808 ≤ n ∧ n ≤ 9223372036854775807) := by
  intro H enc w base spare held fuel cs x h
  obtain ⟨n, rfl, _, hw⟩ := DataW.trod_int ht h
  refine ⟨n, ?_, Pw.cons (.v _) Pw.nil, by simp [Value.oneCell']⟩
  simp only [Lit.wf, Bool.and_eq_true, decide_eq_true_eq] at hw
  exact hw
theorem opens_u8 (ht : P.underlying t = some (.int .u8)) : Opens P t e8 (fun n => 0 ≤ n ∧ n < 256) := by
  intro H enc w base spare held fuel cs x h
  obtain ⟨n, rfl, _, hw⟩ := DataW.trod_int ht h
  refine ⟨n, ?_, Pw.cons (.v _) Pw.nil, by simp [Value.oneCell']⟩
  simp only [Lit.wf, Bool.and_eq_true, decide_eq_true_eq] at hw
  have h2 : n ≤ 255 := hw.2
  exact ⟨hw.1, by omega⟩
theorem opens_bool (ht : P.underlying t = some .bool) : Opens P t eB (fun _ => True) := by
  intro H enc w base spare held fuel cs x h
  obtain ⟨b, rfl, _⟩ := DataW.trod_bool ht h
  exact ⟨b, trivial, Pw.cons (.v _) Pw.nil, by simp [Value.oneCell']⟩
theorem opens_str (ht : P.underlying t = some .string) : Opens P t eS (fun s => s.length ≤ 9223372036854775807) := by
  intro H enc w base spare held fuel cs x h
  obtain ⟨s, rfl, _, hs⟩ := DataW.trod_string ht h
  refine ⟨s.data.toList, hs, Pw.cons ?_ Pw.nil, by simp [Value.oneCell']⟩
  have : ds s.data.toList = .v (.string s) := by simp [ds]
  show Rep _ _ _ (ds s.data.toList)
  rw [this]
  exact .v _

theorem reps_flat_list {w : World} {I : Im} {α : Type} (en : En α) : ∀ (css : List (List Value)) (l : List α), Pw (fun cs a => Reps w I cs (en.cells a)) css l → Reps w I css.flatten (en.all l)
  | [], l, h => by cases l with
    | nil => exact Pw.nil
    | cons a l => have := h.1; simp at this
  | cs :: css, l, h => by cases l with
    | nil => have := h.1; simp at this
    | cons a l =>
      obtain ⟨h1, h2⟩ := pw_tail h
      exact Pw.append h1 (reps_flat_list en css l h2)

theorem choose_list {α β : Type} {R : Nat → α → β → Prop} (n : Nat) (h : ∀ i, i < n → ∃ a b, R i a b) : ∃ (as : List α) (bs : List β), as.length = n ∧ bs.length = n ∧ ∀ i a b, as[i]? = some a → bs[i]? = some b → R i a b := by
  induction n with
  | zero => exact ⟨[], [], rfl, rfl, fun i a b h => by simp at h⟩
  | succ n ih =>
    obtain ⟨as, bs, h1, h2, h3⟩ := ih fun i hi => h i (by omega)
    obtain ⟨a, b, hab⟩ := h n (by omega)
    refine ⟨as ++ [a], bs ++ [b], by simp [h1], by simp [h2], fun i x y hx hy => ?_⟩
    by_cases hi : i < n
    · rw [List.getElem?_append_left (by omega)] at hx hy; exact h3 i x y hx hy
    · have : i = n := by
        have := (List.getElem?_eq_some_iff.1 hx).1
        simp [h1] at this; omega
      subst this
      rw [List.getElem?_append_right (by omega), h1] at hx
      rw [List.getElem?_append_right (by omega), h2] at hy
      simp at hx hy; subst hx; subst hy; exact hab

theorem flatten_get {α : Type} {css : List (List α)} {n : Nat} (h : ∀ cs ∈ css, cs.length = n) {j : Nat} {x : α} (hj : css.flatten[j]? = some x) : ∃ cs, css[j / n]? = some cs ∧ cs[j % n]? = some x ∧ 0 < n := by
  induction css generalizing j with
  | nil => simp at hj
  | cons cs css ih =>
    have hl := h cs (by simp)
    rw [List.flatten_cons] at hj
    by_cases hlt : j < cs.length
    · rw [List.getElem?_append_left hlt] at hj
      have hn : 0 < n := by omega
      refine ⟨cs, ?_, ?_, hn⟩
      · rw [Nat.div_eq_of_lt (by omega)]; rfl
      · rw [Nat.mod_eq_of_lt (by omega)]; exact hj
    · rw [List.getElem?_append_right (by omega)] at hj
      obtain ⟨c2, h1, h2, hn⟩ := ih (fun c hc => h c (by simp [hc])) hj
      rw [hl] at h1 h2
      have e : j = (j - n) + n := by omega
      refine ⟨c2, ?_, ?_, hn⟩
      · rw [e, Nat.add_div_right _ hn]; simpa using h1
      · rw [e, Nat.add_mod_right]; exact h2

theorem opens_slice {e : TypeId} {α : Type} {en : En α} {ok : α → Prop} (ht : P.underlying t = some (.slice e)) (hc : P.cellsOf e = en.size) (hp : 0 < en.size) (he : Opens P e en ok) :
    Opens P t (eL en) (fun l => l.length ≤ 9223372036854775807 ∧ ∀ x ∈ l, ok x) := by
  intro H enc w base spare held fuel cs x h
  rcases DataW.trod_slice ht h with ⟨rfl, _⟩ | ⟨a, len, cap, elems, rest, n, _, rfl, _, hb, hl, hm, hlen, hel, _, _⟩
  · exact ⟨[], ⟨by simp, by simp⟩, Pw.cons (.nil _ _ _) Pw.nil, by simp [Value.oneCell']⟩
  · obtain ⟨css, l, h1, h2, h3⟩ := choose_list (R := fun i (cs' : List Value) (y : α) => ok y ∧ Reps w (oldI w) cs' (en.cells y) ∧ (∀ c ∈ cs', c.oneCell' = true) ∧ cs'.length = en.size ∧ ∀ j, j < en.size → w.cell? ((a.add (i * en.size)).add j) = cs'[j]?) len (fun i hi => by
      have h1 := hel i hi
      have h2 : elems[i]? = some (elems[i]'(by omega)) := List.getElem?_eq_getElem (by omega)
      rw [h2, Option.bind_eq_some_iff] at h1
      obtain ⟨cs', hcs, hy⟩ := h1
      obtain ⟨y, q1, q2, q3⟩ := he _ _ _ _ _ _ _ _ _ hy
      rw [hc] at hcs
      obtain ⟨_, r1, r2⟩ := World.cells?_some hcs
      exact ⟨cs', y, q1, q2, q3, r1, r2⟩)
    have hlens : ∀ cs ∈ css, cs.length = en.size := fun cs hcs => by
      obtain ⟨i, hi⟩ := List.getElem?_of_mem hcs
      have hil := (List.getElem?_eq_some_iff.1 hi).1
      have : l[i]? = some (l[i]'(by omega)) := List.getElem?_eq_getElem (by omega)
      exact (h3 i cs _ hi this).2.2.2.1
    refine ⟨l, ⟨by unfold maxLen at hm; omega, fun y hy => ?_⟩, Pw.cons ?_ Pw.nil, by simp [Value.oneCell']⟩
    · obtain ⟨i, hi⟩ := List.getElem?_of_mem hy
      have hil := (List.getElem?_eq_some_iff.1 hi).1
      have : css[i]? = some (css[i]'(by omega)) := List.getElem?_eq_getElem (by omega)
      exact (h3 i _ y this hi).1
    · show Rep w (oldI w) _ (dsl en l)
      by_cases h0 : len = 0
      · subst h0
        have : l = [] := List.eq_nil_of_length_eq_zero h2
        subst this
        exact .nil _ _ _
      · obtain ⟨b, off, spot⟩ := a
        have hcell0 : ∀ (j : Nat) v, css.flatten[j]? = some v → ∃ i k, j = i * en.size + k ∧ k < en.size ∧ w.cell? (((⟨b, off, spot⟩ : Addr).add (i * en.size)).add k) = some v := by
          intro j v hj
          obtain ⟨cs, q1, q2, _⟩ := flatten_get hlens hj
          have hil := (List.getElem?_eq_some_iff.1 q1).1
          have hli : l[j / en.size]? = some (l[j / en.size]'(by omega)) := List.getElem?_eq_getElem (by omega)
          have := (h3 _ cs _ q1 hli).2.2.2.2 (j % en.size) (Nat.mod_lt _ hp)
          exact ⟨j / en.size, j % en.size, (Nat.div_add_mod' j en.size).symm, Nat.mod_lt _ hp, by rw [this]; exact q2⟩
        have hspot : spot = none := by
          have hne : css.flatten ≠ [] := by
            intro e
            have := congrArg List.length e
            cases css with
            | nil => simp at h1; omega
            | cons c css =>
              have := hlens c (by simp)
              simp at e
              have := e.1
              rw [this] at *
              simp_all
          obtain ⟨v, hv⟩ : ∃ v, css.flatten[0]? = some v := by
            cases hf : css.flatten with
            | nil => exact absurd hf hne
            | cons v _ => exact ⟨v, rfl⟩
          obtain ⟨i, k, hik, hk, hcell⟩ := hcell0 0 v hv
          have hi0 : i * en.size = 0 := by omega
          have hk0 : k = 0 := by omega
          rw [hi0, hk0] at hcell
          simp only [Addr.add, if_true, World.cell?] at hcell
          cases spot with
          | none => rfl
          | some s => cases hb : w.heap[b]? with
            | none => simp [hb] at hcell
            | some o => cases o <;> simp [hb] at hcell
        subst hspot
        have hreps := reps_flat_list (w := w) (I := oldI w) en css l ⟨by omega, fun j cs y hcs hy => (h3 j cs y hcs hy).2.1⟩
        refine .sl b off len cap en.size css.flatten (en.all l) (by omega) hl (by rw [all_len, h2]) hreps.1 (fun j v hj => ?_) (fun v hv => ?_) hreps.2
        · obtain ⟨i, k, hik, hk, hcell⟩ := hcell0 j v hj
          rw [add_lit, add_lit] at hcell
          have e2 : off + i * en.size + k = off + j := by omega
          rw [e2] at hcell
          refine ⟨hcell, ?_⟩
          show b < w.heap.size
          unfold World.cell? at hcell
          cases hb : w.heap[b]? with
          | none => simp [hb] at hcell
          | some o => exact (Array.getElem?_eq_some_iff.1 hb).1
        · obtain ⟨cs, hcs, hv'⟩ := List.mem_flatten.1 hv
          obtain ⟨i, hi⟩ := List.getElem?_of_mem hcs
          have hil := (List.getElem?_eq_some_iff.1 hi).1
          have : l[i]? = some (l[i]'(by omega)) := List.getElem?_eq_getElem (by omega)
          exact (h3 i cs _ hi this).2.2.1 v hv'

/-- The parts of a struct, one after the other. -/
theorem open_part {fs : Array Field} {H : Type} {enc : TypeId × Value → H} {w : World} {base : Nat} {spare : Nat → Bool} {held : Bool} {fuel : Nat} {cs : List Value} {x : DataW H × List MemPlace} (ht : P.underlying t = some (.struct fs))
    (h : DataW.trod enc P w base spare held fuel t cs = some x) {k : Nat} {α : Type} {en : En α} {ok : α → Prop} {ft : TypeId} {off : Nat} (hf : (fs[k]?).map (fun f => (f.offset, f.type)) = some (off, ft)) (hc : P.cellsOf ft = en.size) (he : Opens P ft en ok) :
    ∃ a, ok a ∧ Reps w (oldI w) ((cs.drop off).take en.size) (en.cells a) ∧ ∀ c ∈ (cs.drop off).take en.size, c.oneCell' = true := by
  obtain ⟨xs, n, _, _, hl, hxl, hel⟩ := DataW.trod_struct ht h
  cases hk : fs[k]? with
  | none => simp [hk] at hf
  | some f =>
    simp [hk] at hf
    obtain ⟨rfl, rfl⟩ := hf
    have h1 := hel k f hk
    have hlt : k < xs.length := by rw [hxl]; exact (Array.getElem?_eq_some_iff.1 hk).1
    rw [List.getElem?_eq_getElem hlt, hc] at h1
    exact he _ _ _ _ _ _ _ _ _ h1
theorem struct_len {fs : Array Field} {H : Type} {enc : TypeId × Value → H} {w : World} {base : Nat} {spare : Nat → Bool} {held : Bool} {fuel : Nat} {cs : List Value} {x : DataW H × List MemPlace} (ht : P.underlying t = some (.struct fs))
    (h : DataW.trod enc P w base spare held fuel t cs = some x) : cs.length = P.cellsOf t := by
  obtain ⟨xs, n, _, _, hl, _⟩ := DataW.trod_struct ht h; exact hl

/-- Parts that follow each other make up the whole. -/
theorem parts_nil {w : World} {I : Im} {cs : List Value} {off : Nat} (h : cs.length = off) : Reps w I (cs.drop off) [] ∧ ∀ c ∈ cs.drop off, c.oneCell' = true := by
  rw [List.drop_eq_nil_of_le (by omega)]; exact ⟨Pw.nil, by simp⟩
theorem parts_cons {w : World} {I : Im} {cs : List Value} {off n : Nat} {d1 d2 : List DV} (h1 : Reps w I ((cs.drop off).take n) d1) (o1 : ∀ c ∈ (cs.drop off).take n, c.oneCell' = true) (h2 : Reps w I (cs.drop (off + n)) d2 ∧ ∀ c ∈ cs.drop (off + n), c.oneCell' = true) : Reps w I (cs.drop off) (d1 ++ d2) ∧ ∀ c ∈ cs.drop off, c.oneCell' = true := by
  have e : cs.drop off = (cs.drop off).take n ++ cs.drop (off + n) := by rw [← List.drop_drop, List.take_append_drop]
  rw [e]
  exact ⟨Pw.append h1 h2.1, fun c hc => by rcases List.mem_append.1 hc with h | h; exact o1 c h; exact h2.2 c h⟩

/-- An argument, as it came in. -/
theorem arg_rep {H : Type} {enc : TypeId × Value → H} {w : World} {base : Nat} {spare : Nat → Bool} {held : Bool} {v : Value} {x : DataW H} {ps : List MemPlace} {α : Type} {en : En α} {ok : α → Prop} (he : Opens P t en ok) (h : DataW.Trod enc P w base spare held t v x ps)
    (hv : (v.cells = #[v] ∧ en.size = 1 ∧ (∀ a, flatDV (en.dv a) = [en.dv a])) ∨ (∃ cs, v = .agg cs ∧ ∀ a, ∃ es, en.dv a = .agg es)) : ∃ a, ok a ∧ Rep w (oldI w) v (en.dv a) := by
  obtain ⟨fuel, hf⟩ := h
  obtain ⟨a, h1, h2, h3⟩ := he _ _ _ _ _ _ _ _ _ hf
  refine ⟨a, h1, ?_⟩
  rcases hv with ⟨e1, e2, e3⟩ | ⟨cs, rfl, e⟩
  · rw [e1] at h2
    simp only [En.cells, e3] at h2
    exact h2.2 0 v (en.dv a) rfl rfl
  · obtain ⟨es, he'⟩ := e a
    simp only [En.cells, he', flatDV, Value.cells] at h2 h3
    rw [he']
    have := Rep.agg (w := w) (I := oldI w) cs.toList es h2.1 h3 h2.2
    rwa [Array.toArray_toList] at this
end
end Go.AV

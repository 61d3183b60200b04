/- The layer of abstract values: what a temporary holds, said once; every rule of it is proved from the model. Conditions: none. -/
import Derived.Test.YthcpioecmdfabaaAv25
import Derived.Sort.Grow
import Derived.Sort.EncStr
set_option linter.unusedSimpArgs false
set_option linter.unusedVariables false
set_option linter.unnecessarySimpa false
namespace Go.AV
open Go.RowKit Go.M Go.Sort

/-! ## The library's sort, over a window -/
section
variable {P : Program} {α : Type} [Inhabited α]

theorem heap_put {w : World} {g n off : Nat} {os : Array Obj} {cur : Array Value} {e : TypeId} {fr : Nat × Nat} (encV : α → Value) (d : Array α) (hb : w.heap[g]? = some (.cells cur e fr)) :
    (grow (putRow encV (Sort.ahead w n) g off d) os).heap[g]? = some (.cells (putCells encV off d cur) e fr) := by
  have hg : g < w.heap.size := (Array.getElem?_eq_some_iff.1 hb).1
  rw [heap_grow_old _ _ (by simpa using hg)]
  simp [putRow, mapBlock, Sort.ahead, Array.getElem?_modify, hb, onCells]
theorem heap_put_other {w : World} {g n off k : Nat} {os : Array Obj} (encV : α → Value) (d : Array α) (hk : k < w.heap.size) (hne : k ≠ g) :
    (grow (putRow encV (Sort.ahead w n) g off d) os).heap[k]? = w.heap[k]? := by
  rw [heap_grow_old _ _ (by simpa using hk)]
  have : g ≠ k := fun e => hne e.symm
  simp [putRow, mapBlock, Sort.ahead, Array.getElem?_modify, this]

theorem gc_sort {f : FuncId} {e : Nat} {en : En α} {encV : α → Value} (hv : ∀ x, en.dv x = .v (encV x)) (hsz : en.size = 1) (h1 : ∀ x, (encV x).oneCell' = true) {l r : List α} (hl : r.length = l.length)
    (hfn : ∃ fn, P.funcs[f]? = some fn ∧ (fn.name == "runtime.NumGoroutine") = false ∧ fn.body.isNone = false)
    (hnil : l = [] → ∀ (A : Option Addr) (c : Nat) (w : World), Calls P f #[.slice A 0 c] w fun en w' => en = .returned (.tuple #[]) ∧ w' = w)
    (hcall : ∀ (blk off cap : Nat) (w : World), Sort.Holds encV w blk off l.toArray → blk < w.heap.size → Calls P f #[.slice (some ⟨blk, off, none⟩) l.length cap] w fun en w' =>
      en = .returned (.tuple #[]) ∧ ∃ n os, w' = grow (putRow encV (Sort.ahead w n) blk off r.toArray) os) :
    GC P f [.row 0] [(0, .win e en.size (en.all l))] [0] [] [(0, .win e en.size (en.all r))] := by
  have hall : ∀ m : List α, en.all m = m.map fun x => DV.v (encV x) := fun m => by
    have : en.cells = fun x => [DV.v (encV x)] := by funext x; simp [En.cells, hv, flatDV]
    simp only [En.all, this]
    induction m with
    | nil => rfl
    | cons x m ih => simp [ih]
  refine ⟨hfn, fun w I ρ vs hI hfrag hvs => ?_⟩
  have hlen := hvs.1
  match vs, hlen with
  | [v0], _ =>
    have hv0 : v0 = ρ 0 := hvs.2 0 v0 (.row 0) rfl rfl
    subst hv0
    have hk := hfrag.ok 0
    have hlk : look Blk.none [(0, Blk.win e en.size (en.all l))] 0 = .win e en.size (en.all l) := rfl
    rw [hlk] at hk
    obtain ⟨A, n, c, xs, hρ, hnc, hp, hcl, hr, hx1, hA⟩ := hk
    have hn : n = l.length := by rw [all_len] at hcl; exact (Nat.eq_of_mul_eq_mul_right hp hcl).symm
    subst hn
    have hxs : xs = l.map encV := by
      have hrl : xs.length = l.length := by have := hr.1; rw [hall] at this; simpa using this
      apply List.ext_getElem?
      intro j
      by_cases hj : j < xs.length
      · have hxj : xs[j]? = some xs[j] := List.getElem?_eq_getElem hj
        have hlj : l[j]? = some (l[j]'(by omega)) := List.getElem?_eq_getElem (by omega)
        have := hr.2 j xs[j] (.v (encV (l[j]'(by omega)))) hxj (by rw [hall]; simp [hlj])
        rw [hxj, List.getElem?_map, hlj, rep_v this]
        rfl
      · rw [List.getElem?_eq_none (by omega), List.getElem?_eq_none (by simp; omega)]
    have own : ∀ b, ownedBy [(0, Blk.win e en.size (en.all l))] ρ b ↔ blockOf (ρ 0) = some b := by
      intro b
      constructor
      · rintro ⟨id, hne, hb⟩
        by_cases e0 : 0 = id
        · subst e0; exact hb
        · exact absurd (by rw [look_cons]; simp [e0, look]) hne
      · intro hb; exact ⟨0, by rw [hlk]; simp, hb⟩
    have own' : ∀ b (ρ' : Nat → Value), ownedBy [(0, Blk.win e en.size (en.all r))] ρ' b → blockOf (ρ' 0) = some b := by
      rintro b ρ' ⟨id, hne, hb⟩
      by_cases e0 : 0 = id
      · subst e0; exact hb
      · exact absurd (by rw [look_cons]; simp [e0, look]) hne
    rcases hA with ⟨rfl, hl0⟩ | ⟨b, off, arr, rfl, _, hh, hfit, hc, hIw⟩
    · have hlnil : l = [] := List.eq_nil_of_length_eq_zero hl0
      have hrnil : r = [] := List.eq_nil_of_length_eq_zero (by omega)
      subst hlnil; subst hrnil
      have hcl := hnil rfl none c w
      rw [hρ]
      refine hcl.mono ?_
      rintro en' w' ⟨rfl, rfl⟩
      exact ⟨_, I, ρ, rfl, Chg.refl _ _, same_refl _ _, fun _ _ h => h, fun b j hi => ⟨hI b j hi, .inl hi⟩, hfrag, ⟨[], rfl, Pw.nil⟩, fun b hb => by have := own' b ρ hb; rw [hρ] at this; simp [blockOf] at this, fun _ _ _ => rfl⟩
    · have hb : b < w.heap.size := (Array.getElem?_eq_some_iff.1 hh).1
      rw [hsz, Nat.mul_one] at hfit hIw
      have hH : Sort.Holds encV w b off l.toArray := by
        intro j hj
        have hj' : j < l.length := by simpa using hj
        refine ⟨?_, by simp [World.frozen?, hh]⟩
        rw [cell_of_row w b (off + j) arr e (0, 0) hh]
        have := hc j (encV (l[j])) (by rw [hxs, List.getElem?_map, List.getElem?_eq_getElem hj']; rfl)
        rw [this]
        congr 2
        simp [hj']
      rw [hρ]
      refine (hcall b off c w hH hb).mono ?_
      rintro en' w' ⟨rfl, q, os, rfl⟩
      have hsame : Same I w (grow (putRow encV (Sort.ahead w q) b off r.toArray) os) := by
        intro b' j hi
        by_cases e' : b' = b
        · subst e'
          have hout : j < off ∨ off + l.length ≤ j := by
            rcases Nat.lt_or_ge j off with h | h
            · exact .inl h
            · rcases Nat.lt_or_ge j (off + l.length) with h2 | h2
              · exact absurd hi (hIw j h h2)
              · exact .inr h2
          rw [cell_of_row _ b' j _ e (0, 0) (heap_put encV r.toArray hh), cell_of_row w b' j arr e (0, 0) hh]
          simp only [putCells, Array.getElem?_mapIdx, List.size_toArray, hl]
          have : ¬ (off ≤ j ∧ j < off + l.length) := by omega
          simp [this]
        · exact World.cell?_of_block (a := ⟨b', j, none⟩) (heap_put_other encV _ (hI b' j hi) e')
      have hbo : blockOf (ρ 0) = some b := by rw [hρ]; rfl
      refine ⟨_, I, ρ, rfl, ⟨rfl, rfl, rfl, by simp, fun k hk hne => heap_put_other encV _ hk (fun e' => hne (by rw [own, hbo, e']))⟩, hsame, fun _ _ h => h, fun b' j hi => ⟨by have := hI b' j hi; simp; omega, .inl hi⟩, ⟨fun id => ?_, fun id id' b' hne h1' h2' => ?_⟩, ⟨[], rfl, Pw.nil⟩, fun b' hb' => ?_, fun _ _ _ => rfl⟩
      · by_cases e0 : 0 = id
        · subst e0
          show BlkOk _ I ρ _ 0 (.win e en.size (en.all r))
          refine ⟨_, l.length, c, r.map encV, hρ, hnc, hp, by rw [all_len, hl], ?_, by simpa using fun x _ => h1 x, .inr ⟨b, off, putCells encV off r.toArray arr, rfl, trivial, heap_put encV _ hh, ?_, fun j x hj => ?_, fun j hj1 hj2 => hIw j hj1 (by rw [hsz] at hj2; omega)⟩⟩
          · rw [hall]
            refine ⟨by simp, fun j x d hx hd => ?_⟩
            rw [List.getElem?_map] at hx hd
            cases hr' : r[j]? with
            | none => simp [hr'] at hx
            | some y => simp [hr'] at hx hd; subst hx; subst hd; exact .v _
          · rw [hsz]; simp [putCells]; omega
          · rw [List.getElem?_map] at hj
            cases hr' : r[j]? with
            | none => simp [hr'] at hj
            | some y =>
              simp [hr'] at hj; subst hj
              have hjl : j < r.length := (List.getElem?_eq_some_iff.1 hr').1
              simp only [putCells, Array.getElem?_mapIdx, List.size_toArray]
              have hlt : off + j < arr.size := by omega
              rw [Array.getElem?_eq_getElem hlt]
              have hin : off ≤ off + j ∧ off + j < off + r.length := by omega
              simp only [Option.map_some, hin, and_self, if_true]
              have e3 : off + j - off = j := by omega
              rw [e3]
              congr 2
              have : r[j]? = some r[j] := List.getElem?_eq_getElem hjl
              rw [this] at hr'; cases hr'
              simp [hjl]
        · have : look Blk.none [(0, Blk.win e en.size (en.all r))] id = .none := by rw [look_cons]; simp [e0, look]
          rw [this]; trivial
      · exfalso
        by_cases e0 : 0 = id
        · have : look Blk.none [(0, Blk.win e en.size (en.all r))] id' = .none := by rw [look_cons]; simp [show ¬ 0 = id' from fun e1 => hne (e0.symm.trans e1), look]
          exact h2' this
        · have : look Blk.none [(0, Blk.win e en.size (en.all r))] id = .none := by rw [look_cons]; simp [e0, look]
          exact h1' this
      · have h2 := own' b' ρ hb'
        refine ⟨?_, .inr ((own b').2 h2)⟩
        rw [hbo] at h2; cases h2; simp; omega
end
end Go.AV

/- What the plain counterparts answer. Conditions: none. -/
import Derived.Test.YtgeaoceiacdadaaDoorPC3
set_option linter.unusedSimpArgs false
set_option linter.unusedVariables false
set_option linter.unnecessarySimpa false
namespace Go.M
open Go.AV

/-! ## The order of the codes -/
def lx : List Int → List Int → Prop
  | [], [] => False
  | [], _ :: _ => True
  | _ :: _, [] => False
  | x :: a, y :: b => x < y ∨ (x = y ∧ lx a b)
theorem lx_trans : ∀ {a b c : List Int}, lx a b → lx b c → lx a c
  | [], [], _, h, _ => h.elim
  | [], _ :: _, [], _, h => h.elim
  | [], _ :: _, _ :: _, _, _ => trivial
  | _ :: _, [], _, h, _ => h.elim
  | _ :: _, _ :: _, [], _, h => h.elim
  | x :: a, y :: b, z :: c, h1, h2 => by
    rcases h1 with h1 | ⟨rfl, h1⟩
    · rcases h2 with h2 | ⟨rfl, _⟩
      · exact .inl (by omega)
      · exact .inl h1
    · rcases h2 with h2 | ⟨rfl, h2⟩
      · exact .inl h2
      · exact .inr ⟨rfl, lx_trans h1 h2⟩
theorem lx_irrefl : ∀ {a : List Int}, ¬ lx a a
  | [], h => h
  | x :: a, h => by
    rcases h with h | ⟨_, h⟩
    · omega
    · exact lx_irrefl h
def pC (_ : Nat) (p : Int × Int) : Option Int := if p.1 = p.2 then none else some (if p.1 < p.2 then (-1 : Int) else 1)
def cmpR (a b : List Int) (k : Nat) : Int := match chk pC (a.zip b) k with
  | some y => y
  | none => if a.length < b.length then -1 else if b.length < a.length then 1 else 0
theorem cmpR_spec : ∀ (a b : List Int) (k : Nat), (cmpR a b k < 0 ↔ lx a b) ∧ (cmpR a b k = 0 ↔ a = b)
  | [], [], k => by simp [cmpR, chk, lx]
  | [], y :: b, k => by simp [cmpR, chk, lx]
  | x :: a, [], k => by simp [cmpR, chk, lx]
  | x :: a, y :: b, k => by
    have ih := cmpR_spec a b (k + 1)
    by_cases he : x = y
    · subst he
      have e1 : cmpR (x :: a) (x :: b) k = cmpR a b (k + 1) := by
        simp only [cmpR, List.zip_cons_cons, chk, pC, if_true, List.length_cons]
        cases chk pC (a.zip b) (k + 1) with
        | some y => rfl
        | none =>
          simp only []
          by_cases h1 : a.length < b.length
          · simp [h1]
          · by_cases h2 : b.length < a.length <;> simp [h1, h2]
      rw [e1]
      refine ⟨ih.1.trans ?_, ih.2.trans ?_⟩
      · simp [lx]
      · simp
    · have e1 : cmpR (x :: a) (y :: b) k = if x < y then -1 else 1 := by
        simp only [cmpR, List.zip_cons_cons, chk, pC, he, if_false]
      rw [e1]
      by_cases hl : x < y
      · simp [hl, lx, he]
      · simp [hl, lx, he]
theorem cmpE_R (a b : List Int) : cmpE a b = cmpR a b 0 := rfl

/-! ## Keys -/
def keyL (a : List Int) : A9Int := { x0 := a.length, x1 := cpA a 0 0, x2 := cpA a 1 0, x3 := cpA a 2 0, x4 := cpA a 3 0, x5 := cpA a 4 0, x6 := cpA a 5 0, x7 := cpA a 6 0, x8 := cpA a 7 0 }
theorem keyOf_eq (a : List Int) : colltable_keyOf a = some (keyL a) := rfl
theorem keyL_inj {a b : List Int} (ha : a.length ≤ 8) (h : keyL a = keyL b) : a = b := by
  unfold keyL at h
  simp only [A9Int.mk.injEq] at h
  obtain ⟨hl, h1, h2, h3, h4, h5, h6, h7, h8⟩ := h
  have hl : a.length = b.length := by omega
  apply List.ext_getElem hl
  intro i hi hi'
  have key : ∀ j, j < a.length → cpA a j 0 = cpA b j 0 → a.getD j 0 = b.getD j 0 := fun j _ h => by simpa [cpA, List.getD_eq_getElem?_getD] using h
  have : a.getD i 0 = b.getD i 0 := by
    have hi8 : i < 8 := by omega
    match i, hi8 with
    | 0, _ => exact key 0 hi h1
    | 1, _ => exact key 1 hi h2
    | 2, _ => exact key 2 hi h3
    | 3, _ => exact key 3 hi h4
    | 4, _ => exact key 4 hi h5
    | 5, _ => exact key 5 hi h6
    | 6, _ => exact key 6 hi h7
    | 7, _ => exact key 7 hi h8
  simpa [List.getD_eq_getElem?_getD, hi, hi'] using this

/-! ## The table -/
def datE (c : Collation) : Collation := if ckE c = 0 then c else { Entries := [], Groups := [], Base := 64448, Second := 32, Third := 2 }
def tabE (es : List Entry) (m : List (A9Int × List Element)) : List (A9Int × List Element) := es.foldl (fun m x => mput m (keyL x.Codes) x.Elements) m
def lonE (es : List Entry) (n : Int) : Int := es.foldl (fun n x => max n (x.Codes.length : Int)) n
def tblE (c : Collation) : Colltable_table := { c := datE c, entries := tabE (datE c).Entries [], longest := lonE (datE c).Entries 0, classes := [], top := 0 }

theorem made_loop (y : (List Entry) × (List Group) × Int × Int × Int) (hl : y.1.length ≤ 1000) : ∀ (n k : Nat) (m : List (A9Int × List Element)) (q : Int), y.1.length - k = n → 
    loopM (fun (x : Int × (List (A9Int × (List Element))) × Int) => colltable_made_L0 y x.1 x.2.1 x.2.2) ((k : Int), m, q) = some (tabE (y.1.drop k) m, lonE (y.1.drop k) q) := by
  intro n
  induction n with
  | zero =>
    intro k m q hk
    have hk' : y.1.length ≤ k := by omega
    rw [loopM_eq, List.drop_of_length_le hk']
    simp only [colltable_made_L0, lt_f hk', cond_false]
    rfl
  | succ n ih =>
    intro k m q hk
    have hlt : k < y.1.length := by omega
    rw [loopM_eq, List.drop_eq_getElem_cons hlt]
    simp only [colltable_made_L0, lt_t hlt, cond_true, idx_nat hlt, some_bind, keyOf_eq, wi_succ (k := k) (by omega)]
    exact ih (k + 1) _ _ (by omega)
theorem made_eq {c : Collation} (hs : Sm c) (hn : ∀ g ∈ c.Groups, g.Name.length ≤ MX) : colltable_made c = some (tblE c) := by
  unfold colltable_made
  have hc : colltable_Check { Entries := c.Entries, Groups := c.Groups, Base := c.Base, Second := c.Second, Third := c.Third } = some (ckE c) := check_eq hs hn
  rw [hc, some_bind]
  unfold tblE datE
  have h12 := hs.en
  by_cases hz : ckE c = 0
  · simp only [hz, decide_true, Bool.not_true, cond_false, if_true, some_bind]
    have := made_loop (c.Entries, c.Groups, c.Base, c.Second, c.Third) (by show c.Entries.length ≤ 1000; omega) c.Entries.length 0 [] 0 (by show c.Entries.length - 0 = _; omega)
    have h0 : loopM (fun (x : Int × (List (A9Int × (List Element))) × Int) => colltable_made_L0 (c.Entries, c.Groups, c.Base, c.Second, c.Third) x.1 x.2.1 x.2.2) (0, [], 0) = some (tabE c.Entries [], lonE c.Entries 0) := by simpa using this
    rw [h0]
    rfl
  · simp only [hz, decide_false, Bool.not_false, cond_true, if_false, some_bind]
    have := made_loop (([] : List Entry), ([] : List Group), 64448, 32, 2) (by simp) 0 0 [] 0 (by simp)
    have h0 : loopM (fun (x : Int × (List (A9Int × (List Element))) × Int) => colltable_made_L0 (([] : List Entry), ([] : List Group), 64448, 32, 2) x.1 x.2.1 x.2.2) (0, [], 0) = some (tabE [] [], lonE [] 0) := by simpa using this
    rw [h0]
    rfl

/-- What entries of a valid collation are. -/
structure Vd (es : List Entry) : Prop where
  lo : ∀ x ∈ es, 1 ≤ x.Codes.length
  hi : ∀ x ∈ es, x.Codes.length ≤ 8
  el : ∀ x ∈ es, x.Elements.length ≤ 20
  ne : es.Pairwise fun x y => x.Codes ≠ y.Codes
theorem dat_vd {c : Collation} (hs : Sm c) : Vd (datE c).Entries := by
  unfold datE
  by_cases hz : ckE c = 0
  · simp only [hz, if_true]
    have hk : chk (pK c) c.Entries 0 = none := by
      unfold ckE at hz
      split at hz
      · cases hz
      · split at hz
        · rename_i hg; exact absurd hz hg
        · cases hc : chk (pK c) c.Entries 0 with
          | none => rfl
          | some y =>
            rw [hc] at hz
            have hy : y ≠ 0 := chk_prop (P := fun y => y ≠ 0) (fun k x y hy => by
              unfold pK at hy
              split at hy
              · cases hy; assumption
              · split at hy
                · cases hy; decide
                · cases hy) hc
            exact absurd hz hy
    have hn := chk_none hk
    have hen : ∀ j (h : j < c.Entries.length), enE c.Entries[j] c.Base = 0 ∧ (0 < j → lx (c.Entries.getD (j - 1) default).Codes (c.Entries[j]).Codes) := by
      intro j h
      have := hn j h
      rw [Nat.zero_add] at this
      unfold pK at this
      split at this
      · cases this
      · rename_i h1
        split at this
        · cases this
        · rename_i h2
          refine ⟨by simpa using h1, fun hj => ?_⟩
          have h3 : ¬ 0 ≤ cmpE (c.Entries.getD (j - 1) default).Codes (c.Entries[j]).Codes := fun h => h2 ⟨hj, h⟩
          exact ((cmpR_spec _ _ 0).1).1 (by rw [← cmpE_R]; omega)
    have hsz : ∀ j (h : j < c.Entries.length), 1 ≤ (c.Entries[j]).Codes.length ∧ (c.Entries[j]).Codes.length ≤ 8 := by
      intro j h
      have := (hen j h).1
      unfold enE at this
      split at this
      · cases this
      · omega
    have hlt : ∀ n i (h : i + n + 1 < c.Entries.length), lx (c.Entries[i]).Codes (c.Entries[i + n + 1]).Codes := by
      intro n
      induction n with
      | zero =>
        intro i h
        have := (hen (i + 1) (by omega)).2 (by omega)
        have e1 : c.Entries.getD (i + 1 - 1) default = c.Entries[i] := by
          have : i < c.Entries.length := by omega
          simp [this]
        rw [e1] at this
        exact this
      | succ n ih =>
        intro i h
        have h1 := ih i (by omega)
        have h2 := (hen (i + (n + 1) + 1) (by omega)).2 (by omega)
        have e1 : c.Entries.getD (i + (n + 1) + 1 - 1) default = c.Entries[i + n + 1] := by
          have : i + n + 1 < c.Entries.length := by omega
          rw [show i + (n + 1) + 1 - 1 = i + n + 1 by omega]
          simp [this]
        rw [e1] at h2
        exact lx_trans h1 h2
    refine ⟨fun x hx => ?_, fun x hx => ?_, hs.el, ?_⟩
    · obtain ⟨j, hj, rfl⟩ := List.getElem_of_mem hx; exact (hsz j hj).1
    · obtain ⟨j, hj, rfl⟩ := List.getElem_of_mem hx; exact (hsz j hj).2
    · rw [List.pairwise_iff_getElem]
      intro i j hi hj hij he
      have := hlt (j - i - 1) i (by omega)
      have e1 : i + (j - i - 1) + 1 = j := by omega
      simp only [e1] at this
      rw [he] at this
      exact lx_irrefl this
  · simp only [hz, if_false]
    exact ⟨by simp, by simp, by simp, by simp⟩
theorem mget_mput {κ ν : Type} [DecidableEq κ] (m : List (κ × ν)) (k k' : κ) (v : ν) : mget (mput m k v) k' = if k' = k then some v else mget m k' := by
  induction m with
  | nil => simp only [mput, mget]
  | cons p m ih =>
    obtain ⟨q, u⟩ := p
    simp only [mput]
    by_cases hq : k = q
    · subst hq
      simp only [if_true, mget]
      by_cases h : k' = k <;> simp [h]
    · simp only [hq, if_false, mget]
      by_cases h : k' = q
      · subst h
        have : ¬ k' = k := fun e => hq e.symm
        simp [this]
      · simp only [h, if_false]; exact ih
theorem tab_get (codes : List Int) (hc : codes.length ≤ 8) : ∀ (es : List Entry) (m : List (A9Int × List Element)), (∀ x ∈ es, x.Codes.length ≤ 8) → es.Pairwise (fun x y => x.Codes ≠ y.Codes) →
    mget (tabE es m) (keyL codes) = match es.find? (fun x => decide (x.Codes = codes)) with | some x => some x.Elements | none => mget m (keyL codes)
  | [], m, _, _ => rfl
  | x :: es, m, h8, hp => by
    rw [List.pairwise_cons] at hp
    have ih := tab_get codes hc es (mput m (keyL x.Codes) x.Elements) (fun y hy => h8 y (by simp [hy])) hp.2
    show mget (tabE es (mput m (keyL x.Codes) x.Elements)) (keyL codes) = _
    rw [ih, mget_mput]
    by_cases he : x.Codes = codes
    · have hno : es.find? (fun x => decide (x.Codes = codes)) = none := by
        rw [List.find?_eq_none]
        intro y hy
        have := hp.1 y hy
        simp only [decide_eq_true_eq]
        intro e
        exact this (he.trans e.symm)
      simp [hno, he]
    · have hk : ¬ keyL codes = keyL x.Codes := fun e => he (keyL_inj hc e).symm
      simp [he, hk]
theorem lon_le : ∀ (es : List Entry) (n : Int), n ≤ lonE es n ∧ ∀ x ∈ es, (x.Codes.length : Int) ≤ lonE es n
  | [], n => ⟨by show n ≤ n; omega, by simp⟩
  | x :: es, n => by
    have ih := lon_le es (max n (x.Codes.length : Int))
    show n ≤ lonE es (max n (x.Codes.length : Int)) ∧ ∀ y ∈ x :: es, (y.Codes.length : Int) ≤ lonE es (max n (x.Codes.length : Int))
    refine ⟨by omega, fun y hy => ?_⟩
    rcases List.mem_cons.1 hy with rfl | hy
    · omega
    · exact ih.2 y hy
theorem lon_bd : ∀ (es : List Entry) (n : Int), (∀ x ∈ es, x.Codes.length ≤ 8) → n ≤ 8 → lonE es n ≤ 8
  | [], n, _, h => h
  | x :: es, n, h8, h => lon_bd es (max n (x.Codes.length : Int)) (fun y hy => h8 y (by simp [hy])) (by have := h8 x (by simp); omega)
def finE (es : List Entry) (codes : List Int) : List Element × Bool := match es.find? (fun x => decide (x.Codes = codes)) with
  | some x => (x.Elements, true)
  | none => ([], false)
theorem find_eq {c : Collation} (hs : Sm c) {codes : List Int} : colltable_table_find (tblE c) codes = some (finE (datE c).Entries codes) := by
  have hv := dat_vd hs
  unfold colltable_table_find
  simp only [pv_bind, keyOf_eq, some_bind]
  have hlon := lon_le (datE c).Entries 0
  have hlb := lon_bd (datE c).Entries 0 hv.hi (by omega)
  by_cases h0 : codes.length = 0 ∨ lonE (datE c).Entries 0 < (codes.length : Int)
  · have e1 : (decide ((codes.length : Int) = 0) || decide ((tblE c).longest < (codes.length : Int))) = true := by
      simp only [Bool.or_eq_true, decide_eq_true_eq]
      rcases h0 with h | h
      · left; omega
      · right; exact h
    rw [e1, cond_true]
    have hno : (datE c).Entries.find? (fun x => decide (x.Codes = codes)) = none := by
      rw [List.find?_eq_none]
      intro x hx
      simp only [decide_eq_true_eq]
      intro e
      have h1 := hv.lo x hx
      have h2 := hlon.2 x hx
      rw [e] at h1 h2
      rcases h0 with h | h <;> omega
    simp only [finE, hno]
  · have e1 : (decide ((codes.length : Int) = 0) || decide ((tblE c).longest < (codes.length : Int))) = false := by
      simp only [Bool.or_eq_false_iff, decide_eq_false_iff_not]
      refine ⟨by omega, fun h => h0 (.inr h)⟩
    rw [e1, cond_false]
    have hg := tab_get codes (by omega) (datE c).Entries [] hv.hi hv.ne
    have hg2 : mget (tblE c).entries (keyL codes) = match (datE c).Entries.find? (fun x => decide (x.Codes = codes)) with | some x => some x.Elements | none => none := hg
    simp only [mgetD, mhas, hg2, finE]
    cases (datE c).Entries.find? (fun x => decide (x.Codes = codes)) <;> rfl
end Go.M

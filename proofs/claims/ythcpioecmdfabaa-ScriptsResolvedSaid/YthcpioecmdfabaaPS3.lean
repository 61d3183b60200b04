/- What the plain counterparts answer. Conditions: none. -/
import Derived.Test.YthcpioecmdfabaaPS2
set_option linter.unusedSimpArgs false
set_option linter.unusedVariables false
set_option linter.unnecessarySimpa false
namespace Go.M
open Go.AV

structure Sm (p : Property) : Prop where
  ok : okProperty p
  sp : p.Spans.length ≤ 1000

theorem cnt_len {p : Property} (hp : Sm p) : (cnt p).Spans.length ≤ 1000 := by
  unfold cnt
  by_cases h : vP p = true
  · simp [h]; exact hp.sp
  · simp [h, otherP]

theorem Get_eq (p : Property) (hp : Sm p) (c : Int) : property_Get p c = some (getP (cnt p).Spans c) := by
  unfold property_Get
  rw [counted_eq p hp.ok, some_bind]
  have hv := vP_cnt p
  have hlen := cnt_len hp
  generalize cnt p = q at hv hlen
  simp only [vP, Bool.and_eq_true] at hv
  obtain ⟨pw, hall, _⟩ := spans_pw hv.2
  generalize q.Spans = l at pw hall hlen
  have hge : ∀ i j (hi : i < l.length) (hj : j < l.length), i < j → l[i].Hi < l[j].Lo := fun i j hi hj hij => List.pairwise_iff_getElem.1 pw i j hi hj hij
  have hlh : ∀ i (hi : i < l.length), l[i].Lo ≤ l[i].Hi := by
    intro i hi
    have := hall l[i] (List.getElem_mem hi)
    simp only [spanOk, Bool.and_eq_true, decide_eq_true_eq] at this
    omega
  have hA : ∀ k, k < l.length → (fun x0 => property_Get_1 x0 l c) (k : Int) = some ((fun k => match l[k]? with | some s => decide (c ≤ s.Hi) | none => true) k) := by
    intro k hk
    simp only [property_Get_1, idx_nat hk, some_bind, List.getElem?_eq_getElem hk]
  have hB : ∀ i j, i ≤ j → j < l.length → (fun k => match l[k]? with | some s => decide (c ≤ s.Hi) | none => true) i = true → (fun k => match l[k]? with | some s => decide (c ≤ s.Hi) | none => true) j = true := by
    intro i j hij hj hq
    have hi : i < l.length := by omega
    simp only [hj, List.getElem?_eq_getElem, decide_eq_true_eq, hi] at hq ⊢
    by_cases e : i = j
    · subst e; exact hq
    · have h3 := hge i j hi hj (by omega)
      have h4 := hlh j hj
      omega
  obtain ⟨j, hj, hs, hlo, hhi⟩ := search_eq (n := l.length) (by omega) (f := fun x0 => property_Get_1 x0 l c) _ hA hB
  · rw [hs, some_bind, pv_bind]
    by_cases hjl : j < l.length
    · have hq := hhi j (Nat.le_refl _) hjl
      simp only [hjl, List.getElem?_eq_getElem, decide_eq_true_eq] at hq
      simp only [lt_t hjl, gM_t, idx_nat hjl, some_bind, Bool.true_and]
      by_cases hlo2 : l[j].Lo ≤ c
      · have hf : l.find? (inS c) = some l[j] := by
          rw [List.find?_eq_some_iff_getElem]
          refine ⟨by simp [inS, hlo2, hq], j, hjl, rfl, ?_⟩
          intro k hk
          have h2 := hlo k hk
          have hkl : k < l.length := by omega
          simp only [hkl, List.getElem?_eq_getElem, decide_eq_false_iff_not] at h2
          simp [inS, h2]
        simp [getP, hf, hlo2]
      · have hf : l.find? (inS c) = none := by
          rw [List.find?_eq_none]
          intro x hx
          obtain ⟨k, hk, rfl⟩ := List.getElem_of_mem hx
          by_cases hkj : k < j
          · have h2 := hlo k hkj
            simp only [hk, List.getElem?_eq_getElem, decide_eq_false_iff_not] at h2
            simp [inS, h2]
          · by_cases e : k = j
            · subst e; simp [inS, hlo2]
            · have h3 := hge j k hjl hk (by omega)
              have h4 := hlh j hjl
              simp only [inS, Bool.and_eq_true, decide_eq_true_eq]; omega
        simp [getP, hf, hlo2]
    · have hf : l.find? (inS c) = none := by
        rw [List.find?_eq_none]
        intro x hx
        obtain ⟨k, hk, rfl⟩ := List.getElem_of_mem hx
        have h2 := hlo k (by omega)
        simp only [hk, List.getElem?_eq_getElem, decide_eq_false_iff_not] at h2
        simp [inS, h2]
      simp only [lt_f (Nat.le_of_not_lt hjl), gM_f, some_bind, Bool.false_and, cond_false, getP, hf]

theorem getP_range {n : Int} {l : List Span} (hall : ∀ x ∈ l, spanOk n x = true) (hn : 0 < n) (c : Int) : 0 ≤ getP l c ∧ getP l c < n := by
  unfold getP
  cases hf : l.find? (inS c) with
  | none => exact ⟨Int.le_refl _, hn⟩
  | some s =>
    have := hall s (List.mem_of_find?_eq_some hf)
    simp only [spanOk, Bool.and_eq_true, decide_eq_true_eq] at this
    simp only
    omega

theorem namesOk_mem : ∀ {xs seen : List Str}, namesOk seen xs = true → ∀ x ∈ xs, isNm x = true := by
  intro xs
  induction xs with
  | nil => intro _ _ x hx; cases hx
  | cons y ys ih =>
    intro seen h x hx
    simp only [namesOk, Bool.and_eq_true] at h
    cases List.mem_cons.1 hx with
    | inl e => rw [e]; exact h.1.2
    | inr hx => exact ih h.2 x hx

def nameOf (p : Property) (c : Int) : Str := (cnt p).Names[(getP (cnt p).Spans c).toNat]?.getD []

theorem idx_name (p : Property) (c : Int) : idx (cnt p).Names (getP (cnt p).Spans c) = some (nameOf p c) ∧ isNm (nameOf p c) = true := by
  have hv := vP_cnt p
  unfold nameOf
  generalize cnt p = q at hv
  simp only [vP, nmOk, Bool.and_eq_true, decide_eq_true_eq] at hv
  obtain ⟨⟨⟨h0, h1⟩, h2⟩, h3⟩ := hv
  obtain ⟨_, hall, _⟩ := spans_pw h3
  obtain ⟨g0, g1⟩ := getP_range hall (by omega) c
  generalize getP q.Spans c = g at g0 g1
  obtain ⟨k, rfl⟩ : ∃ k : Nat, g = (k : Int) := ⟨g.toNat, by omega⟩
  have hk : k < q.Names.length := by omega
  constructor
  · rw [idx_nat hk]; simp [hk]
  · simp only [Int.toNat_natCast, List.getElem?_eq_getElem hk, Option.getD_some]
    exact namesOk_mem h2 _ (List.getElem_mem hk)

theorem Name_eq (p : Property) (hp : Sm p) (c : Int) : property_Name p c = some (nameOf p c) := by
  unfold property_Name
  rw [counted_eq p hp.ok, some_bind, Get_eq p hp, some_bind, (idx_name p c).1]; rfl
theorem RName_eq (p : Property) (hp : Sm p) (c : Int) : ref10_Name p c = some (nameOf p c) := by
  unfold ref10_Name
  rw [Counted_eq p hp.ok, some_bind, RGet_eq p hp.ok, some_bind, (idx_name p c).1]; rfl

/-! ## Real scripts -/
def isReal (s : Str) : Bool := !(s == [67, 111, 109, 109, 111, 110]) && !(s == [73, 110, 104, 101, 114, 105, 116, 101, 100]) && !(s == [79, 116, 104, 101, 114])
theorem Real_eq (s : Str) : ref40_Real s = some (isReal s) := rfl
def realOf (p : Property) (c : Int) : Str := if isReal (nameOf p c) then nameOf p c else []
theorem realOf_nil (p : Property) (c : Int) : realOf p c = [] ↔ isReal (nameOf p c) = false := by
  unfold realOf
  by_cases h : isReal (nameOf p c) = true
  · simp [h, isNm_ne (idx_name p c).2]
  · simp [h]
theorem realOf_eq {p : Property} {c : Int} (h : isReal (nameOf p c) = true) : realOf p c = nameOf p c := by simp [realOf, h]

theorem mget_put {κ ν : Type} [DecidableEq κ] (m : List (κ × ν)) (k k' : κ) (v : ν) : mget (mput m k v) k' = if k' = k then some v else mget m k' := by
  induction m with
  | nil => simp only [mput, mget]
  | cons e m ih =>
    obtain ⟨a, b⟩ := e
    simp only [mput]
    by_cases h : k = a
    · subst h
      by_cases h2 : k' = k <;> simp [mget, h2]
    · simp only [h, if_false, mget, ih]
      by_cases h2 : k' = a
      · have : ¬k' = k := fun e => h (e.symm.trans h2)
        simp [h2]; intro e; exact absurd e.symm h
      · simp [h2]

theorem realScripts_eq (p : Property) (hp : Sm p) (t : List Int) (ht : t.length ≤ 1000) : scripts_realScripts p t = some (t.map (realOf p)) := by
  unfold scripts_realScripts
  rw [mkM_ok (by omega), some_bind]
  have key : ∀ (n k : Nat) (m : List (Int × Str)) (r : List Str), k + n = t.length → r.length = t.length → (∀ c s, mget m c = some s → s = realOf p c) →
      loopM (fun (x : Int × (List (Int × Str)) × (List Str)) => scripts_realScripts_L0 t p x.1 x.2.1 x.2.2) ((k : Int), m, r) = some (r.take k ++ (t.drop k).map (realOf p)) := by
    intro n
    induction n with
    | zero =>
      intro k m r hk hr hm
      have : k = t.length := by omega
      subst this
      rw [loopM_eq]
      simp only [scripts_realScripts_L0, lt_f (Nat.le_refl _), cond_false]
      simp [← hr]
    | succ n ih =>
      intro k m r hk hr hm
      have hkt : k < t.length := by omega
      have hkr : k < r.length := by omega
      have fin : ∀ m', (∀ c s, mget m' c = some s → s = realOf p c) → loopM (fun (x : Int × (List (Int × Str)) × (List Str)) => scripts_realScripts_L0 t p x.1 x.2.1 x.2.2) (((k + 1 : Nat) : Int), m', r.set k (realOf p t[k])) = some (r.take k ++ (t.drop k).map (realOf p)) := by
        intro m' hm'
        rw [ih (k + 1) m' _ (by omega) (by simp [hr]) hm']
        rw [List.drop_eq_getElem_cons hkt, List.take_add_one]
        rw [List.take_set_of_le (Nat.le_refl _), List.getElem?_set_self hkr]
        simp only [Option.toList_some, List.map_cons, List.append_assoc, List.cons_append, List.nil_append]
      cases hg : mget m t[k] with
      | some s =>
        have := hm _ _ hg
        rw [loopM_next (x' := (((k + 1 : Nat) : Int), m, r.set k (realOf p t[k]))) (by
          simp only [scripts_realScripts_L0, lt_t hkt, cond_true, idx_nat hkt, some_bind, wi_succ (k := k) (by omega), idx_nat hkr, mhas, hg, Option.isSome_some, Bool.not_true, cond_false, mgetD, Option.getD_some, this, setM_nat hkr])]
        exact fin m hm
      | none =>
        have hval : ((cond (nameOf p t[k] == [67, 111, 109, 109, 111, 110]) (some (nameOf p t[k] == [67, 111, 109, 109, 111, 110])) (cond (nameOf p t[k] == [73, 110, 104, 101, 114, 105, 116, 101, 100]) (some (nameOf p t[k] == [73, 110, 104, 101, 114, 105, 116, 101, 100])) (some (nameOf p t[k] == [79, 116, 104, 101, 114])))).bind fun (y4 : Bool) =>
            cond y4 (some []) (some (nameOf p t[k]))) = some (realOf p t[k]) := by
          unfold realOf isReal
          cases nameOf p t[k] == [67, 111, 109, 109, 111, 110] <;> cases nameOf p t[k] == [73, 110, 104, 101, 114, 105, 116, 101, 100] <;> cases nameOf p t[k] == [79, 116, 104, 101, 114] <;> rfl
        rw [loopM_next (x' := (((k + 1 : Nat) : Int), mput m t[k] (realOf p t[k]), r.set k (realOf p t[k]))) (by
          simp only [scripts_realScripts_L0, lt_t hkt, cond_true, idx_nat hkt, some_bind, wi_succ (k := k) (by omega), idx_nat hkr, mhas, hg, Option.isSome_none, Bool.not_false, Name_eq p hp, hval, setM_nat hkr])]
        apply fin
        intro c s h
        rw [mget_put] at h
        by_cases e : c = t[k]
        · simp [e] at h; rw [e]; exact h.symm
        · simp [e] at h; exact hm c s h
  have := key t.length 0 [] (List.replicate t.length []) (by omega) (by simp) (by intro c s h; cases h)
  have e0 : ((0 : Nat) : Int) = 0 := rfl
  rw [e0] at this
  rw [this]; simp
end Go.M

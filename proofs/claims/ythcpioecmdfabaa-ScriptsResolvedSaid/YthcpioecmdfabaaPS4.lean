/- What the plain counterparts answer. Conditions: none. -/
import Derived.Test.YthcpioecmdfabaaPS3
set_option linter.unusedSimpArgs false
set_option linter.unusedVariables false
set_option linter.unnecessarySimpa false
namespace Go.M
open Go.AV

/-! ## The order of strings -/
theorem bl_eq : ∀ (x y : Str), Op.bytesLess x y = decide (x < y)
  | [], [] => by simp [Op.bytesLess]
  | _ :: _, [] => by simp [Op.bytesLess]
  | [], _ :: _ => by simp [Op.bytesLess]
  | a :: x, b :: y => by
    rw [Op.bytesLess, bl_eq x y]
    rw [Bool.eq_iff_iff]
    simp [List.cons_lt_cons_iff]

def SS (l : List Str) : Prop := l.Pairwise (· < ·)
theorem s_irr (x : Str) : ¬ x < x := List.lt_irrefl x
theorem s_tr {x y z : Str} (h : x < y) (h2 : y < z) : x < z := List.lt_trans h h2
theorem s_tri {x y : Str} (h : ¬ x < y) (h2 : x ≠ y) : y < x := by
  by_cases h3 : y < x
  · exact h3
  · exact absurd (List.le_antisymm (List.not_lt.1 h3) (List.not_lt.1 h)) h2

theorem SS_ext : ∀ {l m : List Str}, SS l → SS m → (∀ x, x ∈ l ↔ x ∈ m) → l = m := by
  intro l
  induction l with
  | nil =>
    intro m _ _ h
    cases m with
    | nil => rfl
    | cons y m => have := (h y).2 (by simp); cases this
  | cons x l ih =>
    intro m hl hm h
    cases m with
    | nil => have := (h x).1 (by simp); cases this
    | cons y m =>
      have hl' := List.pairwise_cons.1 hl
      have hm' := List.pairwise_cons.1 hm
      have hxy : x = y := by
        have h1 := List.mem_cons.1 ((h x).1 (by simp))
        have h2 := List.mem_cons.1 ((h y).2 (by simp))
        cases h1 with
        | inl e => exact e
        | inr h1 =>
          cases h2 with
          | inl e => exact e.symm
          | inr h2 => exact absurd (s_tr (hl'.1 y h2) (hm'.1 x h1)) (s_irr x)
      subst hxy
      congr 1
      apply ih hl'.2 hm'.2
      intro z
      constructor
      · intro hz
        have := List.mem_cons.1 ((h z).1 (by simp [hz]))
        cases this with
        | inl e => subst e; exact absurd (hl'.1 z hz) (s_irr z)
        | inr h => exact h
      · intro hz
        have := List.mem_cons.1 ((h z).2 (by simp [hz]))
        cases this with
        | inl e => subst e; exact absurd (hm'.1 z hz) (s_irr z)
        | inr h => exact h

/-! ## Membership -/
theorem Has_eq (l : List Str) (x : Str) (hl : l.length ≤ 9223372036854775807) : ref40_Has l x = some (decide (x ∈ l)) := by
  unfold ref40_Has
  have h := loop_list0 (B := Unit) l (fun k _ => (k : Int)) (body := fun (i : Int) => ref40_Has_L0 l x i)
    (fun _ y _ => if !(y == x) then some (.next ()) else some (.done (.inr true))) (fun _ => .inl ()) ?_ ?_ ()
  · rw [z0] at h
    rw [h, runL_all, some_bind]
    by_cases hm : x ∈ l
    · have : l.all (fun y => !(y == x)) = false := by rw [List.all_eq_false]; exact ⟨x, hm, by simp⟩
      simp [this, hm]
    · have : l.all (fun y => !(y == x)) = true := by
        rw [List.all_eq_true]; intro y hy; simp; intro e; subst e; exact hm hy
      rw [if_pos this]; simp [hm]
  · intro k _ hk
    simp only [ref40_Has_L0, lt_t hk, cond_true, idx_nat hk, some_bind, wi_succ (k := k) (by omega)]
    cases e : l[k] == x <;> simp
  · intro _
    simp only [ref40_Has_L0, lt_f (Nat.le_refl _), cond_false]

/-! ## The reference's sorted list -/
theorem with_eq (l : List Str) (x : Str) (hl : l.length ≤ 1000) (hs : SS l) : ∃ r, ref40_with l x = some r ∧ SS r ∧ (∀ y, y ∈ r ↔ y = x ∨ y ∈ l) ∧ r.length ≤ l.length + 1 := by
  unfold ref40_with
  rw [Has_eq l x (by omega), some_bind]
  by_cases hm : x ∈ l
  · refine ⟨l, by simp [hm], hs, ?_, by omega⟩
    intro y
    constructor
    · exact Or.inr
    · rintro (e | h)
      · subst e; exact hm
      · exact h
  · simp only [hm, decide_false, cond_false]
    have key : ∀ (n k : Nat), k + n = l.length → (∀ i (h : i < l.length), i < k → l[i] < x) → ∃ j, j ≤ l.length ∧ loopM (fun (i : Int) => ref40_with_L0 l x i) (k : Int) = some (j : Int) ∧ (∀ i (h : i < l.length), i < j → l[i] < x) ∧ (∀ h : j < l.length, ¬ l[j] < x) := by
      intro n
      induction n with
      | zero =>
        intro k hk hi
        refine ⟨k, by omega, ?_, hi, by intro h; omega⟩
        apply loopM_done
        simp only [ref40_with_L0, pv_bind, lt_f (n := l.length) (k := k) (by omega), gM_f, some_bind, Bool.false_and, cond_false]
      | succ n ih =>
        intro k hk hi
        have hkl : k < l.length := by omega
        by_cases hlt : l[k] < x
        · obtain ⟨j, h1, h2, h3, h4⟩ := ih (k + 1) (by omega) (by
            intro i h hik
            by_cases e : i = k
            · subst e; exact hlt
            · exact hi i h (by omega))
          refine ⟨j, h1, ?_, h3, h4⟩
          rw [← h2]
          apply loopM_next
          simp only [ref40_with_L0, pv_bind, lt_t hkl, gM_t, idx_nat hkl, some_bind, bl_eq, hlt, decide_true, Bool.and_self, cond_true, wi_succ (k := k) (by omega)]
        · refine ⟨k, by omega, ?_, hi, fun _ => hlt⟩
          apply loopM_done
          simp only [ref40_with_L0, pv_bind, lt_t hkl, gM_t, idx_nat hkl, some_bind, bl_eq, hlt, decide_false, Bool.and_false, cond_false]
    obtain ⟨j, hj, hloop, hlo, hhi⟩ := key l.length 0 (by omega) (by intro i h hi; omega)
    rw [z0] at hloop
    have hlen1 : (l.take j).length = j := by simp; omega
    refine ⟨l.take j ++ x :: l.drop j, ?_, ?_, ?_, ?_⟩
    · simp only [hloop, some_bind, slc_take hj, slc_drop hj]
      rw [app_ok (by simp; omega), some_bind, app_ok (by simp; omega), some_bind, app_ok (by simp; omega), some_bind]
      simp
    · refine List.pairwise_append.2 ⟨List.Pairwise.sublist (List.take_sublist _ _) hs, List.pairwise_cons.2 ⟨?_, List.Pairwise.sublist (List.drop_sublist _ _) hs⟩, ?_⟩
      · intro y hy
        obtain ⟨i, hi, rfl⟩ := List.getElem_of_mem hy
        simp only [List.length_drop] at hi
        have hjl : j < l.length := by omega
        rw [List.getElem_drop]
        have h1 : x < l[j] := s_tri (hhi hjl) (by intro e; exact hm (e ▸ List.getElem_mem hjl))
        by_cases e : i = 0
        · subst e; exact h1
        · exact s_tr h1 (List.pairwise_iff_getElem.1 hs j (j + i) hjl (by omega) (by omega))
      · intro a ha b hb
        obtain ⟨i, hi, rfl⟩ := List.getElem_of_mem ha
        rw [hlen1] at hi
        rw [List.getElem_take]
        have hil : i < l.length := by omega
        cases List.mem_cons.1 hb with
        | inl e => rw [e]; exact hlo i hil hi
        | inr hb =>
          obtain ⟨i2, hi2, rfl⟩ := List.getElem_of_mem hb
          simp only [List.length_drop] at hi2
          rw [List.getElem_drop]
          exact List.pairwise_iff_getElem.1 hs i (j + i2) hil (by omega) (by omega)
    · intro y
      have : y ∈ l ↔ y ∈ l.take j ∨ y ∈ l.drop j := by
        conv => lhs; rw [← List.take_append_drop j l]
        exact List.mem_append
      rw [List.mem_append, List.mem_cons, this]
      constructor
      · rintro (h | h | h)
        · exact Or.inr (Or.inl h)
        · exact Or.inl h
        · exact Or.inr (Or.inr h)
      · rintro (h | h | h)
        · exact Or.inr (Or.inl h)
        · exact Or.inl h
        · exact Or.inr (Or.inr h)
    · simp; omega

def IsOf (rs r : List Str) : Prop := SS r ∧ ∀ y, y ∈ r ↔ y ≠ [] ∧ y ∈ rs

theorem RLoop (p : Property) (hp : Sm p) (t : List Int) (ht : t.length ≤ 500) : ∀ (n k : Nat) (acc : List Str), k + n = t.length → acc.length ≤ k → SS acc → ∃ r, loopM (fun (x : (List Str) × Int) => ref40_Of_L0 t p x.1 x.2) (acc, (k : Int)) = some r ∧ SS r ∧ (∀ y, y ∈ r ↔ y ∈ acc ∨ (y ≠ [] ∧ y ∈ (t.drop k).map (realOf p))) ∧ r.length ≤ t.length := by
  intro n
  induction n with
  | zero =>
    intro k acc hk ha hs
    have : k = t.length := by omega
    subst this
    refine ⟨acc, ?_, hs, by simp, ha⟩
    apply loopM_done
    simp only [ref40_Of_L0, lt_f (Nat.le_refl _), cond_false]
  | succ n ih =>
    intro k acc hk ha hs
    have hkt : k < t.length := by omega
    rw [List.drop_eq_getElem_cons hkt, List.map_cons]
    cases hr : isReal (nameOf p t[k]) with
    | false =>
      obtain ⟨r, h1, h2, h3, h4⟩ := ih (k + 1) acc (by omega) (by omega) hs
      have hz := (realOf_nil p t[k]).2 hr
      refine ⟨r, ?_, h2, ?_, h4⟩
      · rw [← h1]
        apply loopM_next
        simp only [ref40_Of_L0, lt_t hkt, cond_true, idx_nat hkt, some_bind, RName_eq p hp, Real_eq, hr, cond_false, wi_succ (k := k) (by omega)]
      · intro y
        rw [h3 y, hz, List.mem_cons]
        constructor
        · rintro (h | ⟨h, h'⟩)
          · exact Or.inl h
          · exact Or.inr ⟨h, Or.inr h'⟩
        · rintro (h | ⟨h, h' | h'⟩)
          · exact Or.inl h
          · exact absurd h' h
          · exact Or.inr ⟨h, h'⟩
    | true =>
      obtain ⟨acc', a1, a2, a3, a4⟩ := with_eq acc (nameOf p t[k]) (by omega) hs
      obtain ⟨r, h1, h2, h3, h4⟩ := ih (k + 1) acc' (by omega) (by omega) a2
      have hz := realOf_eq hr
      have hne : nameOf p t[k] ≠ [] := isNm_ne (idx_name p t[k]).2
      refine ⟨r, ?_, h2, ?_, h4⟩
      · rw [← h1]
        apply loopM_next
        simp only [ref40_Of_L0, lt_t hkt, cond_true, idx_nat hkt, some_bind, RName_eq p hp, Real_eq, hr, a1, wi_succ (k := k) (by omega)]
      · intro y
        rw [h3 y, a3 y, hz, List.mem_cons]
        constructor
        · rintro ((h | h) | ⟨h, h'⟩)
          · subst h; exact Or.inr ⟨hne, Or.inl rfl⟩
          · exact Or.inl h
          · exact Or.inr ⟨h, Or.inr h'⟩
        · rintro (h | ⟨h, h' | h'⟩)
          · exact Or.inl (Or.inr h)
          · exact Or.inl (Or.inl h')
          · exact Or.inr ⟨h, h'⟩

theorem ROf (p : Property) (hp : Sm p) (t : List Int) (ht : t.length ≤ 500) : ∃ r, ref40_Of p t = some r ∧ IsOf (t.map (realOf p)) r := by
  obtain ⟨r, h1, h2, h3, _⟩ := RLoop p hp t ht t.length 0 [] (by omega) (by simp) List.Pairwise.nil
  refine ⟨r, ?_, h2, ?_⟩
  · unfold ref40_Of
    rw [z0] at h1
    rw [h1]; rfl
  · intro y
    rw [h3 y]; simp

/-! ## The program's sorted list -/
theorem PLoop (rs : List Str) (ht : rs.length ≤ 1000) : ∀ (n k : Nat) (m : List (Str × Bool)) (out : List Str), k + n = rs.length → out.length ≤ k → out.Nodup → (∀ s, mgetD m s false = true ↔ s ∈ out) → ∃ r, loopM (fun (x : Int × (List (Str × Bool)) × (List Str)) => scripts_Of_L0 rs x.1 x.2.1 x.2.2) ((k : Int), m, out) = some r ∧ r.Nodup ∧ (∀ y, y ∈ r ↔ y ∈ out ∨ (y ≠ [] ∧ y ∈ rs.drop k)) ∧ r.length ≤ rs.length := by
  intro n
  induction n with
  | zero =>
    intro k m out hk ho hn hm
    have : k = rs.length := by omega
    subst this
    refine ⟨out, ?_, hn, by simp, ho⟩
    apply loopM_done
    simp only [scripts_Of_L0, lt_f (Nat.le_refl _), cond_false]
  | succ n ih =>
    intro k m out hk ho hn hm
    have hkt : k < rs.length := by omega
    rw [List.drop_eq_getElem_cons hkt]
    by_cases hz : rs[k] = []
    · obtain ⟨r, h1, h2, h3, h4⟩ := ih (k + 1) m out (by omega) (by omega) hn hm
      refine ⟨r, ?_, h2, ?_, h4⟩
      · rw [← h1]
        apply loopM_next
        simp [scripts_Of_L0, idx_nat hkt, hz, hkt, wi_succ (k := k) (by omega), pv]
      · intro y
        rw [h3 y, hz, List.mem_cons]
        constructor
        · rintro (h | ⟨h, h'⟩)
          · exact Or.inl h
          · exact Or.inr ⟨h, Or.inr h'⟩
        · rintro (h | ⟨h, h' | h'⟩)
          · exact Or.inl h
          · exact absurd h' h
          · exact Or.inr ⟨h, h'⟩
    · have hz' : (rs[k] == []) = false := by simpa using hz
      by_cases hin : rs[k] ∈ out
      · obtain ⟨r, h1, h2, h3, h4⟩ := ih (k + 1) m out (by omega) (by omega) hn hm
        refine ⟨r, ?_, h2, ?_, h4⟩
        · rw [← h1]
          apply loopM_next
          simp only [scripts_Of_L0, lt_t hkt, cond_true, idx_nat hkt, some_bind, pv_bind, hz', (hm rs[k]).2 hin, Bool.not_true, Bool.and_false, cond_false, wi_succ (k := k) (by omega)]
        · intro y
          rw [h3 y, List.mem_cons]
          constructor
          · rintro (h | ⟨h, h'⟩)
            · exact Or.inl h
            · exact Or.inr ⟨h, Or.inr h'⟩
          · rintro (h | ⟨h, h' | h'⟩)
            · exact Or.inl h
            · exact Or.inl (h' ▸ hin)
            · exact Or.inr ⟨h, h'⟩
      · have hg : mgetD m rs[k] false = false := by
          cases hc : mgetD m rs[k] false with
          | false => rfl
          | true => exact absurd ((hm _).1 hc) hin
        obtain ⟨r, h1, h2, h3, h4⟩ := ih (k + 1) (mput m rs[k] true) (out ++ [rs[k]]) (by omega) (by simp; omega) (by
            rw [List.nodup_append]; refine ⟨hn, by simp, ?_⟩
            intro a ha b hb e
            simp at hb; subst hb; subst e; exact hin ha) (by
            intro s
            simp only [mgetD, mget_put, List.mem_append, List.mem_singleton]
            by_cases e : s = rs[k]
            · simp [e]
            · simp only [e, if_false, or_false]; exact hm s)
        refine ⟨r, ?_, h2, ?_, h4⟩
        · rw [← h1]
          apply loopM_next
          simp only [scripts_Of_L0, lt_t hkt, cond_true, idx_nat hkt, some_bind, pv_bind, hz', hg, Bool.not_false, Bool.and_self, wi_succ (k := k) (by omega)]
          rw [app_ok (by simp; omega)]; rfl
        · intro y
          rw [h3 y, List.mem_cons, List.mem_append, List.mem_singleton]
          constructor
          · rintro ((h | h) | ⟨h, h'⟩)
            · exact Or.inl h
            · exact Or.inr ⟨by rw [h]; exact hz, Or.inl h⟩
            · exact Or.inr ⟨h, Or.inr h'⟩
          · rintro (h | ⟨h, h' | h'⟩)
            · exact Or.inl (Or.inl h)
            · exact Or.inl (Or.inr h')
            · exact Or.inr ⟨h, h'⟩

theorem POf (p : Property) (hp : Sm p) (t : List Int) (ht : t.length ≤ 500) : ∃ r, scripts_Of p t = some r ∧ IsOf (t.map (realOf p)) r := by
  obtain ⟨r, h1, h2, h3, h4⟩ := PLoop (t.map (realOf p)) (by simp; omega) (t.map (realOf p)).length 0 [] [] (by omega) (by simp) List.Pairwise.nil (by intro s; simp [mgetD, mget])
  rw [List.length_map] at h4
  refine ⟨r.mergeSort fun x y => decide (x ≤ y), ?_, ?_, ?_⟩
  · unfold scripts_Of
    rw [realScripts_eq p hp t (by omega), some_bind]
    rw [z0] at h1
    rw [h1, some_bind, sortS, if_pos (by unfold LIM; omega)]; rfl
  · have hpw := List.pairwise_mergeSort (le := fun (x y : Str) => decide (x ≤ y)) (by
      intro a b c h1 h2
      simp only [decide_eq_true_eq] at h1 h2 ⊢
      exact List.le_trans h1 h2) (by
      intro a b
      simp only [Bool.or_eq_true, decide_eq_true_eq]
      exact List.le_total a b) r
    have hnd : (r.mergeSort fun x y => decide (x ≤ y)).Nodup := (List.mergeSort_perm r _).nodup_iff.2 h2
    refine List.Pairwise.imp₂ ?_ hpw hnd
    intro a b hab hne
    simp only [decide_eq_true_eq] at hab
    by_cases h : a < b
    · exact h
    · exact absurd (List.le_antisymm hab (List.not_lt.1 h)) hne
  · intro y
    rw [List.mem_mergeSort, h3 y]; simp

theorem IsOf_uniq {rs r r' : List Str} (h : IsOf rs r) (h' : IsOf rs r') : r = r' := SS_ext h.1 h'.1 (fun x => (h.2 x).trans (h'.2 x).symm)
theorem IsOf_congr {rs rs' r r' : List Str} (h : IsOf rs r) (h' : IsOf rs' r') (e : ∀ y, y ≠ [] → (y ∈ rs ↔ y ∈ rs')) : r = r' := SS_ext h.1 h'.1 (fun x => by
  rw [h.2 x, h'.2 x]
  constructor
  · rintro ⟨a, b⟩; exact ⟨a, (e x a).1 b⟩
  · rintro ⟨a, b⟩; exact ⟨a, (e x a).2 b⟩)

noncomputable def ofP (p : Property) (t : List Int) : List Str := (scripts_Of p t).getD []
theorem Of_eq (p : Property) (hp : Sm p) (t : List Int) (ht : t.length ≤ 500) : scripts_Of p t = some (ofP p t) := by
  obtain ⟨r, h, _⟩ := POf p hp t ht
  unfold ofP; rw [h]; rfl
theorem isOf (p : Property) (hp : Sm p) (t : List Int) (ht : t.length ≤ 500) : IsOf (t.map (realOf p)) (ofP p t) := by
  obtain ⟨r, h, h2⟩ := POf p hp t ht
  unfold ofP; rw [h]; exact h2
theorem ROf_eq (p : Property) (hp : Sm p) (t : List Int) (ht : t.length ≤ 500) : ref40_Of p t = some (ofP p t) := by
  obtain ⟨r, h, h2⟩ := ROf p hp t ht
  rw [h, IsOf_uniq h2 (isOf p hp t ht)]
theorem SS_nodup {l : List Str} (h : SS l) : l.Nodup := by
  refine List.Pairwise.imp (S := fun a b => a ≠ b) ?_ h
  intro a b hab e
  subst e
  exact s_irr a hab
theorem nodup_len {l m : List Str} (h : l.Nodup) (hs : ∀ x ∈ l, x ∈ m) : l.length ≤ m.length := by
  induction l generalizing m with
  | nil => simp
  | cons x l ih =>
    have hx := hs x (by simp)
    have h' := List.nodup_cons.1 h
    have := ih (m := m.erase x) h'.2 (by
      intro y hy
      have hne : y ≠ x := fun e => h'.1 (e ▸ hy)
      exact (List.mem_erase_of_ne hne).2 (hs y (by simp [hy])))
    rw [List.length_erase_of_mem hx] at this
    have hpos := List.length_pos_of_mem hx
    simp only [List.length_cons]; omega
theorem ofP_len (p : Property) (hp : Sm p) (t : List Int) (ht : t.length ≤ 500) : (ofP p t).length ≤ t.length := by
  have := nodup_len (SS_nodup (isOf p hp t ht).1) (m := t.map (realOf p)) (fun x hx => (((isOf p hp t ht).2 x).1 hx).2)
  simpa using this
end Go.M

/- What the plain counterparts answer. Conditions: none. -/
import Derived.Test.YthcpioecmdfabaaPS6
set_option linter.unusedSimpArgs false
set_option linter.unusedVariables false
set_option linter.unnecessarySimpa false
namespace Go.M
open Go.AV

/-! ## The standing example -/
abbrev aP : Property := { Names := [[67, 111, 109, 109, 111, 110], [76, 97, 116, 105, 110], [71, 114, 101, 101, 107]], Spans := [({ Lo := 97, Hi := 122, Value := 1 } : Span), ({ Lo := 945, Hi := 969, Value := 2 } : Span)] }
abbrev aT : List Int := [97, 49, 946]
theorem aSm : Sm aP := by
  refine ⟨⟨⟨by decide, ?_⟩, by decide, ?_⟩, by decide⟩
  · intro y hy
    simp only [aP, List.mem_cons, List.not_mem_nil, or_false] at hy
    rcases hy with rfl | rfl | rfl <;> decide
  · intro y hy
    simp only [aP, List.mem_cons, List.not_mem_nil, or_false] at hy
    rcases hy with rfl | rfl <;> refine ⟨?_, ?_, ?_⟩ <;> decide
theorem a_vP : vP aP = true := by decide
theorem a_real : aT.map (realOf aP) = [[76, 97, 116, 105, 110], [], [71, 114, 101, 101, 107]] := by
  have h : cnt aP = aP := by unfold cnt; rw [if_pos a_vP]
  simp only [aT, List.map_cons, List.map_nil, realOf, nameOf, h]
  decide
theorem a_of : ofP aP aT = [[71, 114, 101, 101, 107], [76, 97, 116, 105, 110]] := by
  have h := isOf aP aSm aT (by decide)
  rw [a_real] at h
  refine IsOf_uniq h ⟨?_, ?_⟩
  · unfold SS; decide
  · intro y
    simp only [List.mem_cons, List.not_mem_nil, or_false]
    constructor
    · rintro (h | h)
      · exact ⟨by rw [h]; decide, Or.inr (Or.inr h)⟩
      · exact ⟨by rw [h]; decide, Or.inl h⟩
    · rintro ⟨h1, h | h | h⟩
      · exact Or.inr h
      · exact absurd h h1
      · exact Or.inl h
theorem okSets_nil : okSets [] := ⟨by decide, by intro s hs; cases hs⟩
theorem Mixed_eq (p : Property) (hp : Sm p) (t : List Int) (ht : t.length ≤ 500) : scripts_Mixed p t = some (decide (1 < ((ofP p t).length : Int))) := by
  unfold scripts_Mixed; rw [Of_eq p hp t ht]; rfl
theorem RMixed_eq (p : Property) (hp : Sm p) (t : List Int) (ht : t.length ≤ 500) : ref40_Mixed p t = some (decide (1 < ((ofP p t).length : Int))) := by
  unfold ref40_Mixed; rw [ROf_eq p hp t ht]; rfl

theorem alive : law40_alive = some true := by
  unfold law40_alive
  rw [Runs_eq aP aSm aT (by decide), some_bind, a_real, SameRanges_eq _ _ (by decide), some_bind, pv_bind,
    Mixed_eq aP aSm aT (by decide), Of_eq aP aSm aT (by decide), Level_eq aP aSm [] okSets_nil aT (by decide), a_of]
  have h1 : runsOf (resS [[76, 97, 116, 105, 110], [], [71, 114, 101, 101, 107]]) = [({ Lo := 0, Hi := 2 } : Range), ({ Lo := 2, Hi := 3 } : Range)] := by decide
  rw [h1]
  have h2 : decide (1 < (([[71, 114, 101, 101, 107], [76, 97, 116, 105, 110]] : List Str).length : Int)) = true := by decide
  simp only [decide_true, gM_t, some_bind, pv_bind, h2, Bool.and_self]
  rw [Strings_eq _ _ (by decide)]
  decide

theorem few_eq (p : Property) (t : List Int) : law40_few p t = some (decide (p.Names.length ≤ 20) && decide (p.Spans.length ≤ 16) && decide (t.length ≤ 40)) := by
  unfold law40_few
  simp only [pv_bind]
  congr 1
  rw [Bool.eq_iff_iff]; simp
  omega
theorem few_sm {p : Property} {t : List Int} (ok : okProperty p) (h : (decide (p.Names.length ≤ 20) && decide (p.Spans.length ≤ 16) && decide (t.length ≤ 40)) = true) : Sm p ∧ t.length ≤ 40 := by
  simp only [Bool.and_eq_true, decide_eq_true_eq] at h
  exact ⟨⟨ok, by omega⟩, h.2⟩

/-! ## Laws -/
theorem law40_ScriptsOf_true (p : Property) (t : List Int) (ok0 : okProperty p) (ok1 : t.length ≤ 9223372036854775807 ∧ ∀ y0 ∈ t, (-9223372036854775808 ≤ y0 ∧ y0 ≤ 9223372036854775807)) : law40_ScriptsOf p t = some true := by
  unfold law40_ScriptsOf
  rw [few_eq, some_bind, alive]
  cases hf : (decide (p.Names.length ≤ 20) && decide (p.Spans.length ≤ 16) && decide (t.length ≤ 40)) with
  | false => rfl
  | true =>
    obtain ⟨hp, ht⟩ := few_sm ok0 hf
    have ht' : t.length ≤ 500 := by omega
    have hol := ofP_len p hp t ht'
    simp only [Bool.not_true, cond_false, Of_eq p hp t ht', ROf_eq p hp t ht', some_bind, Strings_eq _ _ (show (ofP p t).length ≤ 1000 by omega), decide_true, pv_bind, gM_t, Mixed_eq p hp t ht', RMixed_eq p hp t ht', BEq.rfl, Bool.and_self]

theorem law40_ScriptsRuns_true (p : Property) (t : List Int) (ok0 : okProperty p) (ok1 : t.length ≤ 9223372036854775807 ∧ ∀ y0 ∈ t, (-9223372036854775808 ≤ y0 ∧ y0 ≤ 9223372036854775807)) : law40_ScriptsRuns p t = some true := by
  unfold law40_ScriptsRuns
  rw [few_eq, some_bind, alive]
  cases hf : (decide (p.Names.length ≤ 20) && decide (p.Spans.length ≤ 16) && decide (t.length ≤ 40)) with
  | false => rfl
  | true =>
    obtain ⟨hp, ht⟩ := few_sm ok0 hf
    have ht' : t.length ≤ 500 := by omega
    have hrl := runsOf_len (resS (t.map (realOf p)))
    rw [resS_len, List.length_map] at hrl
    simp only [Bool.not_true, pv_bind, Bool.not_false, gM_t, Runs_eq p hp t ht', RRuns_eq p hp t ht', some_bind, SameRanges_eq _ _ (show (runsOf (resS (t.map (realOf p)))).length ≤ 1000 by omega), decide_true, Bool.or_true, Bool.and_self]

theorem law40_ScriptsLevels_true (p : Property) (sets : List (List Str)) (t : List Int) (ok0 : okProperty p) (ok1 : sets.length ≤ 9223372036854775807 ∧ ∀ y0 ∈ sets, (y0.length ≤ 9223372036854775807 ∧ ∀ y1 ∈ y0, (y1.length ≤ 9223372036854775807))) (ok2 : t.length ≤ 9223372036854775807 ∧ ∀ y0 ∈ t, (-9223372036854775808 ≤ y0 ∧ y0 ≤ 9223372036854775807)) : law40_ScriptsLevels p sets t = some true := by
  unfold law40_ScriptsLevels
  rw [few_eq, some_bind, alive, pv_bind]
  cases hf : (decide (p.Names.length ≤ 20) && decide (p.Spans.length ≤ 16) && decide (t.length ≤ 40)) with
  | false => rfl
  | true =>
    obtain ⟨hp, ht⟩ := few_sm ok0 hf
    have ht' : t.length ≤ 500 := by omega
    have hs : okSets sets := ⟨ok1.1, fun s h => (ok1.2 s h).1⟩
    by_cases h10 : sets.length ≤ 10
    · have h10' : decide (10 < (sets.length : Int)) = false := by simp; omega
      have h := loop_list0 (B := Unit) sets (fun k _ => (k : Int)) (body := fun (i : Int) => law40_ScriptsLevels_L0 sets i)
        (fun _ s _ => if decide (s.length ≤ 10) then some (.next ()) else some (.done (.inr true))) (fun _ => .inl ()) ?_ ?_ ()
      · rw [z0] at h
        simp only [Bool.not_true, h10', Bool.or_self, cond_false]
        rw [h, runL_all, some_bind]
        cases sets.all (fun s => decide (s.length ≤ 10)) with
        | false => rfl
        | true => simp only [if_true, Sum.elim_inl, Level_eq p hp sets hs t ht', RLevel_eq p hp sets hs t ht', some_bind, pv_bind, decide_true, gM_t, Bool.and_self]
      · intro k _ hk
        simp only [law40_ScriptsLevels_L0, lt_t hk, cond_true, idx_nat hk, some_bind, wi_succ (k := k) (by omega), alive]
        by_cases h : sets[k].length ≤ 10
        · have : decide (10 < (sets[k].length : Int)) = false := by simp; omega
          simp [h, this]
        · have : decide (10 < (sets[k].length : Int)) = true := by simp; omega
          simp [h, this]
      · intro _
        simp only [law40_ScriptsLevels_L0, lt_f (Nat.le_refl _), cond_false]
    · have h10' : decide (10 < (sets.length : Int)) = true := by simp; omega
      simp [h10']

/-! ## Ignored characters -/
def inter (c : Int) : List Int → List Int
  | [] => []
  | x :: xs => c :: x :: inter c xs
theorem inter_len (c : Int) : ∀ l : List Int, (inter c l).length = 2 * l.length := by
  intro l
  induction l with
  | nil => rfl
  | cons x l ih => simp [inter, ih]; omega
theorem inter_mem (c : Int) : ∀ (l : List Int) (y : Int), y ∈ inter c l ↔ (y = c ∧ l ≠ []) ∨ y ∈ l := by
  intro l
  induction l with
  | nil => intro y; simp [inter]
  | cons x l ih =>
    intro y
    simp only [inter, List.mem_cons, ih]
    by_cases h : y = c <;> simp [h]
theorem ign_loop (c : Int) (t : List Int) (ht : t.length ≤ 1000) : ∀ (n k : Nat) (out : List Int), k + n = t.length → out.length ≤ 2 * k → loopM (fun (x : Int × (List Int)) => law40_ScriptsIgnores_L0 t c x.1 x.2) ((k : Int), out) = some (out ++ inter c (t.drop k)) := by
  intro n
  induction n with
  | zero =>
    intro k out hk ho
    rw [loopM_done (y := out) (by simp only [law40_ScriptsIgnores_L0, lt_f (n := t.length) (k := k) (by omega), cond_false])]
    rw [List.drop_eq_nil_of_le (by omega)]; simp [inter]
  | succ n ih =>
    intro k out hk ho
    have hkt : k < t.length := by omega
    rw [loopM_next (x' := (((k + 1 : Nat) : Int), out ++ [c, t[k]])) (by
      simp only [law40_ScriptsIgnores_L0, lt_t hkt, cond_true, idx_nat hkt, some_bind, wi_succ (k := k) (by omega)]
      rw [app_ok (by simp; omega)]; rfl)]
    rw [ih (k + 1) _ (by omega) (by simp; omega), List.drop_eq_getElem_cons hkt]
    simp [inter]

theorem law40_ScriptsIgnores_true (p : Property) (t : List Int) (c : Int) (ok0 : okProperty p) (ok1 : t.length ≤ 9223372036854775807 ∧ ∀ y0 ∈ t, (-9223372036854775808 ≤ y0 ∧ y0 ≤ 9223372036854775807)) (ok2 : -9223372036854775808 ≤ c ∧ c ≤ 9223372036854775807) : law40_ScriptsIgnores p t c = some true := by
  unfold law40_ScriptsIgnores
  rw [few_eq, some_bind, alive, pv_bind]
  cases hf : (decide (p.Names.length ≤ 20) && decide (p.Spans.length ≤ 16) && decide (t.length ≤ 40)) with
  | false => rfl
  | true =>
    obtain ⟨hp, ht⟩ := few_sm ok0 hf
    have ht' : t.length ≤ 500 := by omega
    simp only [Bool.not_true, Bool.not_false, gM_t, RName_eq p hp, some_bind, Real_eq, Bool.false_or]
    cases hr : isReal (nameOf p c) with
    | true => rfl
    | false =>
      have hz := (realOf_nil p c).2 hr
      have hl := ign_loop c t (by omega) t.length 0 [] (by omega) (by simp)
      rw [z0] at hl
      simp only [List.nil_append, List.drop_zero] at hl
      have hil := inter_len c t
      simp only [cond_false, hl, some_bind]
      rw [app_ok (by simp; omega), some_bind]
      generalize ht2 : inter c t ++ [c] = t2
      have ht2l : t2.length ≤ 500 := by rw [← ht2]; simp; omega
      have hmem : ∀ y, y ∈ t2 ↔ y = c ∨ y ∈ t := by
        intro y
        rw [← ht2, List.mem_append, inter_mem, List.mem_singleton]
        constructor
        · rintro ((⟨h, _⟩ | h) | h)
          · exact Or.inl h
          · exact Or.inr h
          · exact Or.inl h
        · rintro (h | h)
          · exact Or.inr h
          · exact Or.inl (Or.inr h)
      have hof : ofP p t2 = ofP p t := by
        refine IsOf_congr (isOf p hp t2 ht2l) (isOf p hp t ht') ?_
        intro y hy
        simp only [List.mem_map]
        constructor
        · rintro ⟨a, h1, h2⟩
          rcases (hmem a).1 h1 with e | h
          · subst e; rw [hz] at h2; exact absurd h2.symm hy
          · exact ⟨a, h, h2⟩
        · rintro ⟨a, h1, h2⟩
          exact ⟨a, (hmem a).2 (Or.inr h1), h2⟩
      have hasc : ascii t2 = true → ascii t = true := by
        unfold ascii
        rw [List.all_eq_true, List.all_eq_true]
        intro h x hx
        exact h x ((hmem x).2 (Or.inr hx))
      have hol := ofP_len p hp t ht'
      simp only [Level_eq p hp [] okSets_nil t ht', Level_eq p hp [] okSets_nil t2 ht2l, Of_eq p hp t2 ht2l, Of_eq p hp t ht', some_bind, hof, Strings_eq _ _ (show (ofP p t).length ≤ 1000 by omega), decide_true, pv_bind, Bool.true_and]
      have hlv : (decide (lvl [] t (ofP p t) = lvl [] t2 (ofP p t)) || decide (lvl [] t (ofP p t) = 1)) = true := by
        unfold lvl
        cases h1 : ascii t with
        | true => simp
        | false =>
          have h2 : ascii t2 = false := by
            cases h2 : ascii t2 with
            | false => rfl
            | true => rw [hasc h2] at h1; cases h1
          simp [h2]
      rw [hlv]; rfl

/-! ## Longer texts -/
theorem lvl_mono {t t2 : List Int} {o o2 : List Str} (ha : ascii t2 = true → ascii t = true) (hl : o.length ≤ o2.length) : lvl [] t o ≤ lvl [] t2 o2 := by
  unfold lvl
  cases h1 : ascii t with
  | true =>
    simp only [if_true]
    split
    · omega
    · split
      · omega
      · simp
  | false =>
    have h2 : ascii t2 = false := by
      cases h2 : ascii t2 with
      | false => rfl
      | true => rw [ha h2] at h1; cases h1
    simp only [h2, Bool.false_eq_true, if_false, List.any_nil]
    split
    · split <;> omega
    · rw [if_neg (by omega)]; exact Int.le_refl _

theorem law40_ScriptsGrow_true (p : Property) (t u : List Int) (ok0 : okProperty p) (ok1 : t.length ≤ 9223372036854775807 ∧ ∀ y0 ∈ t, (-9223372036854775808 ≤ y0 ∧ y0 ≤ 9223372036854775807)) (ok2 : u.length ≤ 9223372036854775807 ∧ ∀ y0 ∈ u, (-9223372036854775808 ≤ y0 ∧ y0 ≤ 9223372036854775807)) : law40_ScriptsGrow p t u = some true := by
  unfold law40_ScriptsGrow
  rw [few_eq, some_bind, alive, pv_bind]
  cases hf : (decide (p.Names.length ≤ 20) && decide (p.Spans.length ≤ 16) && decide (t.length ≤ 40)) with
  | false => rfl
  | true =>
    obtain ⟨hp, ht⟩ := few_sm ok0 hf
    rw [few_eq]
    cases hf2 : (decide (p.Names.length ≤ 20) && decide (p.Spans.length ≤ 16) && decide (u.length ≤ 40)) with
    | false => rfl
    | true =>
      obtain ⟨_, hu⟩ := few_sm ok0 hf2
      have ht' : t.length ≤ 500 := by omega
      have hu' : u.length ≤ 500 := by omega
      have htu : (t ++ u).length ≤ 500 := by simp; omega
      simp only [Bool.not_true, Bool.not_false, gM_t, some_bind, Bool.or_self, cond_false]
      rw [app_ok (by simp; omega), some_bind, List.nil_append, app_ok (by omega), some_bind, Of_eq p hp t ht', some_bind, Of_eq p hp u hu', some_bind, Of_eq p hp _ htu, some_bind]
      have i1 := isOf p hp t ht'
      have i2 := isOf p hp u hu'
      have i3 := isOf p hp _ htu
      have l1 := ofP_len p hp t ht'
      have l2 := ofP_len p hp u hu'
      have l3 := ofP_len p hp _ htu
      have hsub : ∀ x, x ∈ ofP p (t ++ u) ↔ x ∈ ofP p t ∨ x ∈ ofP p u := by
        intro x
        rw [i3.2, i1.2, i2.2, List.map_append, List.mem_append]
        constructor
        · rintro ⟨h, h' | h'⟩
          · exact Or.inl ⟨h, h'⟩
          · exact Or.inr ⟨h, h'⟩
        · rintro (⟨h, h'⟩ | ⟨h, h'⟩)
          · exact ⟨h, Or.inl h'⟩
          · exact ⟨h, Or.inr h'⟩
      have hloop := loop_list0 (B := Unit) (ofP p (t ++ u)) (fun k _ => (k : Int)) (body := fun (i : Int) => law40_ScriptsGrow_L0 (ofP p (t ++ u)) (ofP p t) (ofP p u) i)
        (fun _ s _ => if true then some (.next ()) else some (.done (.inr false))) (fun _ => .inl ()) ?_ ?_ ()
      · rw [z0] at hloop
        rw [hloop, runL_all, some_bind]
        have hall : (ofP p (t ++ u)).all (fun _ => true) = true := by rw [List.all_eq_true]; intro x _; rfl
        rw [if_pos hall]
        have w1 : within (ofP p t) (ofP p (t ++ u)) = true := by
          unfold within; rw [List.all_eq_true]; intro x hx; rw [decide_eq_true_eq]; exact (hsub x).2 (Or.inl hx)
        have w2 : within (ofP p u) (ofP p (t ++ u)) = true := by
          unfold within; rw [List.all_eq_true]; intro x hx; rw [decide_eq_true_eq]; exact (hsub x).2 (Or.inr hx)
        have a1 : ascii (t ++ u) = true → ascii t = true := by
          unfold ascii; rw [List.all_append, Bool.and_eq_true]; exact fun h => h.1
        have a2 : ascii (t ++ u) = true → ascii u = true := by
          unfold ascii; rw [List.all_append, Bool.and_eq_true]; exact fun h => h.2
        have m1 : lvl [] t (ofP p t) ≤ lvl [] (t ++ u) (ofP p (t ++ u)) := lvl_mono a1 (nodup_len (SS_nodup i1.1) (fun x hx => (hsub x).2 (Or.inl hx)))
        have m2 : lvl [] u (ofP p u) ≤ lvl [] (t ++ u) (ofP p (t ++ u)) := lvl_mono a2 (nodup_len (SS_nodup i2.1) (fun x hx => (hsub x).2 (Or.inr hx)))
        simp only [Sum.elim_inl, Level_eq p hp [] okSets_nil _ htu, Level_eq p hp [] okSets_nil t ht', Level_eq p hp [] okSets_nil u hu', some_bind, Inside_eq _ _ (show (ofP p t).length ≤ 9223372036854775807 by omega) (show (ofP p (t ++ u)).length ≤ 9223372036854775807 by omega), Inside_eq _ _ (show (ofP p u).length ≤ 9223372036854775807 by omega) (show (ofP p (t ++ u)).length ≤ 9223372036854775807 by omega), w1, w2, pv_bind, gM_t, Bool.and_self, m1, m2, decide_true]
      · intro k _ hk
        have hm := (hsub _).1 (List.getElem_mem hk)
        simp only [law40_ScriptsGrow_L0, lt_t hk, cond_true, idx_nat hk, some_bind, Has_eq _ _ (show (ofP p t).length ≤ 9223372036854775807 by omega), Has_eq _ _ (show (ofP p u).length ≤ 9223372036854775807 by omega), pv_bind, wi_succ (k := k) (by omega), if_true]
        have hb : ((!decide ((ofP p (t ++ u))[k] ∈ ofP p t)) && !decide ((ofP p (t ++ u))[k] ∈ ofP p u)) = false := by
          rcases hm with h | h <;> simp [h]
        cases hd : decide ((ofP p (t ++ u))[k] ∈ ofP p t) with
        | true =>
          simp only [Bool.not_true, gM_f, some_bind, Bool.false_and, Bool.not_false, Bool.true_and, Bool.false_or]
          by_cases hk0 : k = 0
          · subst hk0; rfl
          · obtain ⟨j, rfl⟩ : ∃ j, k = j + 1 := ⟨k - 1, by omega⟩
            have h0 : decide ((0 : Int) < ((j + 1 : Nat) : Int)) = true := by rw [decide_eq_true_eq]; omega
            have hlt := List.pairwise_iff_getElem.1 i3.1 j (j + 1) (by omega) hk (by omega)
            simp only [h0, gM_t, wi_pred (k := j) (by omega), idx_nat (show j < (ofP p (t ++ u)).length by omega), some_bind, bl_eq, hlt, decide_true, Bool.not_true, Bool.and_false, cond_false]
        | false =>
          rw [hd] at hb
          simp only [Bool.not_false, Bool.true_and] at hb
          simp only [Bool.not_false, gM_t, some_bind, hb, Bool.true_and, Bool.false_or]
          by_cases hk0 : k = 0
          · subst hk0; rfl
          · obtain ⟨j, rfl⟩ : ∃ j, k = j + 1 := ⟨k - 1, by omega⟩
            have h0 : decide ((0 : Int) < ((j + 1 : Nat) : Int)) = true := by rw [decide_eq_true_eq]; omega
            have hlt := List.pairwise_iff_getElem.1 i3.1 j (j + 1) (by omega) hk (by omega)
            simp only [h0, gM_t, wi_pred (k := j) (by omega), idx_nat (show j < (ofP p (t ++ u)).length by omega), some_bind, bl_eq, hlt, decide_true, Bool.not_true, Bool.and_false, cond_false]
      · intro _
        simp only [law40_ScriptsGrow_L0, lt_f (Nat.le_refl _), cond_false]
end Go.M

/- What the plain counterparts answer. Conditions: none. -/
import Derived.Test.YthcpioecmdfabaaPS5
set_option linter.unusedSimpArgs false
set_option linter.unusedVariables false
set_option linter.unnecessarySimpa false
namespace Go.M
open Go.AV

/-! ## Runs -/
def runsR (start i : Nat) (prev : Str) : List Str → List Range
  | [] => [{ Lo := start, Hi := i }]
  | y :: ys => if y = prev then runsR start (i + 1) prev ys else { Lo := start, Hi := i } :: runsR i (i + 1) y ys
def runsOf : List Str → List Range
  | [] => []
  | x :: xs => runsR 0 1 x xs

theorem runsR_len : ∀ (ys : List Str) (s i : Nat) (q : Str), (runsR s i q ys).length ≤ ys.length + 1 := by
  intro ys
  induction ys with
  | nil => intro s i q; simp [runsR]
  | cons y ys ih =>
    intro s i q
    simp only [runsR]
    by_cases e : y = q
    · simp only [e, if_true, List.length_cons]; have := ih s (i + 1) q; omega
    · simp only [e, if_false, List.length_cons]; have := ih i (i + 1) y; omega
theorem runsOf_len (ss : List Str) : (runsOf ss).length ≤ ss.length := by
  cases ss with
  | nil => simp [runsOf]
  | cons x xs => exact runsR_len _ _ _ _

theorem prog_runs (ss : List Str) (hl : ss.length ≤ 1000) : ∀ (n k s : Nat) (out : List Range) (hk : k < ss.length), k + 1 + n = ss.length → out.length ≤ k →
    loopM (fun (x : Int × Int × (List Range)) => scripts_runs_string_L0 ss x.1 x.2.1 x.2.2) ((s : Int), (k : Int), out) = some (out ++ runsR s (k + 1) ss[k] (ss.drop (k + 1))) := by
  intro n
  induction n with
  | zero =>
    intro k s out hk hn ho
    have e1 : decide (((k + 1 : Nat) : Int) = (ss.length : Int)) = true := by rw [decide_eq_true_eq]; omega
    rw [loopM_next (x' := (((k + 1 : Nat) : Int), ((k + 1 : Nat) : Int), out ++ [{ Lo := s, Hi := ((k + 1 : Nat) : Int) }])) (by
      simp only [scripts_runs_string_L0, lt_t hk, cond_true, pv_bind, e1, Bool.not_true, gM_f, some_bind, Bool.true_or, wi_succ (k := k) (by omega)]
      rw [app_ok (by simp; omega)]; rfl)]
    rw [loopM_done (y := out ++ [{ Lo := s, Hi := ((k + 1 : Nat) : Int) }]) (by
      simp only [scripts_runs_string_L0, lt_f (n := ss.length) (k := k + 1) (by omega), cond_false])]
    rw [List.drop_eq_nil_of_le (by omega)]; rfl
  | succ n ih =>
    intro k s out hk hn ho
    have hk1 : k + 1 < ss.length := by omega
    have e1 : decide (((k + 1 : Nat) : Int) = (ss.length : Int)) = false := by rw [decide_eq_false_iff_not]; omega
    rw [List.drop_eq_getElem_cons hk1]
    simp only [runsR]
    by_cases e : ss[k + 1] = ss[k]
    · rw [loopM_next (x' := ((s : Int), ((k + 1 : Nat) : Int), out)) (by
        simp only [scripts_runs_string_L0, lt_t hk, cond_true, pv_bind, e1, Bool.not_false, gM_t, idx_nat hk, wi_succ (k := k) (by omega), idx_nat hk1, some_bind, e, BEq.rfl, Bool.not_true, Bool.or_self, cond_false])]
      rw [ih (k + 1) s out hk1 (by omega) (by omega)]
      simp only [e, if_true]
    · have e' : (ss[k + 1] == ss[k]) = false := by simpa using e
      rw [loopM_next (x' := (((k + 1 : Nat) : Int), ((k + 1 : Nat) : Int), out ++ [{ Lo := s, Hi := ((k + 1 : Nat) : Int) }])) (by
        simp only [scripts_runs_string_L0, lt_t hk, cond_true, pv_bind, e1, Bool.not_false, gM_t, idx_nat hk, wi_succ (k := k) (by omega), idx_nat hk1, some_bind, e', Bool.not_false, Bool.or_true]
        rw [app_ok (by simp; omega)]; rfl)]
      rw [ih (k + 1) (k + 1) _ hk1 (by omega) (by simp; omega)]
      simp only [e, if_false, List.append_assoc, List.cons_append, List.nil_append]

theorem runs_string_eq (ss : List Str) (hl : ss.length ≤ 1000) : scripts_runs_string ss = some (runsOf ss) := by
  unfold scripts_runs_string
  cases ss with
  | nil => rw [loopM_done (y := []) rfl]; rfl
  | cons x xs =>
    have := prog_runs (x :: xs) hl xs.length 0 0 [] (by simp) (by simp; omega) (by simp)
    rw [z0] at this
    rw [this]; rfl

theorem Runs_eq (p : Property) (hp : Sm p) (t : List Int) (ht : t.length ≤ 500) : scripts_Runs p t = some (runsOf (resS (t.map (realOf p)))) := by
  unfold scripts_Runs
  rw [resolved_eq p hp t ht, some_bind, runs_string_eq _ (by rw [resS_len]; simp; omega)]; rfl

theorem ref_runs (p : Property) (hp : Sm p) (t : List Int) (ht : t.length ≤ 500) (ss : List Str) (hss : ss = resS (t.map (realOf p))) : ∀ (n k s : Nat) (out : List Range) (hk : k < ss.length), k + 1 + n = ss.length → out.length ≤ k →
    loopM (fun (x : Int × (List Range)) => ref40_Runs_L0 t p x.1 x.2) (((k + 1 : Nat) : Int), out ++ [{ Lo := s, Hi := ((k + 1 : Nat) : Int) }]) = some (out ++ runsR s (k + 1) ss[k] (ss.drop (k + 1))) := by
  have hsl : ss.length = t.length := by rw [hss, resS_len]; simp
  have hS : ∀ i (h : i < ss.length), ref40_Script p t (i : Int) = some ss[i] := by
    intro i h
    rw [Script_eq p hp t ht (by omega), ← hss, List.getElem?_eq_getElem h]; rfl
  intro n
  induction n with
  | zero =>
    intro k s out hk hn ho
    rw [loopM_done (y := out ++ [{ Lo := s, Hi := ((k + 1 : Nat) : Int) }]) (by
      simp only [ref40_Runs_L0, lt_f (n := t.length) (k := k + 1) (by omega), cond_false])]
    rw [List.drop_eq_nil_of_le (by omega)]; rfl
  | succ n ih =>
    intro k s out hk hn ho
    have hk1 : k + 1 < ss.length := by omega
    have h0 : decide (0 < ((k + 1 : Nat) : Int)) = true := by rw [decide_eq_true_eq]; omega
    rw [List.drop_eq_getElem_cons hk1]
    simp only [runsR]
    by_cases e : ss[k + 1] = ss[k]
    · rw [loopM_next (x' := (((k + 1 + 1 : Nat) : Int), out ++ [{ Lo := s, Hi := ((k + 1 + 1 : Nat) : Int) }])) (by
        have hlen : wi (((out ++ [({ Lo := s, Hi := ((k + 1 : Nat) : Int) } : Range)]).length : Int) - 1) = (out.length : Int) := by
          rw [List.length_append]; exact wi_pred (k := out.length) (by omega)
        have hil : out.length < (out ++ [({ Lo := s, Hi := ((k + 1 : Nat) : Int) } : Range)]).length := by simp
        simp only [ref40_Runs_L0, lt_t (n := t.length) (k := k + 1) (by omega), cond_true, pv_bind, h0, gM_t, hS (k + 1) hk1, wi_pred (k := k) (by omega), hS k hk, some_bind, e, BEq.rfl, Bool.and_self, hlen, idx_nat hil, setM_nat hil, wi_succ (k := k + 1) (by omega)]
        simp)]
      rw [ih (k + 1) s out hk1 (by omega) (by omega)]
      simp only [e, if_true]
    · have e' : (ss[k + 1] == ss[k]) = false := by simpa using e
      rw [loopM_next (x' := (((k + 1 + 1 : Nat) : Int), (out ++ [{ Lo := s, Hi := ((k + 1 : Nat) : Int) }]) ++ [{ Lo := ((k + 1 : Nat) : Int), Hi := ((k + 1 + 1 : Nat) : Int) }])) (by
        simp only [ref40_Runs_L0, lt_t (n := t.length) (k := k + 1) (by omega), cond_true, pv_bind, h0, gM_t, hS (k + 1) hk1, wi_pred (k := k) (by omega), hS k hk, some_bind, e', Bool.and_false, cond_false, wi_succ (k := k + 1) (by omega)]
        rw [app_ok (by simp; omega)]; rfl)]
      rw [ih (k + 1) (k + 1) _ hk1 (by omega) (by simp; omega)]
      simp only [e, if_false, List.append_assoc, List.cons_append, List.nil_append]

theorem RRuns_eq (p : Property) (hp : Sm p) (t : List Int) (ht : t.length ≤ 500) : ref40_Runs p t = some (runsOf (resS (t.map (realOf p)))) := by
  unfold ref40_Runs
  cases t with
  | nil => rw [loopM_done (y := []) rfl]; rfl
  | cons c t =>
    generalize hss : resS ((c :: t).map (realOf p)) = ss
    have hsl : ss.length = t.length + 1 := by rw [← hss, resS_len]; simp
    have h := ref_runs p hp (c :: t) ht ss hss.symm t.length 0 0 [] (by omega) (by omega) (by simp)
    rw [loopM_next (x' := (((0 + 1 : Nat) : Int), [] ++ [{ Lo := ((0 : Nat) : Int), Hi := ((0 + 1 : Nat) : Int) }])) (by
      have h0 : decide ((0 : Int) < (((c :: t).length : Nat) : Int)) = true := by simp
      simp only [ref40_Runs_L0, h0, cond_true, pv_bind, Int.lt_irrefl, decide_false, gM_f, some_bind, Bool.false_and, cond_false]
      rw [app_ok (by simp)]
      rfl)]
    rw [h, some_bind]
    cases ss with
    | nil => simp at hsl
    | cons x xs => simp [runsOf]

/-! ## Levels -/
theorem find_any {A : Type} (q : A → Bool) (l : List A) : ∀ k : Nat, ∃ z : Int, (runL (B := Unit) (fun k x _ => if q x then some (.done (Sum.inr (k : Int) : Unit ⊕ Int)) else some (.next ())) (fun _ => .inl ()) l k ()).bind (fun (y1 : (Unit) ⊕ (Int)) => y1.elim (fun _ => some (-1)) (fun y1 => some y1)) = some z ∧ decide (0 ≤ z) = l.any q := by
  induction l with
  | nil => intro k; exact ⟨-1, rfl, rfl⟩
  | cons x l ih =>
    intro k
    simp only [runL, List.any_cons]
    cases h : q x with
    | true => exact ⟨(k : Int), by simp, by simp⟩
    | false =>
      obtain ⟨z, h1, h2⟩ := ih (k + 1)
      exact ⟨z, by simpa using h1, by simpa using h2⟩

theorem cfi_eq (l : List Int) (hl : l.length ≤ 9223372036854775807) {f : Int → Option Bool} (q : Int → Bool) (hf : ∀ x, f x = some (q x)) : slices_ContainsFunc_int_int l f = some (l.any q) := by
  unfold slices_ContainsFunc_int_int slices_IndexFunc_int_int
  have h := loop_list0 (B := Unit) l (fun k _ => (k : Int)) (body := fun (i : Int) => slices_IndexFunc_int_int_L0 l f i)
    (fun k x _ => if q x then some (.done (.inr (k : Int))) else some (.next ())) (fun _ => .inl ()) ?_ ?_ ()
  · rw [z0] at h
    rw [h]
    obtain ⟨z, h1, h2⟩ := find_any q l 0
    rw [h1, some_bind, h2]
  · intro k _ hk
    simp only [slices_IndexFunc_int_int_L0, lt_t hk, cond_true, idx_nat hk, some_bind, hf, wi_succ (k := k) (by omega)]
    cases q l[k] <;> rfl
  · intro _
    simp only [slices_IndexFunc_int_int_L0, lt_f (Nat.le_refl _), cond_false]
theorem cfs_eq (l : List Str) (hl : l.length ≤ 9223372036854775807) {f : Str → Option Bool} (q : Str → Bool) (hf : ∀ x, f x = some (q x)) : slices_ContainsFunc_string_string l f = some (l.any q) := by
  unfold slices_ContainsFunc_string_string slices_IndexFunc_string_string
  have h := loop_list0 (B := Unit) l (fun k _ => (k : Int)) (body := fun (i : Int) => slices_IndexFunc_string_string_L0 l f i)
    (fun k x _ => if q x then some (.done (.inr (k : Int))) else some (.next ())) (fun _ => .inl ()) ?_ ?_ ()
  · rw [z0] at h
    rw [h]
    obtain ⟨z, h1, h2⟩ := find_any q l 0
    rw [h1, some_bind, h2]
  · intro k _ hk
    simp only [slices_IndexFunc_string_string_L0, lt_t hk, cond_true, idx_nat hk, some_bind, hf, wi_succ (k := k) (by omega)]
    cases q l[k] <;> rfl
  · intro _
    simp only [slices_IndexFunc_string_string_L0, lt_f (Nat.le_refl _), cond_false]
theorem cs_eq (l : List Str) (hl : l.length ≤ 9223372036854775807) (x : Str) : slices_Contains_string_string l x = some (decide (x ∈ l)) := by
  unfold slices_Contains_string_string slices_Index_string_string
  have h := loop_list0 (B := Unit) l (fun k _ => (k : Int)) (body := fun (i : Int) => slices_Index_string_string_L0 l x i)
    (fun k y _ => if x == y then some (.done (.inr (k : Int))) else some (.next ())) (fun _ => .inl ()) ?_ ?_ ()
  · rw [z0] at h
    rw [h]
    obtain ⟨z, h1, h2⟩ := find_any (fun y => x == y) l 0
    rw [h1, some_bind, h2]
    congr 1
    rw [Bool.eq_iff_iff]; simp
  · intro k _ hk
    simp only [slices_Index_string_string_L0, lt_t hk, cond_true, idx_nat hk, some_bind, wi_succ (k := k) (by omega)]
    cases x == l[k] <;> rfl
  · intro _
    simp only [slices_Index_string_string_L0, lt_f (Nat.le_refl _), cond_false]

def ascii (t : List Int) : Bool := t.all fun c => decide (0 ≤ c) && decide (c ≤ 127)
def within (a b : List Str) : Bool := a.all fun x => decide (x ∈ b)
def lvl (sets : List (List Str)) (t : List Int) (o : List Str) : Int := if ascii t then 1 else if o.length ≤ 1 then 2 else if sets.any (within o) then 3 else 4
def okSets (sets : List (List Str)) : Prop := sets.length ≤ 9223372036854775807 ∧ ∀ s ∈ sets, s.length ≤ 9223372036854775807

theorem Level_eq (p : Property) (hp : Sm p) (sets : List (List Str)) (hs : okSets sets) (t : List Int) (ht : t.length ≤ 500) : scripts_Level p sets t = some (lvl sets t (ofP p t)) := by
  unfold scripts_Level
  rw [cfi_eq t (by omega) (f := fun x0 => scripts_Level_1 x0) (fun x => decide (x < 0) || decide (127 < x)) (fun x => rfl), some_bind, Of_eq p hp t ht]
  have ha : (!t.any fun x => decide (x < 0) || decide (127 < x)) = ascii t := by
    unfold ascii
    rw [List.not_any_eq_all_not]
    congr 1
    funext x
    rw [Bool.eq_iff_iff]; simp
  rw [ha]
  unfold lvl
  cases ascii t with
  | true => rfl
  | false =>
    have hol := ofP_len p hp t ht
    generalize ofP p t = o at hol
    simp only [cond_false, some_bind, Bool.false_eq_true, if_false]
    by_cases h1 : o.length ≤ 1
    · have : decide ((o.length : Int) ≤ 1) = true := by simp; omega
      simp [this, h1]
    · have : decide ((o.length : Int) ≤ 1) = false := by simp; omega
      simp only [this, cond_false, h1, if_false]
      have h := loop_list0 (B := Unit) sets (fun k _ => (k : Int)) (body := fun (i : Int) => scripts_Level_L0 sets o i)
        (fun _ s _ => if !within o s then some (.next ()) else some (.done (.inr 3))) (fun _ => .inl ()) ?_ ?_ ()
      · rw [z0] at h
        rw [h, runL_all, some_bind]
        have : sets.all (fun s => !within o s) = !sets.any (within o) := by rw [List.not_any_eq_all_not]
        rw [this]
        cases sets.any (within o) <;> rfl
      · intro k _ hk
        have hsk := hs.2 _ (List.getElem_mem hk)
        have hc : slices_ContainsFunc_string_string o (fun x0 => scripts_Level_2 x0 sets[k]) = some (!within o sets[k]) := by
          rw [cfs_eq o (by omega) (fun x => !decide (x ∈ sets[k])) (fun x => by unfold scripts_Level_2; rw [cs_eq _ hsk]; rfl)]
          unfold within
          rw [List.not_all_eq_any_not]
        have := hs.1
        simp only [scripts_Level_L0, lt_t hk, cond_true, idx_nat hk, some_bind, hc, wi_succ (k := k) (by omega)]
        cases within o sets[k] <;> rfl
      · intro _
        simp only [scripts_Level_L0, lt_f (Nat.le_refl _), cond_false]

theorem Inside_eq (a b : List Str) (ha : a.length ≤ 9223372036854775807) (hb : b.length ≤ 9223372036854775807) : ref40_Inside a b = some (within a b) := by
  unfold ref40_Inside
  have h := loop_list0 (B := Unit) a (fun k _ => (k : Int)) (body := fun (i : Int) => ref40_Inside_L0 a b i)
    (fun _ x _ => if decide (x ∈ b) then some (.next ()) else some (.done (.inr false))) (fun _ => .inl ()) ?_ ?_ ()
  · rw [z0] at h
    rw [h, runL_all, some_bind]
    unfold within
    cases a.all (fun x => decide (x ∈ b)) <;> rfl
  · intro k _ hk
    simp only [ref40_Inside_L0, lt_t hk, cond_true, idx_nat hk, some_bind, Has_eq _ _ hb, wi_succ (k := k) (by omega)]
    cases decide (a[k] ∈ b) <;> rfl
  · intro _
    simp only [ref40_Inside_L0, lt_f (Nat.le_refl _), cond_false]

theorem RLevel_eq (p : Property) (hp : Sm p) (sets : List (List Str)) (hs : okSets sets) (t : List Int) (ht : t.length ≤ 500) : ref40_Level p sets t = some (lvl sets t (ofP p t)) := by
  unfold ref40_Level
  have h := loop_list0 (B := Bool) t (fun k b => (b, (k : Int))) (body := fun (x : Bool × Int) => ref40_Level_L0 t x.1 x.2)
    (fun _ c b => some (.next (b && (decide (0 ≤ c) && decide (c ≤ 127))))) (fun b => b) ?_ ?_ true
  · rw [z0] at h
    rw [h, runL_fold, some_bind, ROf_eq p hp t ht]
    have ha : ∀ (l : List Int) (b : Bool), l.foldl (fun b c => b && (decide (0 ≤ c) && decide (c ≤ 127))) b = (b && ascii l) := by
      intro l
      induction l with
      | nil => intro b; simp [ascii]
      | cons c l ih => intro b; rw [List.foldl_cons, ih]; unfold ascii; rw [List.all_cons, Bool.and_assoc]
    rw [ha t true, Bool.true_and]
    unfold lvl
    cases ascii t with
    | true => rfl
    | false =>
      have hol := ofP_len p hp t ht
      generalize ofP p t = o at hol
      simp only [cond_false, some_bind, Bool.false_eq_true, if_false]
      by_cases h1 : o.length ≤ 1
      · have : decide ((o.length : Int) < 2) = true := by simp; omega
        simp [this, h1]
      · have : decide ((o.length : Int) < 2) = false := by simp; omega
        simp only [this, cond_false, h1, if_false]
        have h := loop_list0 (B := Unit) sets (fun k _ => (k : Int)) (body := fun (i : Int) => ref40_Level_L1 sets o i)
          (fun _ s _ => if !within o s then some (.next ()) else some (.done (.inr 3))) (fun _ => .inl ()) ?_ ?_ ()
        · rw [z0] at h
          rw [h, runL_all, some_bind]
          have : sets.all (fun s => !within o s) = !sets.any (within o) := by rw [List.not_any_eq_all_not]
          rw [this]
          cases sets.any (within o) <;> rfl
        · intro k _ hk
          have hsk := hs.2 _ (List.getElem_mem hk)
          have := hs.1
          simp only [ref40_Level_L1, lt_t hk, cond_true, idx_nat hk, some_bind, Inside_eq o _ (by omega) hsk, wi_succ (k := k) (by omega)]
          cases within o sets[k] <;> rfl
        · intro _
          simp only [ref40_Level_L1, lt_f (Nat.le_refl _), cond_false]
  · intro k b hk
    simp only [ref40_Level_L0, lt_t hk, cond_true, pv_bind, idx_nat hk, wi_succ (k := k) (by omega), ref01_Valid]
    cases b with
    | false => simp [gM]
    | true =>
      simp only [gM_t, some_bind, pv_bind, Bool.true_and]
      generalize t[k] = c
      by_cases h0 : 0 ≤ c
      · by_cases h1 : c ≤ 1114111
        · have : decide (c < 128) = decide (c ≤ 127) := by rw [Bool.eq_iff_iff]; simp; omega
          simp [h0, h1, gM, this]
        · have : ¬ c ≤ 127 := by omega
          simp [h0, h1, gM, this]
      · simp [h0, gM]
  · intro b
    simp only [ref40_Level_L0, lt_f (Nat.le_refl _), cond_false]
end Go.M

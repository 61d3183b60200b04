/- What the plain counterparts answer. Conditions: none. -/
import Derived.Test.YthcpioecmdfabaaPS1
set_option linter.unusedSimpArgs false
set_option linter.unusedVariables false
set_option linter.unnecessarySimpa false
namespace Go.M
open Go.AV

/-! ## The reference's names -/
theorem names_inner (l : List Str) {i : Nat} (hi : i < l.length) (hl : l.length ≤ 250) :
    loopM (fun (x : Int) => ref10_names_L1 (i : Int) l x) 0 = some (if (l.take i).all (fun y => !(y == l[i])) then .inl () else .inr false) := by
  have hlen : (l.take i).length = i := by simp; omega
  have h := loop_list0 (B := Unit) (l.take i) (fun k _ => (k : Int)) (body := fun (x : Int) => ref10_names_L1 (i : Int) l x)
    (fun _ x _ => if !(x == l[i]) then some (.next ()) else some (.done (.inr false))) (fun _ => .inl ()) ?_ ?_ ()
  · have e0 : ((0 : Nat) : Int) = 0 := rfl
    rw [e0] at h
    rw [h]
    exact runL_all _ _ _ _ _
  · intro k _ hk
    rw [hlen] at hk
    have hk2 : k < l.length := by omega
    simp only [ref10_names_L1, lt_t hk, cond_true, idx_nat hk2, idx_nat hi, some_bind, wi_succ (k := k) (by omega), List.getElem_take]
    cases l[k] == l[i] <;> rfl
  · intro _
    rw [hlen]
    simp only [ref10_names_L1, lt_f (Nat.le_refl i), cond_false]

theorem names_eq (l : List Str) : ref10_names l = some (nmOk l) := by
  unfold ref10_names
  rw [pv_bind]
  by_cases h1 : l.length = 0
  · have : l = [] := List.eq_nil_of_length_eq_zero h1
    subst this; rfl
  · have h1' : decide ((l.length : Int) < 1) = false := by simp; omega
    by_cases h2 : l.length ≤ 250
    · have h3 : decide (250 < (l.length : Int)) = false := by simp; omega
      have hl := loop_list0 (B := Unit) l (fun k _ => (k : Int)) (body := fun (x : Int) => ref10_names_L0 l x)
        (fun k x _ => if isNm x && (l.take k).all (fun y => !(y == x)) then some (.next ()) else some (.done (.inr false))) (fun _ => .inl ()) ?_ ?_ ()
      · have hval : ∀ (xs pre : List Str), l = pre ++ xs → runL (B := Unit) (fun k x _ => if isNm x && (l.take k).all (fun y => !(y == x)) then some (.next ()) else some (.done (Sum.inr false : Unit ⊕ Bool))) (fun _ => .inl ()) xs pre.length () = some (if namesOk pre xs then .inl () else .inr false) := by
          intro xs
          induction xs with
          | nil => intro pre _; rfl
          | cons x xs ih =>
            intro pre e
            have ht : l.take pre.length = pre := by rw [e]; simp
            have := ih (pre ++ [x]) (by simp [e])
            simp only [runL, namesOk, ht]
            simp only [List.length_append, List.length_cons, List.length_nil, Nat.zero_add] at this
            by_cases hn : isNm x = true
            · by_cases hm : x ∈ pre
              · have : pre.all (fun y => !(y == x)) = false := by
                  rw [List.all_eq_false]; exact ⟨x, hm, by simp⟩
                simp [hn, hm, this]
              · have h2 : pre.all (fun y => !(y == x)) = true := by
                  rw [List.all_eq_true]; intro y hy; simp; intro e; subst e; exact hm hy
                simp only [hn, h2, Bool.and_self, if_true, this, hm, decide_false, Bool.not_false, Bool.true_and]
            · simp [hn]
        have e0 : ((0 : Nat) : Int) = 0 := rfl
        rw [e0] at hl
        have h4 := hval l [] rfl
        simp only [List.length_nil] at h4
        simp only [h1', h3, Bool.or_self, cond_false, hl, h4, some_bind, nmOk, h2, Nat.pos_of_ne_zero h1, decide_true, Bool.true_and]
        cases namesOk [] l <;> rfl
      · intro k _ hk
        simp only [ref10_names_L0, lt_t hk, cond_true, idx_nat hk, some_bind, Named_eq, names_inner l hk h2, wi_succ (k := k) (by omega)]
        cases isNm l[k] <;> cases (l.take k).all (fun y => !(y == l[k])) <;> rfl
      · intro _
        simp only [ref10_names_L0, lt_f (Nat.le_refl _), cond_false]
    · have h3 : decide (250 < (l.length : Int)) = true := by simp; omega
      simp [h1', h3, nmOk, h2]

/-! ## Spans -/
def spanOk (n : Int) (s : Span) : Bool := decide (0 ≤ s.Lo) && decide (s.Lo ≤ s.Hi) && decide (s.Hi ≤ 1114111) && decide (1 ≤ s.Value) && decide (s.Value < n)
def pairOk (a b : Span) : Bool := decide (a.Hi < b.Lo) && !(decide (b.Lo = wi (a.Hi + 1)) && decide (b.Value = a.Value))
def prevOk : Option Span → Span → Bool
  | none, _ => true
  | some a, b => pairOk a b
def spansOk (n : Int) : Option Span → List Span → Bool
  | _, [] => true
  | p, x :: xs => spanOk n x && prevOk p x && spansOk n (some x) xs
def vP (p : Property) : Bool := nmOk p.Names && spansOk p.Names.length none p.Spans

def prevAt (l : List Span) (k : Nat) : Option Span := if k = 0 then none else l[k - 1]?

theorem spans_run (n : Int) (l : List Span) : ∀ (xs pre : List Span), l = pre ++ xs → runL (B := Unit) (fun k x _ => if spanOk n x && prevOk (prevAt l k) x then some (.next ()) else some (.done (Sum.inr false : Unit ⊕ Bool))) (fun _ => .inl ()) xs pre.length () = some (if spansOk n pre.getLast? xs then .inl () else .inr false) := by
  intro xs
  induction xs with
  | nil => intro pre _; rfl
  | cons x xs ih =>
    intro pre e
    have ht : prevAt l pre.length = pre.getLast? := by
      unfold prevAt
      rw [List.getLast?_eq_getElem?]
      cases pre with
      | nil => rfl
      | cons a pre =>
        rw [if_neg (by simp), e, List.getElem?_append_left (by simp)]
    have := ih (pre ++ [x]) (by simp [e])
    simp only [runL, spansOk, ht]
    simp only [List.length_append, List.length_cons, List.length_nil, Nat.zero_add, List.getLast?_append, List.getLast?_singleton, Option.some_or] at this
    by_cases hs : (spanOk n x && prevOk pre.getLast? x) = true
    · simp only [hs, if_true, this, Bool.true_and]
    · have hs' : (spanOk n x && prevOk pre.getLast? x) = false := by simpa using hs
      simp only [hs', Bool.false_and, Bool.false_eq_true, if_false]

theorem int_le_lt (a b : Int) : decide (a ≤ b) = !decide (b < a) := by
  by_cases h : a ≤ b
  · simp [h]
  · simp [h]; omega

theorem Valid_eq (p : Property) (hp : okProperty p) : property_Valid p = some (vP p) := by
  unfold property_Valid
  rw [index_eq _ hp.1.1, some_bind]
  cases hn : nmOk p.Names with
  | false => simp [vP, hn]
  | true =>
    have hlen := hp.2.1
    have hl := loop_list0 (B := Unit) p.Spans (fun k _ => (k : Int)) (body := fun (x : Int) => property_Valid_L0 p x)
      (fun k x _ => if spanOk p.Names.length x && prevOk (prevAt p.Spans k) x then some (.next ()) else some (.done (.inr false))) (fun _ => .inl ()) ?_ ?_ ()
    · have e0 : ((0 : Nat) : Int) = 0 := rfl
      rw [e0] at hl
      have h4 := spans_run p.Names.length p.Spans p.Spans [] rfl
      simp only [List.length_nil, List.getLast?_nil] at h4
      simp only [Bool.not_true, cond_false, hl, h4, some_bind, vP, hn, Bool.true_and]
      by_cases hs : spansOk p.Names.length none p.Spans = true <;> simp [hs]
    · intro k _ hk
      simp only [property_Valid_L0, lt_t hk, cond_true, idx_nat hk, some_bind, pv_bind, wi_succ (k := k) (by omega), property_inside, codepoint_Valid]
      generalize hx : p.Spans[k] = x
      by_cases hk0 : k = 0
      · subst hk0
        have hb : spanOk (p.Names.length : Int) x = (((decide (0 ≤ x.Lo) && decide (x.Lo ≤ 1114111)) && (decide (0 ≤ x.Hi) && decide (x.Hi ≤ 1114111)) && decide (x.Lo ≤ x.Hi)) && !decide (x.Value < 1) && !decide ((p.Names.length : Int) ≤ x.Value)) := by
          unfold spanOk
          rw [Bool.eq_iff_iff]; simp; omega
        simp only [prevAt, if_true, prevOk, Bool.and_true, hb]
        generalize decide (x.Value < 1) = q1; generalize decide ((p.Names.length : Int) ≤ x.Value) = q2
        cases decide (0 ≤ x.Lo) <;> cases decide (x.Lo ≤ 1114111) <;> cases decide (0 ≤ x.Hi) <;> cases decide (x.Hi ≤ 1114111) <;> cases decide (x.Lo ≤ x.Hi) <;> cases q1 <;> cases q2 <;> rfl
      · obtain ⟨j, rfl⟩ : ∃ j, k = j + 1 := ⟨k - 1, by omega⟩
        have hj : j < p.Spans.length := by omega
        have hk0' : decide (((j + 1 : Nat) : Int) = 0) = false := by simp; omega
        have hpv : prevAt p.Spans (j + 1) = some p.Spans[j] := by simp [prevAt, hj]
        rw [hpv]
        simp only [hk0', cond_false, wi_pred (k := j) (by omega), idx_nat hj, some_bind, prevOk]
        generalize p.Spans[j] = y
        have hb : spanOk (p.Names.length : Int) x = (((decide (0 ≤ x.Lo) && decide (x.Lo ≤ 1114111)) && (decide (0 ≤ x.Hi) && decide (x.Hi ≤ 1114111)) && decide (x.Lo ≤ x.Hi)) && !decide (x.Value < 1) && !decide ((p.Names.length : Int) ≤ x.Value)) := by
          unfold spanOk
          rw [Bool.eq_iff_iff]; simp; omega
        have hb2 : decide (y.Hi < x.Lo) = !decide (x.Lo ≤ y.Hi) := by rw [int_le_lt]; simp
        simp only [hb, pairOk, hb2]
        generalize decide (x.Value < 1) = q1; generalize decide ((p.Names.length : Int) ≤ x.Value) = q2
        generalize decide (x.Lo = wi (y.Hi + 1)) = q3; generalize decide (x.Value = y.Value) = q4; generalize decide (x.Lo ≤ y.Hi) = q5
        generalize decide (0 ≤ x.Lo) = q6; generalize decide (x.Lo ≤ 1114111) = q7; generalize decide (0 ≤ x.Hi) = q8; generalize decide (x.Hi ≤ 1114111) = q9; generalize decide (x.Lo ≤ x.Hi) = q10
        generalize hA : ((q6 && q7) && (q8 && q9) && q10) = A
        have hA2 : ((gM (q6 && q7) (some (q8 && q9))).bind fun t9 => some ((q6 && q7) && t9 && q10)) = some A := by
          subst hA; cases q6 <;> cases q7 <;> simp [gM]
        cases q6 <;> cases q7 <;> cases q8 <;> cases q9 <;> cases q10 <;> cases hA <;> cases q1 <;> cases q2 <;> cases q3 <;> cases q4 <;> cases q5 <;> rfl
    · intro _
      simp only [property_Valid_L0, lt_f (Nat.le_refl _), cond_false]

theorem RValid_eq (p : Property) (hp : okProperty p) : ref10_Valid p = some (vP p) := by
  unfold ref10_Valid
  rw [names_eq, some_bind]
  cases hn : nmOk p.Names with
  | false => simp [vP, hn]
  | true =>
    have hlen := hp.2.1
    have hl := loop_list0 (B := Unit) p.Spans (fun k _ => (k : Int)) (body := fun (x : Int) => ref10_Valid_L0 p x)
      (fun k x _ => if spanOk p.Names.length x && prevOk (prevAt p.Spans k) x then some (.next ()) else some (.done (.inr false))) (fun _ => .inl ()) ?_ ?_ ()
    · have e0 : ((0 : Nat) : Int) = 0 := rfl
      rw [e0] at hl
      have h4 := spans_run p.Names.length p.Spans p.Spans [] rfl
      simp only [List.length_nil, List.getLast?_nil] at h4
      simp only [Bool.not_true, cond_false, hl, h4, some_bind, vP, hn, Bool.true_and]
      by_cases hs : spansOk p.Names.length none p.Spans = true <;> simp [hs]
    · intro k _ hk
      simp only [ref10_Valid_L0, lt_t hk, cond_true, idx_nat hk, some_bind, pv_bind, wi_succ (k := k) (by omega)]
      generalize hx : p.Spans[k] = x
      have hb : spanOk (p.Names.length : Int) x = (!decide (x.Lo < 0) && !decide (x.Hi < x.Lo) && !decide (1114111 < x.Hi) && !decide (x.Value < 1) && !decide ((p.Names.length : Int) ≤ x.Value)) := by
        unfold spanOk
        rw [Bool.eq_iff_iff]; simp
      by_cases hk0 : k = 0
      · subst hk0
        simp only [prevAt, if_true, prevOk, Bool.and_true, hb]
        generalize decide (x.Value < 1) = q1; generalize decide ((p.Names.length : Int) ≤ x.Value) = q2
        have e0 : decide ((0 : Int) < ((0 : Nat) : Int)) = false := rfl
        simp only [e0, gM_f, some_bind, Bool.false_and, cond_false]
        cases decide (x.Lo < 0) <;> cases decide (x.Hi < x.Lo) <;> cases decide (1114111 < x.Hi) <;> cases q1 <;> cases q2 <;> rfl
      · obtain ⟨j, rfl⟩ : ∃ j, k = j + 1 := ⟨k - 1, by omega⟩
        have hj : j < p.Spans.length := by omega
        have hk0' : decide ((0 : Int) < ((j + 1 : Nat) : Int)) = true := by rw [decide_eq_true_eq]; omega
        have hpv : prevAt p.Spans (j + 1) = some p.Spans[j] := by simp [prevAt, hj]
        rw [hpv]
        simp only [hk0', wi_pred (k := j) (by omega), idx_nat hj, some_bind, prevOk, gM_t, Bool.true_and]
        generalize p.Spans[j] = y
        have hb2 : decide (y.Hi < x.Lo) = !decide (x.Lo ≤ y.Hi) := by rw [int_le_lt]; simp
        simp only [hb, pairOk, hb2]
        generalize decide (x.Value < 1) = q1; generalize decide ((p.Names.length : Int) ≤ x.Value) = q2
        cases q5 : decide (x.Lo ≤ y.Hi) with
        | true =>
          simp only [Bool.not_true, gM_f, some_bind, Bool.true_or, Bool.false_and]
          cases decide (x.Lo < 0) <;> cases decide (x.Hi < x.Lo) <;> cases decide (1114111 < x.Hi) <;> cases q1 <;> cases q2 <;> rfl
        | false =>
          simp only [Bool.not_false, gM_t, some_bind, Bool.false_or, Bool.true_and]
          cases q3 : decide (x.Lo = wi (y.Hi + 1)) with
          | false =>
            simp only [gM_f, some_bind, Bool.false_and]
            cases decide (x.Lo < 0) <;> cases decide (x.Hi < x.Lo) <;> cases decide (1114111 < x.Hi) <;> cases q1 <;> cases q2 <;> rfl
          | true =>
            simp only [gM_t, some_bind, Bool.true_and]
            generalize decide (x.Value = y.Value) = q4
            cases decide (x.Lo < 0) <;> cases decide (x.Hi < x.Lo) <;> cases decide (1114111 < x.Hi) <;> cases q1 <;> cases q2 <;> cases q4 <;> rfl
    · intro _
      simp only [ref10_Valid_L0, lt_f (Nat.le_refl _), cond_false]

/-! ## What counts -/
def otherP : Property := { Names := [[79, 116, 104, 101, 114]], Spans := [] }
def cnt (p : Property) : Property := if vP p then p else otherP
theorem counted_eq (p : Property) (hp : okProperty p) : property_counted p = some (cnt p) := by
  unfold property_counted cnt
  rw [Valid_eq p hp, some_bind]
  cases vP p <;> rfl
theorem Counted_eq (p : Property) (hp : okProperty p) : ref10_Counted p = some (cnt p) := by
  unfold ref10_Counted cnt
  rw [RValid_eq p hp, some_bind]
  cases vP p <;> rfl
theorem vP_other : vP otherP = true := by decide
theorem vP_cnt (p : Property) : vP (cnt p) = true := by
  unfold cnt
  by_cases h : vP p = true
  · simp [h]
  · simp [h, vP_other]

/-- The spans rise. -/
theorem spans_pw {n : Int} : ∀ {l : List Span} {q : Option Span}, spansOk n q l = true → List.Pairwise (fun a b => a.Hi < b.Lo) l ∧ (∀ x ∈ l, spanOk n x = true) ∧ ∀ a, q = some a → ∀ x ∈ l, a.Hi < x.Lo := by
  intro l
  induction l with
  | nil => intro q _; simp
  | cons x l ih =>
    intro q h
    simp only [spansOk, Bool.and_eq_true] at h
    obtain ⟨⟨h1, h2⟩, h3⟩ := h
    obtain ⟨i1, i2, i3⟩ := ih h3
    refine ⟨List.pairwise_cons.2 ⟨fun b hb => i3 x rfl b hb, i1⟩, ?_, ?_⟩
    · intro y hy
      cases List.mem_cons.1 hy with
      | inl e => rw [e]; exact h1
      | inr hy => exact i2 y hy
    · intro a ha y hy
      subst ha
      have h4 : a.Hi < x.Lo := by
        simp only [prevOk, pairOk, Bool.and_eq_true, decide_eq_true_eq] at h2; exact h2.1
      cases List.mem_cons.1 hy with
      | inl e => rw [e]; exact h4
      | inr hy =>
        have h5 := i3 x rfl y hy
        simp only [spanOk, Bool.and_eq_true, decide_eq_true_eq] at h1
        omega

def inS (c : Int) (s : Span) : Bool := decide (s.Lo ≤ c) && decide (c ≤ s.Hi)
def getP (l : List Span) (c : Int) : Int := match l.find? (inS c) with
  | some s => s.Value
  | none => 0

theorem RGet_run (c : Int) (l : List Span) : ∀ k, runL (B := Unit) (fun _ x _ => if inS c x then some (.done (Sum.inr x.Value : Unit ⊕ Int)) else some (.next ())) (fun _ => .inl ()) l k () = some (match l.find? (inS c) with | some s => .inr s.Value | none => .inl ()) := by
  induction l with
  | nil => intro k; rfl
  | cons x l ih =>
    intro k
    simp only [runL, List.find?_cons]
    cases h : inS c x with
    | true => simp
    | false => simp [ih]

theorem okcnt (p : Property) (hp : okProperty p) : (cnt p).Spans.length ≤ 9223372036854775807 := by
  unfold cnt
  by_cases h : vP p = true
  · simp [h]; exact hp.2.1
  · simp [h, otherP]

theorem RGet_eq (p : Property) (hp : okProperty p) (c : Int) : ref10_Get p c = some (getP (cnt p).Spans c) := by
  unfold ref10_Get
  rw [Counted_eq p hp, some_bind]
  generalize hq : cnt p = q
  have hlen := okcnt p hp
  rw [hq] at hlen
  have hl := loop_list0 (B := Unit) q.Spans (fun k _ => (k : Int)) (body := fun (x : Int) => ref10_Get_L0 q c x)
    (fun _ x _ => if inS c x then some (.done (.inr x.Value)) else some (.next ())) (fun _ => .inl ()) ?_ ?_ ()
  · have e0 : ((0 : Nat) : Int) = 0 := rfl
    rw [e0] at hl
    rw [hl, RGet_run, some_bind]
    unfold getP
    cases q.Spans.find? (inS c) <;> rfl
  · intro k _ hk
    simp only [ref10_Get_L0, lt_t hk, cond_true, idx_nat hk, some_bind, pv_bind, wi_succ (k := k) (by omega), inS]
    by_cases h0 : q.Spans[k].Lo ≤ c
    · by_cases h : c ≤ q.Spans[k].Hi <;> simp [h, h0, gM]
    · simp [h0, gM]
  · intro _
    simp only [ref10_Get_L0, lt_f (Nat.le_refl _), cond_false]

/-! ## The binary search -/
theorem search_eq {n : Nat} (hn : n ≤ 4611686018427387903) {f : Int → Option Bool} (q : Nat → Bool) (hf : ∀ k, k < n → f (k : Int) = some (q k)) (mono : ∀ i j, i ≤ j → j < n → q i = true → q j = true) :
    ∃ j, j ≤ n ∧ sort_Search (n : Int) f = some (j : Int) ∧ (∀ k, k < j → q k = false) ∧ (∀ k, j ≤ k → k < n → q k = true) := by
  have key : ∀ (d lo hi : Nat), hi - lo ≤ d → lo ≤ hi → hi ≤ n → (∀ k, k < lo → q k = false) → (∀ k, hi ≤ k → k < n → q k = true) →
      ∃ j, j ≤ n ∧ loopM (fun (x : Int × Int) => sort_Search_L0 f x.1 x.2) ((lo : Int), (hi : Int)) = some (j : Int) ∧ (∀ k, k < j → q k = false) ∧ (∀ k, j ≤ k → k < n → q k = true) := by
    intro d
    induction d with
    | zero =>
      intro lo hi h1 h2 h3 h4 h5
      have : lo = hi := by omega
      subst this
      refine ⟨lo, h3, ?_, h4, h5⟩
      rw [loopM_eq]
      simp only [sort_Search_L0, lt_f (Nat.le_refl _), cond_false]
    | succ d ih =>
      intro lo hi h1 h2 h3 h4 h5
      by_cases e : lo = hi
      · subst e
        refine ⟨lo, h3, ?_, h4, h5⟩
        rw [loopM_eq]
        simp only [sort_Search_L0, lt_f (Nat.le_refl _), cond_false]
      · have hlt : lo < hi := by omega
        have hm : wi ((wu (wi ((lo : Int) + (hi : Int)))) / 2 ^ 1) = (((lo + hi) / 2 : Nat) : Int) := by
          rw [wi_id (n := (lo : Int) + hi) (by omega) (by omega)]
          have : wu ((lo : Int) + (hi : Int)) = (lo : Int) + hi := by
            exact IntWalk.u64_in _ (by omega)
          rw [this, wi_id (by omega) (by omega)]
          omega
        have hmid : (lo + hi) / 2 < n := by omega
        rw [loopM_eq]
        simp only [sort_Search_L0, lt_t hlt, cond_true, hm, hf _ hmid, some_bind]
        cases hq : q ((lo + hi) / 2) with
        | true =>
          simp only [Bool.not_true, cond_false, some_bind]
          exact ih lo ((lo + hi) / 2) (by omega) (by omega) (by omega) h4 (fun k hk hkn => mono _ _ hk hkn hq)
        | false =>
          simp only [Bool.not_false, cond_true, some_bind, wi_succ (k := (lo + hi) / 2) (by omega)]
          refine ih ((lo + hi) / 2 + 1) hi (by omega) (by omega) h3 ?_ h5
          intro k hk
          cases hqk : q k with
          | false => rfl
          | true =>
            have := mono k ((lo + hi) / 2) (by omega) hmid hqk
            rw [hq] at this; cases this
  obtain ⟨j, h1, h2, h3, h4⟩ := key n 0 n (by omega) (by omega) (by omega) (by intro k hk; omega) (by intro k hk hkn; omega)
  refine ⟨j, h1, ?_, h3, h4⟩
  unfold sort_Search
  have e0 : ((0 : Nat) : Int) = 0 := rfl
  rw [e0] at h2
  rw [h2]; rfl
end Go.M

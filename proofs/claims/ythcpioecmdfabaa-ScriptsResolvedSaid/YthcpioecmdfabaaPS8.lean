/- What the plain counterparts answer. Conditions: none. -/
import Derived.Test.YthcpioecmdfabaaPS7
set_option linter.unusedSimpArgs false
set_option linter.unusedVariables false
set_option linter.unnecessarySimpa false
namespace Go.M
open Go.AV

/-! ## The runs cover the text -/
def gR (rs : List Str) (i : Nat) : Str := rs[i]?.getD []
def RunsOk (rs : List Str) : Nat → Str → List Range → Prop
  | pos, _, [] => pos = rs.length
  | pos, last, r :: l => ∃ (hi : Nat) (q : Str), r = { Lo := (pos : Int), Hi := (hi : Int) } ∧ pos < hi ∧ hi ≤ rs.length ∧ q ≠ [] ∧ q ≠ last ∧ (∀ i, pos ≤ i → i < hi → gR rs i = [] ∨ gR rs i = q) ∧ (∃ i, pos ≤ i ∧ i < hi ∧ gR rs i = q) ∧ RunsOk rs hi q l

theorem runs_ok (rs : List Str) : ∀ (xs pre : List Str) (s : Nat) (q last : Str), rs = pre ++ xs → s < pre.length → q ≠ [] → q ≠ last → (∀ i, s ≤ i → i < pre.length → gR rs i = [] ∨ gR rs i = q) → ((∃ i, s ≤ i ∧ i < pre.length ∧ gR rs i = q) ∨ firstR xs = q) →
    RunsOk rs s last (runsR s pre.length q (carry q xs)) := by
  intro xs
  induction xs with
  | nil =>
    intro pre s q last e hs hq hl hall hex
    simp only [carry, runsR, RunsOk]
    refine ⟨pre.length, q, rfl, hs, by rw [e]; simp, hq, hl, hall, ?_, by rw [e]; simp⟩
    rcases hex with h | h
    · exact h
    · exact absurd h.symm hq
  | cons x xs ih =>
    intro pre s q last e hs hq hl hall hex
    have hgx : gR rs pre.length = x := by rw [e]; simp [gR]
    have e' : rs = (pre ++ [x]) ++ xs := by rw [e]; simp
    have hlen : (pre ++ [x]).length = pre.length + 1 := by simp
    simp only [carry, runsR]
    by_cases hx : x = []
    · simp only [hx, if_true]
      have := ih (pre ++ [x]) s q last e' (by omega) hq hl (by
        intro i h1 h2
        by_cases hi : i = pre.length
        · left; rw [hi, hgx, hx]
        · exact hall i h1 (by omega)) (by
        rcases hex with ⟨i, h1, h2, h3⟩ | h
        · exact Or.inl ⟨i, h1, by omega, h3⟩
        · right; rw [hx] at h; simpa [firstR] using h)
      rw [hlen] at this
      exact this
    · simp only [hx, if_false]
      by_cases hxq : x = q
      · subst hxq
        simp only [if_true]
        have := ih (pre ++ [x]) s x last e' (by omega) hq hl (by
          intro i h1 h2
          by_cases hi : i = pre.length
          · right; rw [hi, hgx]
          · exact hall i h1 (by omega)) (Or.inl ⟨pre.length, by omega, by omega, hgx⟩)
        rw [hlen] at this
        exact this
      · simp only [hxq, if_false, RunsOk]
        refine ⟨pre.length, q, rfl, hs, by rw [e]; simp, hq, hl, hall, ?_, ?_⟩
        · rcases hex with h | h
          · exact h
          · simp only [firstR, hx, if_false] at h; exact absurd h hxq
        · have := ih (pre ++ [x]) pre.length x q e' (by omega) hx hxq (by
            intro i h1 h2
            have : i = pre.length := by omega
            right; rw [this, hgx]) (Or.inl ⟨pre.length, by omega, by omega, hgx⟩)
          rw [hlen] at this
          exact this

theorem runs_ok0 (rs : List Str) (h : firstR rs ≠ []) : RunsOk rs 0 [] (runsOf (resS rs)) := by
  cases rs with
  | nil => exact absurd rfl h
  | cons x xs =>
    unfold resS
    simp only [carry, runsOf]
    by_cases hx : x = []
    · simp only [hx, if_true]
      have hf : firstR ([] :: xs) = firstR xs := by simp [firstR]
      rw [hx, hf] at h
      rw [hf]
      exact runs_ok ([] :: xs) xs [[]] 0 (firstR xs) [] rfl (by simp) h h (by
        intro i h1 h2
        have : i = 0 := by simp at h2; omega
        subst this; left; rfl) (Or.inr rfl)
    · simp only [hx, if_false]
      exact runs_ok (x :: xs) xs [x] 0 x [] rfl (by simp) hx hx (by
        intro i h1 h2
        have : i = 0 := by simp at h2; omega
        subst this; right; rfl) (Or.inl ⟨0, by omega, by simp, rfl⟩)

theorem allnil_of_first : ∀ (rs : List Str), firstR rs = [] → ∀ x ∈ rs, x = [] := by
  intro rs
  induction rs with
  | nil => intro _ x hx; cases hx
  | cons y ys ih =>
    intro h x hx
    by_cases hy : y = []
    · simp only [firstR, hy, if_true] at h
      rcases List.mem_cons.1 hx with e | hx
      · rw [e, hy]
      · exact ih h x hx
    · simp only [firstR, hy, if_false] at h

theorem runsR_nil : ∀ (ys : List Str) (s i : Nat), (∀ y ∈ ys, y = []) → runsR s i [] ys = [{ Lo := (s : Int), Hi := ((i + ys.length : Nat) : Int) }] := by
  intro ys
  induction ys with
  | nil => intro s i _; rfl
  | cons y ys ih =>
    intro s i h
    simp only [runsR, h y (by simp), if_true]
    rw [ih s (i + 1) (fun y hy => h y (by simp [hy]))]
    have : i + 1 + ys.length = i + (([] : Str) :: ys).length := by rw [List.length_cons]; omega
    rw [this]
theorem carry_nil : ∀ (ys : List Str), (∀ y ∈ ys, y = []) → carry [] ys = ys := by
  intro ys
  induction ys with
  | nil => intro _; rfl
  | cons y ys ih =>
    intro h
    have hy := h y (by simp)
    simp only [carry, hy, if_true]
    rw [ih (fun y hy => h y (by simp [hy]))]
theorem runs_nil (rs : List Str) (h : firstR rs = []) (hne : rs ≠ []) : runsOf (resS rs) = [{ Lo := 0, Hi := (rs.length : Int) }] := by
  have hall := allnil_of_first rs h
  unfold resS
  rw [h, carry_nil rs hall]
  cases rs with
  | nil => exact absurd rfl hne
  | cons x xs =>
    have hx := hall x (by simp)
    simp only [runsOf, hx]
    rw [runsR_nil xs 0 1 (fun y hy => hall y (by simp [hy]))]
    simp; omega

theorem of_slice (p : Property) (hp : Sm p) (t : List Int) (ht : t.length ≤ 500) {lo hi : Nat} {q : Str} (hh : hi ≤ t.length) (hq : q ≠ []) (hall : ∀ i, lo ≤ i → i < hi → gR (t.map (realOf p)) i = [] ∨ gR (t.map (realOf p)) i = q) (hex : ∃ i, lo ≤ i ∧ i < hi ∧ gR (t.map (realOf p)) i = q) : ofP p ((t.take hi).drop lo) = [q] := by
  have hl : ((t.take hi).drop lo).length ≤ 500 := by simp; omega
  refine IsOf_uniq (isOf p hp _ hl) ⟨List.pairwise_singleton _ _, ?_⟩
  intro y
  have hg : ∀ i, i < t.length → gR (t.map (realOf p)) i = realOf p (t[i]?.getD 0) := by
    intro i hi; simp [gR, hi]
  simp only [List.mem_singleton, List.mem_map]
  constructor
  · intro e
    subst e
    refine ⟨hq, ?_⟩
    obtain ⟨i, h1, h2, h3⟩ := hex
    have hit : i < t.length := by omega
    refine ⟨t[i], ?_, ?_⟩
    · rw [List.mem_iff_getElem]
      refine ⟨i - lo, by simp; omega, ?_⟩
      rw [List.getElem_drop, List.getElem_take]
      congr 1; omega
    · rw [hg i hit] at h3; simpa [hit] using h3
  · rintro ⟨hy, a, ha, e⟩
    obtain ⟨j, hj, rfl⟩ := List.getElem_of_mem ha
    simp only [List.length_drop, List.length_take] at hj
    rw [List.getElem_drop, List.getElem_take] at e
    have hit : lo + j < t.length := by omega
    have h3 := hall (lo + j) (by omega) (by omega)
    rw [hg _ hit] at h3
    simp only [List.getElem?_eq_getElem hit, Option.getD_some, e] at h3
    rcases h3 with h | h
    · exact absurd h hy
    · exact h

theorem cover_loop (p : Property) (hp : Sm p) (t : List Int) (ht : t.length ≤ 500) (runs : List Range) (hrl : runs.length ≤ 1000) : ∀ (l pre : List Range) (pos : Nat) (last : Str), runs = pre ++ l → RunsOk (t.map (realOf p)) pos last l → loopM (fun (x : Int × Str × Int) => law40_ScriptsCover_L0 runs t p x.1 x.2.1 x.2.2) ((pos : Int), last, (pre.length : Int)) = some (.inl (t.length : Int)) := by
  intro l
  induction l with
  | nil =>
    intro pre pos last e h
    simp only [RunsOk, List.length_map] at h
    have : pre.length = runs.length := by rw [e]; simp
    apply loopM_done
    simp only [law40_ScriptsCover_L0, lt_f (n := runs.length) (k := pre.length) (by omega), cond_false, h]
  | cons r l ih =>
    intro pre pos last e h
    simp only [RunsOk] at h
    obtain ⟨hi, q, hr, h1, h2, h3, h4, h5, h6, h7⟩ := h
    rw [List.length_map] at h2
    have hk : pre.length < runs.length := by rw [e]; simp
    have hrk : runs[pre.length] = r := by simp [e]
    have hof := of_slice p hp t ht h2 h3 h5 h6
    have hne : (q == last) = false := by simpa using h4
    have := ih (pre ++ [r]) hi q (by rw [e]; simp) h7
    have hpl : (pre ++ [r]).length = pre.length + 1 := by simp
    rw [hpl] at this
    rw [← this]
    apply loopM_next
    have e1 : decide ((hi : Int) ≤ (pos : Int)) = false := by rw [decide_eq_false_iff_not]; omega
    have e2 : decide ((t.length : Int) < (hi : Int)) = false := by rw [decide_eq_false_iff_not]; omega
    have e3 : decide ((([q] : List Str).length : Int) = 0) = false := rfl
    have e4 : decide ((([q] : List Str).length : Int) = 1) = true := rfl
    have hl : ((t.take hi).drop pos).length ≤ 500 := by simp; omega
    simp only [law40_ScriptsCover_L0, lt_t hk, cond_true, idx_nat hk, hrk, hr, some_bind, decide_true, Bool.not_true, pv_bind, Bool.not_false, gM_t, Bool.false_or, e1, e2, cond_false, slc_ok (l := t) (a := pos) (b := hi) (by omega) h2, Of_eq p hp _ hl, hof, e3, e4, idx_zero, hne, wi_succ (k := pre.length) (by omega)]

theorem law40_ScriptsCover_true (p : Property) (t : List Int) (ok0 : okProperty p) (ok1 : t.length ≤ 9223372036854775807 ∧ ∀ y0 ∈ t, (-9223372036854775808 ≤ y0 ∧ y0 ≤ 9223372036854775807)) : law40_ScriptsCover p t = some true := by
  unfold law40_ScriptsCover
  rw [few_eq, some_bind, alive]
  cases hf : (decide (p.Names.length ≤ 20) && decide (p.Spans.length ≤ 16) && decide (t.length ≤ 40)) with
  | false => rfl
  | true =>
    obtain ⟨hp, ht⟩ := few_sm ok0 hf
    have ht' : t.length ≤ 500 := by omega
    simp only [Bool.not_true, cond_false, Runs_eq p hp t ht', some_bind]
    have hrl := runsOf_len (resS (t.map (realOf p)))
    rw [resS_len, List.length_map] at hrl
    by_cases hfr : firstR (t.map (realOf p)) = []
    · by_cases hne : t = []
      · subst hne
        have hr0 : runsOf (resS (([] : List Int).map (realOf p))) = [] := rfl
        rw [hr0]
        rw [loopM_done (y := .inl 0) rfl]
        rfl
      · have hr1 := runs_nil (t.map (realOf p)) hfr (by simpa using hne)
        rw [List.length_map] at hr1
        rw [hr1]
        have htp : 0 < t.length := by cases t; exact absurd rfl hne; simp
        have hof : ofP p t = [] := by
          refine IsOf_uniq (isOf p hp t ht') ⟨List.Pairwise.nil, ?_⟩
          intro y
          constructor
          · intro h; cases h
          · rintro ⟨h1, h2⟩; exact absurd (allnil_of_first _ hfr y h2) h1
        rw [loopM_done (y := .inr true) (by
          have e1 : decide ((t.length : Int) ≤ 0) = false := by rw [decide_eq_false_iff_not]; omega
          have e2 : decide ((t.length : Int) < (t.length : Int)) = false := by rw [decide_eq_false_iff_not]; omega
          have e3 : decide ((0 : Int) < (([({ Lo := 0, Hi := (t.length : Int) } : Range)] : List Range).length : Int)) = true := by simp
          have e4 : decide (((([({ Lo := 0, Hi := (t.length : Int) } : Range)] : List Range).length : Nat) : Int) = 1) = true := by simp
          have e5 : decide (((([] : List Str).length : Nat) : Int) = 0) = true := by decide
          have hsl : slc t 0 (t.length : Int) = some t := by
            have := slc_take (l := t) (b := t.length) (Nat.le_refl _)
            rw [List.take_length] at this; exact this
          simp only [law40_ScriptsCover_L0, e3, cond_true, idx_zero, some_bind, decide_true, Bool.not_true, pv_bind, Bool.not_false, gM_t, Bool.false_or, e1, e2, cond_false, hsl, Of_eq p hp t ht', hof, e4, e5, Bool.and_self, alive])]
        rfl
    · have hok := runs_ok0 _ hfr
      have hloop := cover_loop p hp t ht' (runsOf (resS (t.map (realOf p)))) (by omega) _ [] 0 [] rfl hok
      simp only [List.length_nil, z0] at hloop
      rw [hloop]
      simp only [some_bind, Sum.elim_inl, decide_true, pv_bind, gM_t, Bool.and_self]

/-! ## The first runs -/
def atLo (ss : List Str) (s : Str) (r : Range) : Bool := gR ss r.Lo.toNat == s
theorem runs_cov (ss : List Str) : ∀ (xs pre : List Str) (s : Nat) (q : Str), ss = pre ++ xs → s < pre.length → gR ss s = q → (∀ r ∈ runsR s pre.length q xs, ∃ k : Nat, k < ss.length ∧ r.Lo = (k : Int)) ∧ (∃ r ∈ runsR s pre.length q xs, r.Lo = (s : Int)) ∧ (∀ y ∈ xs, ∃ r ∈ runsR s pre.length q xs, ∃ k : Nat, r.Lo = (k : Int) ∧ gR ss k = y) := by
  intro xs
  induction xs with
  | nil =>
    intro pre s q e hs hg
    simp only [runsR, List.mem_singleton]
    refine ⟨?_, ⟨_, rfl, rfl⟩, ?_⟩
    · intro r hr; subst hr; exact ⟨s, by rw [e]; simp; omega, rfl⟩
    · intro y hy; cases hy
  | cons x xs ih =>
    intro pre s q e hs hg
    have hgx : gR ss pre.length = x := by rw [e]; simp [gR]
    have e' : ss = (pre ++ [x]) ++ xs := by rw [e]; simp
    have hlen : (pre ++ [x]).length = pre.length + 1 := by simp
    simp only [runsR]
    by_cases hx : x = q
    · simp only [hx, if_true]
      have := ih (pre ++ [x]) s q e' (by omega) hg
      rw [hlen] at this
      refine ⟨this.1, this.2.1, ?_⟩
      intro y hy
      rcases List.mem_cons.1 hy with h | h
      · obtain ⟨r, hr, h2⟩ := this.2.1
        exact ⟨r, hr, s, h2, by rw [hg, h]⟩
      · exact this.2.2 y h
    · simp only [hx, if_false]
      have := ih (pre ++ [x]) pre.length x e' (by omega) hgx
      rw [hlen] at this
      refine ⟨?_, ⟨_, List.mem_cons_self, rfl⟩, ?_⟩
      · intro r hr
        rcases List.mem_cons.1 hr with h | h
        · subst h; exact ⟨s, by rw [e]; simp; omega, rfl⟩
        · exact this.1 r h
      · intro y hy
        rcases List.mem_cons.1 hy with h | h
        · obtain ⟨r, hr, h2⟩ := this.2.1
          exact ⟨r, by simp [hr], pre.length, h2, by rw [hgx, h]⟩
        · obtain ⟨r, hr, h2⟩ := this.2.2 y h
          exact ⟨r, by simp [hr], h2⟩
theorem runs_cov0 (ss : List Str) : (∀ r ∈ runsOf ss, ∃ k : Nat, k < ss.length ∧ r.Lo = (k : Int)) ∧ (∀ y ∈ ss, ((runsOf ss).find? (atLo ss y)).isSome = true) := by
  cases ss with
  | nil => exact ⟨(fun r hr => by cases hr), (fun y hy => by cases hy)⟩
  | cons x xs =>
    have := runs_cov (x :: xs) xs [x] 0 x rfl (by simp) rfl
    refine ⟨this.1, ?_⟩
    intro y hy
    rw [List.find?_isSome]
    rcases List.mem_cons.1 hy with h | h
    · obtain ⟨r, hr, h2⟩ := this.2.1
      exact ⟨r, hr, by rw [atLo, h2, h]; simp [gR]⟩
    · obtain ⟨r, hr, k, h2, h3⟩ := this.2.2 y h
      exact ⟨r, hr, by rw [atLo, h2]; simp [h3]⟩

theorem res_loop0 (ss : List Str) (runs : List Range) (hrl : runs.length ≤ 1000) (hb : ∀ r ∈ runs, ∃ k : Nat, k < ss.length ∧ r.Lo = (k : Int)) : ∀ (l pre : List Range) (m : List (Str × Range)), runs = pre ++ l → (∀ s, mget m s = pre.find? (atLo ss s)) → ∃ m', loopM (fun (x : Int × (List (Str × Range))) => scripts_Resolved_L0 runs ss x.1 x.2) ((pre.length : Int), m) = some m' ∧ ∀ s, mget m' s = runs.find? (atLo ss s) := by
  intro l
  induction l with
  | nil =>
    intro pre m e hm
    have : pre.length = runs.length := by rw [e]; simp
    refine ⟨m, ?_, by rw [e, List.append_nil]; exact hm⟩
    apply loopM_done
    simp only [scripts_Resolved_L0, lt_f (n := runs.length) (k := pre.length) (by omega), cond_false]
  | cons r l ih =>
    intro pre m e hm
    have hk : pre.length < runs.length := by rw [e]; simp
    have hrk : runs[pre.length] = r := by simp [e]
    obtain ⟨k, hks, hlo⟩ := hb r (by rw [e]; simp)
    have hg : gR ss k = ss[k] := by simp [gR, hks]
    have hpl : (pre ++ [r]).length = pre.length + 1 := by simp
    cases hh : mhas m ss[k] with
    | true =>
      obtain ⟨m', h1, h2⟩ := ih (pre ++ [r]) m (by rw [e]; simp) (by
        intro s
        rw [List.find?_append, hm s]
        cases hf : pre.find? (atLo ss s) with
        | some x => rfl
        | none =>
          have : atLo ss s r = false := by
            cases ha : atLo ss s r with
            | false => rfl
            | true =>
              have : s = ss[k] := by simp only [atLo, hlo, Int.toNat_natCast, hg, beq_iff_eq] at ha; exact ha.symm
              rw [mhas, ← this, hm s, hf] at hh; cases hh
          simp [this])
      rw [hpl] at h1
      refine ⟨m', ?_, h2⟩
      rw [← h1]
      apply loopM_next
      simp only [scripts_Resolved_L0, lt_t hk, cond_true, idx_nat hk, hrk, some_bind, hlo, idx_nat hks, hh, Bool.not_true, cond_false, wi_succ (k := pre.length) (by omega)]
    | false =>
      obtain ⟨m', h1, h2⟩ := ih (pre ++ [r]) (mput m ss[k] r) (by rw [e]; simp) (by
        intro s
        rw [List.find?_append, mget_put]
        by_cases hs : s = ss[k]
        · have hn : pre.find? (atLo ss s) = none := by
            rw [← hm s, hs]; simpa [mhas] using hh
          have : atLo ss s r = true := by simp [atLo, hlo, hg, hs]
          rw [hn, if_pos hs]; simp [this]
        · have : atLo ss s r = false := by
            simp only [atLo, hlo, Int.toNat_natCast, hg]; simp; exact fun h => hs h.symm
          rw [if_neg hs, hm s]; simp [this])
      rw [hpl] at h1
      refine ⟨m', ?_, h2⟩
      rw [← h1]
      apply loopM_next
      simp only [scripts_Resolved_L0, lt_t hk, cond_true, idx_nat hk, hrk, some_bind, hlo, idx_nat hks, hh, Bool.not_false, wi_succ (k := pre.length) (by omega)]

theorem res_loop1 (o : List Str) (ho : o.length ≤ 1000) (m : List (Str × Range)) : ∀ (l pre : List Str) (out : List Range), o = pre ++ l → out.length ≤ pre.length → loopM (fun (x : Int × (List Range)) => scripts_Resolved_L1 o m x.1 x.2) ((pre.length : Int), out) = some (out ++ l.map fun s => mgetD m s { Lo := 0, Hi := 0 }) := by
  intro l
  induction l with
  | nil =>
    intro pre out e hl
    have : pre.length = o.length := by rw [e]; simp
    rw [loopM_done (y := out) (by simp only [scripts_Resolved_L1, lt_f (n := o.length) (k := pre.length) (by omega), cond_false])]
    simp
  | cons s l ih =>
    intro pre out e hl
    have hk : pre.length < o.length := by rw [e]; simp
    have hsk : o[pre.length] = s := by simp [e]
    have hpl : (pre ++ [s]).length = pre.length + 1 := by simp
    have := ih (pre ++ [s]) (out ++ [mgetD m s { Lo := 0, Hi := 0 }]) (by rw [e]; simp) (by simp; omega)
    rw [hpl] at this
    rw [loopM_next (x' := (((pre.length + 1 : Nat) : Int), out ++ [mgetD m s { Lo := 0, Hi := 0 }])) (by
      simp only [scripts_Resolved_L1, lt_t hk, cond_true, idx_nat hk, hsk, some_bind, wi_succ (k := pre.length) (by omega)]
      rw [app_ok (by simp; omega)]; rfl)]
    rw [this]; simp

def resP (ss : List Str) (o : List Str) : List Range := o.map fun s => ((runsOf ss).find? (atLo ss s)).getD { Lo := 0, Hi := 0 }

theorem Resolved_eq (p : Property) (hp : Sm p) (t : List Int) (ht : t.length ≤ 500) : scripts_Resolved p t = some (resP (resS (t.map (realOf p))) (ofP p t)) := by
  unfold scripts_Resolved
  rw [resolved_eq p hp t ht, some_bind, runs_string_eq _ (by rw [resS_len]; simp; omega), some_bind, Of_eq p hp t ht]
  have hrl := runsOf_len (resS (t.map (realOf p)))
  rw [resS_len, List.length_map] at hrl
  have hol := ofP_len p hp t ht
  generalize resS (t.map (realOf p)) = ss at hrl
  obtain ⟨m, h1, h2⟩ := res_loop0 ss (runsOf ss) (by omega) (runs_cov0 ss).1 (runsOf ss) [] [] rfl (by intro s; rfl)
  simp only [List.length_nil, z0] at h1
  rw [h1, some_bind, some_bind]
  have h3 := res_loop1 (ofP p t) (by omega) m (ofP p t) [] [] rfl (by simp)
  simp only [List.length_nil, z0, List.nil_append] at h3
  rw [h3, some_bind]
  unfold resP
  congr 1
  apply List.map_congr_left
  intro s _
  rw [mgetD, h2 s]

theorem rres_inner (p : Property) (hp : Sm p) (t : List Int) (ht : t.length ≤ 500) (o : List Str) {v : Nat} (hv : v < o.length) (out : List Range) (ho : out.length ≤ 1000) (ss : List Str) (hss : ss = resS (t.map (realOf p))) (runs : List Range) (hrl : runs.length ≤ 1000) (hb : ∀ r ∈ runs, ∃ k : Nat, k < ss.length ∧ r.Lo = (k : Int)) : ∀ (l pre : List Range), runs = pre ++ l →
    loopM (fun (x : Int) => ref40_Resolved_L1 runs p t o (v : Int) out x) (pre.length : Int) = some (out ++ (l.find? (atLo ss o[v])).toList) := by
  have hsl : ss.length = t.length := by rw [hss, resS_len]; simp
  have hS : ∀ i, i < ss.length → ref40_Script p t (i : Int) = some (gR ss i) := by
    intro i h
    rw [Script_eq p hp t ht (by omega), ← hss]; rfl
  intro l
  induction l with
  | nil =>
    intro pre e
    have : pre.length = runs.length := by rw [e]; simp
    rw [loopM_done (y := out) (by simp only [ref40_Resolved_L1, lt_f (n := runs.length) (k := pre.length) (by omega), cond_false])]
    simp
  | cons r l ih =>
    intro pre e
    have hk : pre.length < runs.length := by rw [e]; simp
    have hrk : runs[pre.length] = r := by simp [e]
    obtain ⟨k, hks, hlo⟩ := hb r (by rw [e]; simp)
    have hpl : (pre ++ [r]).length = pre.length + 1 := by simp
    have hat : atLo ss o[v] r = (gR ss k == o[v]) := by simp [atLo, hlo]
    rw [List.find?_cons]
    cases hc : gR ss k == o[v] with
    | true =>
      rw [hc] at hat
      rw [loopM_done (y := out ++ [r]) (by
        simp only [ref40_Resolved_L1, lt_t hk, cond_true, idx_nat hk, hrk, some_bind, hlo, hS k hks, idx_nat hv, hc]
        rw [app_ok (by simp; omega)]; rfl)]
      simp [hat]
    | false =>
      rw [hc] at hat
      have := ih (pre ++ [r]) (by rw [e]; simp)
      rw [hpl] at this
      rw [loopM_next (x' := ((pre.length + 1 : Nat) : Int)) (by
        simp only [ref40_Resolved_L1, lt_t hk, cond_true, idx_nat hk, hrk, some_bind, hlo, hS k hks, idx_nat hv, hc, cond_false, wi_succ (k := pre.length) (by omega)])]
      rw [this]; simp [hat]

theorem rres_outer (p : Property) (hp : Sm p) (t : List Int) (ht : t.length ≤ 500) (o : List Str) (hol : o.length ≤ 500) (ss : List Str) (hss : ss = resS (t.map (realOf p))) (runs : List Range) (hrl : runs.length ≤ 1000) (hb : ∀ r ∈ runs, ∃ k : Nat, k < ss.length ∧ r.Lo = (k : Int)) (hs : ∀ s ∈ o, (runs.find? (atLo ss s)).isSome = true) : ∀ (l pre : List Str) (out : List Range), o = pre ++ l → out.length ≤ pre.length →
    loopM (fun (x : Int × (List Range)) => ref40_Resolved_L0 o runs p t x.1 x.2) ((pre.length : Int), out) = some (out ++ l.map fun s => (runs.find? (atLo ss s)).getD { Lo := 0, Hi := 0 }) := by
  intro l
  induction l with
  | nil =>
    intro pre out e hl
    have : pre.length = o.length := by rw [e]; simp
    rw [loopM_done (y := out) (by simp only [ref40_Resolved_L0, lt_f (n := o.length) (k := pre.length) (by omega), cond_false])]
    simp
  | cons s l ih =>
    intro pre out e hl
    have hk : pre.length < o.length := by rw [e]; simp
    have hsk : o[pre.length] = s := by simp [e]
    have hpl : (pre ++ [s]).length = pre.length + 1 := by simp
    have hin := rres_inner p hp t ht o hk out (by omega) ss hss runs hrl hb runs [] rfl
    simp only [List.length_nil, z0, hsk] at hin
    obtain ⟨r, hr⟩ := Option.isSome_iff_exists.1 (hs s (by rw [e]; simp))
    rw [hr] at hin
    simp only [Option.toList_some] at hin
    have := ih (pre ++ [s]) (out ++ [r]) (by rw [e]; simp) (by simp; omega)
    rw [hpl] at this
    rw [loopM_next (x' := (((pre.length + 1 : Nat) : Int), out ++ [r])) (by
      simp only [ref40_Resolved_L0, lt_t hk, cond_true, hin, some_bind, wi_succ (k := pre.length) (by omega)])]
    rw [this]; simp [hr]

theorem carry_mem (rs : List Str) (c : Str) {x : Str} (hx : x ∈ rs) (hne : x ≠ []) : x ∈ carry c rs := by
  induction rs generalizing c with
  | nil => cases hx
  | cons y ys ih =>
    simp only [carry, List.mem_cons]
    rcases List.mem_cons.1 hx with h | h
    · left; subst h; simp [hne]
    · right; exact ih _ h

theorem RResolved_eq (p : Property) (hp : Sm p) (t : List Int) (ht : t.length ≤ 500) : ref40_Resolved p t = some (resP (resS (t.map (realOf p))) (ofP p t)) := by
  unfold ref40_Resolved
  rw [ROf_eq p hp t ht, some_bind, RRuns_eq p hp t ht, some_bind]
  have hrl := runsOf_len (resS (t.map (realOf p)))
  rw [resS_len, List.length_map] at hrl
  have hol := ofP_len p hp t ht
  have hc := runs_cov0 (resS (t.map (realOf p)))
  have h := rres_outer p hp t ht (ofP p t) (by omega) _ rfl (runsOf (resS (t.map (realOf p)))) (by omega) hc.1 (by
    intro s hs
    have hm := ((isOf p hp t ht).2 s).1 hs
    exact hc.2 s (carry_mem _ _ hm.2 hm.1)) (ofP p t) [] [] rfl (by simp)
  simp only [List.length_nil, z0, List.nil_append] at h
  rw [h]; rfl

theorem law40_ScriptsResolved_true (p : Property) (t : List Int) (ok0 : okProperty p) (ok1 : t.length ≤ 9223372036854775807 ∧ ∀ y0 ∈ t, (-9223372036854775808 ≤ y0 ∧ y0 ≤ 9223372036854775807)) : law40_ScriptsResolved p t = some true := by
  unfold law40_ScriptsResolved
  rw [few_eq, some_bind, alive]
  cases hf : (decide (p.Names.length ≤ 20) && decide (p.Spans.length ≤ 16) && decide (t.length ≤ 40)) with
  | false => rfl
  | true =>
    obtain ⟨hp, ht⟩ := few_sm ok0 hf
    have ht' : t.length ≤ 500 := by omega
    have hol := ofP_len p hp t ht'
    have hlen : (resP (resS (t.map (realOf p))) (ofP p t)).length = (ofP p t).length := by simp [resP]
    simp only [Bool.not_true, cond_false, Resolved_eq p hp t ht', RResolved_eq p hp t ht', some_bind, SameRanges_eq _ _ (show (resP (resS (t.map (realOf p))) (ofP p t)).length ≤ 1000 by omega), decide_true, pv_bind, gM_t, Of_eq p hp t ht', hlen, Bool.and_self]
end Go.M

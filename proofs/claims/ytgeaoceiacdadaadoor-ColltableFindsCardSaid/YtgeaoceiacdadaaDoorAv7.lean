/- The layer of abstract values: what a temporary holds, said once; every rule of it is proved from the model. Conditions: none. -/
import Derived.Test.YtgeaoceiacdadaaDoorAv6
set_option linter.unusedSimpArgs false
set_option linter.unusedVariables false
set_option linter.unnecessarySimpa false
namespace Go.AV
open Go.RowKit

/-! ## A region that draws its order -/

def aft (o : Oper) : List Nat := (o.after.toList.filter fun e => Region.binds .any e).map (·.on)

def clo : List Oper → List (List Nat) → List (List Nat)
  | [], acc => acc
  | o :: l, acc => clo l (acc ++ [((aft o).flatMap fun j => j :: acc.getD j []).eraseDups])

inductive Reach (l : List Oper) : Nat → Nat → Prop
  | one {i j : Nat} {o : Oper} (h : l[i]? = some o) (hj : j ∈ aft o) : Reach l i j
  | more {i k j : Nat} {o : Oper} (h : l[i]? = some o) (hk : k ∈ aft o) (hr : Reach l k j) : Reach l i j

theorem clo_reach (l0 : List Oper) : ∀ (l : List Oper) (acc : List (List Nat)), (∀ (k : Nat) o, l[k]? = some o → l0[acc.length + k]? = some o) → (∀ i j, j ∈ acc.getD i [] → Reach l0 i j) → ∀ i j, j ∈ (clo l acc).getD i [] → Reach l0 i j := by
  intro l
  induction l with
  | nil => intro acc _ h i j hj; exact h i j hj
  | cons o l ih =>
    intro acc hl hacc
    refine ih _ (fun k o' hk => ?_) (fun i j hj => ?_)
    · have := hl (k + 1) o' (by simpa using hk)
      simp only [List.length_append, List.length_singleton]
      rwa [show acc.length + 1 + k = acc.length + (k + 1) by omega]
    · have h0 : l0[acc.length]? = some o := by simpa using hl 0 o rfl
      rcases Nat.lt_trichotomy i acc.length with hlt | heq | hgt
      · have : (acc ++ [((aft o).flatMap fun j => j :: acc.getD j []).eraseDups]).getD i [] = acc.getD i [] := by
          simp [List.getD, List.getElem?_append_left hlt]
        rw [this] at hj
        exact hacc i j hj
      · subst heq
        have : (acc ++ [((aft o).flatMap fun j => j :: acc.getD j []).eraseDups]).getD acc.length [] = ((aft o).flatMap fun j => j :: acc.getD j []).eraseDups := by
          simp [List.getD]
        rw [this, List.mem_eraseDups, List.mem_flatMap] at hj
        obtain ⟨k, hk, hj⟩ := hj
        rcases List.mem_cons.1 hj with rfl | hj
        · exact .one h0 hk
        · exact .more h0 hk (hacc k j hj)
      · have : (acc ++ [((aft o).flatMap fun j => j :: acc.getD j []).eraseDups]).getD i [] = [] := by
          simp only [List.getD]
          rw [List.getElem?_eq_none (by simp; omega)]
          rfl
        rw [this] at hj
        cases hj

def dstAt (l : List Oper) (i : Nat) : Option Nat := (l[i]?).bind (·.dst)

def drawOk (l : List Oper) (N : Nat) : Bool :=
  let c := clo l []
  decide (N ≤ l.length) &&
  (List.range l.length).all fun i => match l[i]? with
    | none => true
    | some o =>
      ((aft o).all fun j => decide (j < i)) &&
      (if i < N then
        ((o.looksAt l.toArray).all fun t => (List.range N).all fun j => (Nat.beq j i || (dstAt l j != some t)) || (if j < i then (c.getD i []).contains j else (c.getD j []).contains i)) &&
        ((List.range N).all fun j => Nat.beq j i || (dstAt l j != o.dst))
      else (List.range i).all fun j => (c.getD i []).contains j)

structure DrawOk (l : List Oper) (N : Nat) : Prop where
  le : N ≤ l.length
  aft : ∀ i o, l[i]? = some o → ∀ j ∈ aft o, j < i
  looks : ∀ i o, i < N → l[i]? = some o → ∀ t ∈ o.looksAt l.toArray, ∀ j, j < N → j ≠ i → dstAt l j = some t → if j < i then Reach l i j else Reach l j i
  dist : ∀ i o, i < N → l[i]? = some o → ∀ j, j < N → j ≠ i → dstAt l j ≠ o.dst
  tail : ∀ i o, N ≤ i → l[i]? = some o → ∀ j, j < i → Reach l i j

theorem drawOk_spec {l : List Oper} {N : Nat} (h : drawOk l N = true) : DrawOk l N := by
  have hc : ∀ i j, j ∈ (clo l []).getD i [] → Reach l i j := clo_reach l l [] (fun k o hk => by simpa using hk) (fun i j hj => by simp at hj)
  simp only [drawOk, Bool.and_eq_true, decide_eq_true_eq, List.all_eq_true, List.mem_range] at h
  obtain ⟨hle, h⟩ := h
  have hi : ∀ (i : Nat) o, l[i]? = some o → i < l.length := fun i o ho => (List.getElem?_eq_some_iff.1 ho).1
  refine ⟨hle, fun i o ho j hj => ?_, fun i o hN ho t ht j hj hne hd => ?_, fun i o hN ho j hj hne => ?_, fun i o hN ho j hj => ?_⟩
  · have := h i (hi i o ho)
    simp only [ho, Bool.and_eq_true, List.all_eq_true, decide_eq_true_eq] at this
    exact this.1 j hj
  · have := h i (hi i o ho)
    simp only [ho, Bool.and_eq_true, List.all_eq_true, decide_eq_true_eq, hN, if_true, List.mem_range, Bool.or_eq_true, Nat.beq_eq] at this
    have h2 := this.2.1 t ht j hj
    rcases h2 with (h2 | h2) | h2
    · exact absurd h2 hne
    · rw [hd] at h2; simp at h2
    · by_cases hlt : j < i
      · simp only [hlt, if_true] at h2 ⊢; exact hc i j (by simpa using h2)
      · simp only [hlt, if_false] at h2 ⊢; exact hc j i (by simpa using h2)
  · have := h i (hi i o ho)
    simp only [ho, Bool.and_eq_true, List.all_eq_true, decide_eq_true_eq, hN, if_true, List.mem_range, Bool.or_eq_true, Nat.beq_eq] at this
    rcases this.2.2 j hj with h2 | h2
    · exact absurd h2 hne
    · simpa using h2
  · have := h i (hi i o ho)
    have hn : ¬ i < N := by omega
    simp only [ho, Bool.and_eq_true, List.all_eq_true, decide_eq_true_eq, hn, if_false, List.mem_range] at this
    exact hc i j (by simpa using this.2 j hj)

def DA (P : Program) (r : Option Nat) (E : Env) (ops : Array Oper) : List Oper → AState → (AState → Prop) → Prop
  | [], S, J => J S
  | o :: rest, S, J => ∃ d x, AOpG P r E ops S o d x ∧ DA P r E ops rest (S.put d x) J

section
variable {P : Program} {r : Option Nat} {E : Env} {S : AState} {d : Nat}
theorem da_nil {ops : Array Oper} {J : AState → Prop} (h : J S) : DA P r E ops [] S J := h
theorem da_a {ops : Array Oper} {o : Oper} {rest : List Oper} {J : AState → Prop} {x : AV} (h : AOpG P r E ops S o d x) (k : DA P r E ops rest (S.put d x) J) : DA P r E ops (o :: rest) S J := ⟨d, x, h, k⟩

def puts (S : AState) : List (Nat × AV) → AState
  | [] => S
  | p :: ps => puts (S.put p.1 p.2) ps
theorem puts_snoc (S : AState) (ps : List (Nat × AV)) (p : Nat × AV) : puts S (ps ++ [p]) = (puts S ps).put p.1 p.2 := by
  induction ps generalizing S with
  | nil => rfl
  | cons q ps ih => exact ih _
theorem puts_blks (S : AState) (ps : List (Nat × AV)) : (puts S ps).blks = S.blks := by
  induction ps generalizing S with
  | nil => rfl
  | cons q ps ih => exact ih _

theorem DA.list {ops : Array Oper} : ∀ (l : List Oper) {S : AState} {J : AState → Prop}, DA P r E ops l S J →
    ∃ ps : List (Nat × AV), ps.length = l.length ∧ J (puts S ps) ∧ ∀ (i : Nat) o p, l[i]? = some o → ps[i]? = some p → AOpG P r E ops (puts S (ps.take i)) o p.1 p.2
  | [], S, _, h => ⟨[], rfl, h, by simp⟩
  | o :: l, S, _, ⟨d, x, h, k⟩ => by
    obtain ⟨ps, h1, h2, h3⟩ := DA.list l k
    refine ⟨(d, x) :: ps, by simp [h1], h2, fun i o' p ho hp => ?_⟩
    cases i with
    | zero => simp at ho hp; subst ho; subst hp; exact h
    | succ i => exact h3 i o' p (by simpa using ho) (by simpa using hp)

theorem get_puts (ps : List (Nat × AV)) : ∀ (S : AState), (∀ (i j : Nat) p q, ps[i]? = some p → ps[j]? = some q → i ≠ j → p.1 ≠ q.1) →
    (∀ (i : Nat) p, ps[i]? = some p → (puts S ps).get p.1 = p.2) ∧ ∀ t, (∀ (i : Nat) p, ps[i]? = some p → p.1 ≠ t) → (puts S ps).get t = S.get t := by
  induction ps with
  | nil => intro S _; exact ⟨by simp, fun t _ => rfl⟩
  | cons q ps ih =>
    intro S hd
    have hd' : ∀ (i j : Nat) p q, ps[i]? = some p → ps[j]? = some q → i ≠ j → p.1 ≠ q.1 := fun i j p q hp hq hne => hd (i + 1) (j + 1) p q (by simpa using hp) (by simpa using hq) (by omega)
    obtain ⟨h1, h2⟩ := ih (S.put q.1 q.2) hd'
    refine ⟨fun i p hp => ?_, fun t ht => ?_⟩
    · cases i with
      | zero =>
        simp at hp; subst hp
        show (puts (S.put q.1 q.2) ps).get q.1 = q.2
        rw [h2 q.1 (fun i p hp => hd (i + 1) 0 p q (by simpa using hp) rfl (by omega)), get_put]
        simp
      | succ i => exact h1 i p (by simpa using hp)
    · show (puts (S.put q.1 q.2) ps).get t = S.get t
      rw [h2 t (fun i p hp => ht (i + 1) p (by simpa using hp)), get_put, if_neg (ht 0 q rfl)]

theorem sat_congr {S S' : AState} (hb : S'.blks = S.blks) (hg : ∀ t, S'.get t = S.get t) {a : Act} {w : World} (h : Sat E S a w) : Sat E S' a w := by
  obtain ⟨I, ρ, C, h⟩ := h
  have hbk : ∀ i, S'.blk i = S.blk i := fun i => by unfold AState.blk; rw [hb]
  exact ⟨I, ρ, C, ⟨fun t => by rw [hg]; exact h.tmps t, fun i => by rw [hbk]; exact h.blks i, fun i i' b hn hi hi' => h.dist i i' b hn (by rw [← hbk]; exact hi) (by rw [← hbk]; exact hi'), by have := h.frame; unfold AState.ghost at this ⊢; rw [hg]; exact this, h.sub, h.old, h.size, h.defers, h.cI, fun i b hi hb' => h.cB i b (by rw [← hbk]; exact hi) hb', fun i v hv hi => h.nm i v hv (by rw [← hbk]; exact hi)⟩⟩

theorem sat_drew {S : AState} {a : Act} {w : World} (h : Sat E S a w) : Sat E S a { w with drawn := w.drawn + 1 } := by
  obtain ⟨I, ρ, C, h⟩ := h
  exact ⟨I, ρ, C, h.grow (Below.drew (Below.refl _ _))⟩

/-- S' is S with the results of what is listed. -/
structure Lst (S : AState) (ps : List (Nat × AV)) (L : Nat → Bool) (S' : AState) : Prop where
  blks : S'.blks = S.blks
  yes : ∀ (i : Nat) p, ps[i]? = some p → L i = true → S'.get p.1 = p.2
  no : ∀ t, (∀ (i : Nat) p, ps[i]? = some p → L i = true → p.1 ≠ t) → S'.get t = S.get t

def unl (listed : Array Bool) : Nat := (listed.toList.filter (fun b => !b)).length

theorem unl_set {listed : Array Bool} {i : Nat} (h : listed[i]? = some false) : unl (listed.setIfInBounds i true) + 1 = unl listed := by
  obtain ⟨hlt, hv⟩ := Array.getElem?_eq_some_iff.1 h
  unfold unl
  rw [Array.toList_setIfInBounds]
  have hlt' : i < listed.toList.length := by simpa using hlt
  have hsplit : listed.toList = listed.toList.take i ++ false :: listed.toList.drop (i + 1) := by
    have h3 : listed.toList[i] = false := by simpa using hv
    have h4 : listed.toList.drop i = listed.toList[i] :: listed.toList.drop (i + 1) := List.drop_eq_getElem_cons hlt'
    rw [h3] at h4
    rw [← h4, List.take_append_drop]
  rw [List.set_eq_take_append_cons_drop, if_pos hlt']
  conv => rhs; rw [hsplit]
  simp
  omega

theorem ready_spec {l : List Oper} {listed : Array Bool} {i : Nat} (h : i ∈ Region.ready .any l.toArray listed) :
    i < l.length ∧ listed.getD i true = false ∧ ∀ o, l[i]? = some o → ∀ j ∈ aft o, listed.getD j false = true := by
  simp only [Region.ready, List.mem_filter, List.mem_range, Bool.and_eq_true, Bool.not_eq_true', List.size_toArray] at h
  obtain ⟨h1, h2, h3⟩ := h
  refine ⟨h1, h2, fun o ho j hj => ?_⟩
  simp only [List.getElem?_toArray, ho, Option.map_some, Option.getD_some, Array.all_eq_true_iff_forall_mem, Bool.or_eq_true, Bool.not_eq_true'] at h3
  simp only [aft, List.mem_map, List.mem_filter] at hj
  obtain ⟨e, ⟨he, hb⟩, rfl⟩ := hj
  rcases h3 e (by simpa using he) with h3 | h3
  · rw [hb] at h3; cases h3
  · exact h3
theorem ready_of {l : List Oper} {listed : Array Bool} {i : Nat} {o : Oper} (ho : l[i]? = some o) (h2 : listed.getD i true = false) (h3 : ∀ j ∈ aft o, listed.getD j false = true) :
    i ∈ Region.ready .any l.toArray listed := by
  simp only [Region.ready, List.mem_filter, List.mem_range, Bool.and_eq_true, Bool.not_eq_true', List.size_toArray]
  refine ⟨(List.getElem?_eq_some_iff.1 ho).1, h2, ?_⟩
  simp only [List.getElem?_toArray, ho, Option.map_some, Option.getD_some, Array.all_eq_true_iff_forall_mem, Bool.or_eq_true, Bool.not_eq_true']
  intro e he
  cases hb : Region.binds .any e with
  | false => exact .inl rfl
  | true => exact .inr (h3 e.on (by simp only [aft, List.mem_map, List.mem_filter]; exact ⟨e, ⟨by simpa using he, hb⟩, rfl⟩))

structure Down (l : List Oper) (listed : Array Bool) : Prop where
  size : listed.size = l.length
  down : ∀ (i : Nat) o, l[i]? = some o → listed.getD i false = true → ∀ j ∈ aft o, listed.getD j false = true

theorem Down.reach {l : List Oper} {listed : Array Bool} (h : Down l listed) {i j : Nat} (hr : Reach l i j) (hi : ∀ o, l[i]? = some o → ∀ k ∈ aft o, listed.getD k false = true) : listed.getD j false = true := by
  induction hr with
  | one ho hj => exact hi _ ho _ hj
  | more ho hk _ ih => exact ih fun o' ho' k' hk' => h.down _ o' ho' (hi _ ho _ hk) k' hk'
theorem Down.set {l : List Oper} {listed : Array Bool} (h : Down l listed) {i : Nat} (hi : ∀ o, l[i]? = some o → ∀ k ∈ aft o, listed.getD k false = true) : Down l (listed.setIfInBounds i true) := by
  have mono : ∀ k, listed.getD k false = true → (listed.setIfInBounds i true).getD k false = true := by
    intro k hk
    simp only [Array.getD_eq_getD_getElem?] at hk ⊢
    by_cases e : i = k
    · subst e
      by_cases hl : i < listed.size
      · simp [hl]
      · simp [hl] at hk
    · rw [Array.getElem?_setIfInBounds_ne e]; exact hk
  refine ⟨by simp [h.size], fun j o ho hj k hk => mono k ?_⟩
  by_cases e : i = j
  · subst e; exact hi o ho k hk
  · refine h.down j o ho ?_ k hk
    simp only [Array.getD_eq_getD_getElem?] at hj ⊢
    rwa [Array.getElem?_setIfInBounds_ne e] at hj

theorem getD_set {listed : Array Bool} {i k : Nat} (hi : i < listed.size) : (listed.setIfInBounds i true).getD k false = (if i = k then true else listed.getD k false) := by
  simp only [Array.getD_eq_getD_getElem?]
  by_cases e : i = k
  · subst e; simp [hi]
  · rw [Array.getElem?_setIfInBounds_ne e, if_neg e]

/-- All are listed, or one is ready. -/
theorem ready_nil {l : List Oper} {N : Nat} (hok : DrawOk l N) {listed : Array Bool} (hsz : listed.size = l.length) (h : Region.ready .any l.toArray listed = []) : ∀ i, i < l.length → listed.getD i false = true := by
  intro i
  induction i using Nat.strongRecOn with
  | _ i ih =>
    intro hi
    cases hb : listed.getD i false with
    | true => rfl
    | false =>
      exfalso
      have hlt : i < listed.size := by omega
      have h2 : listed.getD i true = false := by simpa [Array.getD_eq_getD_getElem?, hlt] using hb
      have := ready_of (l := l) (o := l[i]) (List.getElem?_eq_getElem hi) h2 (fun j hj => by
        have hji := hok.aft i _ (List.getElem?_eq_getElem hi) j hj
        exact ih j hji (by omega))
      rw [h] at this
      cases this

theorem unl_zero {listed : Array Bool} (h : unl listed = 0) : ∀ i, i < listed.size → listed.getD i false = true := by
  intro i hi
  unfold unl at h
  have := List.eq_nil_of_length_eq_zero h
  rw [List.filter_eq_nil_iff] at this
  have h2 := this listed[i] (by simp)
  simp [Array.getD_eq_getD_getElem?, hi]
  simpa using h2

theorem ready_all {l : List Oper} {listed : Array Bool} (h : ∀ i, i < l.length → listed.getD i false = true) (hsz : listed.size = l.length) : Region.ready .any l.toArray listed = [] := by
  apply List.eq_nil_iff_forall_not_mem.2
  intro i hi
  obtain ⟨h1, h2, _⟩ := ready_spec hi
  have := h i h1
  have hlt : i < listed.size := by omega
  simp [Array.getD_eq_getD_getElem?, hlt] at this h2
  rw [this] at h2
  cases h2

variable {l : List Oper} {N : Nat} {Q : Exit → Act → World → Prop}

/-- The tail: its order is forced. -/
theorem any_tail (hok : DrawOk l N) {J : AState → Prop} (hq : ∀ S' a' w', J S' → Sat E S' a' w' → Q .normal a' w') :
    ∀ (fuel m : Nat) (listed : Array Bool) (S : AState) (a : Act) (w : World), N ≤ m → Down l listed → unl listed ≤ fuel → (∀ i, i < l.length → (listed.getD i false = true ↔ i < m)) →
      Sq P r E l.toArray (l.drop m) S J → Sat E S a w → wpAnyIn (fen r) 0 P .any l.toArray Q fuel listed a w := by
  intro fuel
  induction fuel with
  | zero =>
    intro m listed S a w hm hd hu hL hsq hs
    have hall : ∀ i, i < l.length → listed.getD i false = true := fun i hi => unl_zero (by omega) i (by rw [hd.size]; exact hi)
    have hml : l.length ≤ m := by
      rcases Nat.lt_or_ge m l.length with h | h
      · have := (hL m h).1 (hall m h); omega
      · exact h
    rw [List.drop_of_length_le hml] at hsq
    exact ⟨ready_all hall hd.size, hq S a w hsq hs⟩
  | succ fuel ih =>
    intro m listed S a w hm hd hu hL hsq hs
    refine ⟨fun hnil => ?_, fun i hi => ?_⟩
    · have hall := ready_nil hok hd.size hnil
      have hml : l.length ≤ m := by
        rcases Nat.lt_or_ge m l.length with h | h
        · have := (hL m h).1 (hall m h); omega
        · exact h
      rw [List.drop_of_length_le hml] at hsq
      exact hq S a w hsq hs
    · obtain ⟨h1, h2, h3⟩ := ready_spec hi
      have hlt : i < listed.size := by rw [hd.size]; exact h1
      have hio := List.getElem?_eq_getElem h1
      have hif : listed.getD i false = false := by simpa [Array.getD_eq_getD_getElem?, hlt] using h2
      have him : m ≤ i := by
        rcases Nat.lt_or_ge i m with h | h
        · have := (hL i h1).2 h; rw [hif] at this; cases this
        · exact h
      have him2 : i = m := by
        rcases Nat.lt_or_ge m i with h | h
        · have hr := hok.tail i _ (by omega) hio m h
          have := hd.reach hr h3
          have := (hL m (by omega)).1 this
          omega
        · omega
      subst him2
      rw [List.drop_eq_getElem_cons h1] at hsq
      obtain ⟨S', hstep, hsq'⟩ := hsq
      have hlf : listed[i]? = some false := by
        have : listed[i] = false := by simpa [Array.getD_eq_getD_getElem?, hlt] using hif
        rw [Array.getElem?_eq_getElem hlt, this]
      unfold wpOpIn
      simp only [List.getElem?_toArray, hio]
      refine hstep a w _ Q hs fun a' w' hs' => ?_
      refine ih (i + 1) _ S' a' w' (by omega) (hd.set h3) (by have := unl_set hlf; omega) (fun k hk => ?_) hsq' hs'
      rw [getD_set hlt]
      by_cases e : i = k
      · subst e; simp
      · simp only [e, if_false]
        rw [hL k hk]
        omega

/-- The operations that only add knowledge: in whatever order. -/
theorem any_front (hok : DrawOk l N) {J : AState → Prop} (hq : ∀ S' a' w', J S' → Sat E S' a' w' → Q .normal a' w') (S : AState) (ps : List (Nat × AV)) (hps : ps.length = N)
    (hA : ∀ (i : Nat) o p, i < N → l[i]? = some o → ps[i]? = some p → AOpG P r E l.toArray (puts S (ps.take i)) o p.1 p.2) (hB : Sq P r E l.toArray (l.drop N) (puts S ps) J) :
    ∀ (fuel : Nat) (listed : Array Bool) (S' : AState) (a : Act) (w : World), Down l listed → unl listed ≤ fuel → (∀ i, N ≤ i → i < l.length → listed.getD i false = false) →
      Lst S ps (fun i => listed.getD i false) S' → Sat E S' a w → wpAnyIn (fen r) 0 P .any l.toArray Q fuel listed a w := by
  have hle := hok.le
  have hdst : ∀ (i : Nat) p, ps[i]? = some p → ∃ o, l[i]? = some o ∧ i < N ∧ o.dst = some p.1 := by
    intro i p hp
    have hi : i < N := by rw [← hps]; exact (List.getElem?_eq_some_iff.1 hp).1
    have hio := List.getElem?_eq_getElem (l := l) (i := i) (by omega)
    exact ⟨_, hio, hi, (hA i _ p hi hio hp).1⟩
  have hdist : ∀ (i j : Nat) p q, ps[i]? = some p → ps[j]? = some q → i ≠ j → p.1 ≠ q.1 := by
    intro i j p q hp hq' hne he
    obtain ⟨o, ho, hi, hd⟩ := hdst i p hp
    obtain ⟨o', ho', hj, hd'⟩ := hdst j q hq'
    refine hok.dist i o hi ho j hj (fun e => hne e.symm) ?_
    simp only [dstAt, ho', Option.bind_some, hd', hd, he]
  have hall : ∀ S', Lst S ps (fun _ => true) S' → ∀ t, S'.get t = (puts S ps).get t := by
    intro S' h t
    obtain ⟨g1, g2⟩ := get_puts ps S hdist
    by_cases hex : ∃ (i : Nat) (p : Nat × AV), ps[i]? = some p ∧ p.1 = t
    · obtain ⟨i, p, hp, rfl⟩ := hex
      rw [h.yes i p hp rfl, g1 i p hp]
    · have hno : ∀ (i : Nat) p, ps[i]? = some p → p.1 ≠ t := fun i p hp e => hex ⟨i, p, hp, e⟩
      rw [h.no t (fun i p hp _ => hno i p hp), g2 t hno]
  intro fuel
  induction fuel with
  | zero =>
    intro listed S' a w hd hu hN hL hs
    have hall' : ∀ i, i < l.length → listed.getD i false = true := fun i hi => unl_zero (by omega) i (by rw [hd.size]; exact hi)
    have hNl : N = l.length := by
      rcases Nat.lt_or_ge N l.length with h | h
      · have := hN N (Nat.le_refl _) h; rw [hall' N h] at this; cases this
      · omega
    rw [hNl, List.drop_of_length_le (Nat.le_refl _)] at hB
    refine ⟨ready_all hall' hd.size, hq _ a w hB (sat_congr (by rw [puts_blks, hL.blks]) (fun t => (hall S' ⟨hL.blks, fun i p hp _ => hL.yes i p hp ?_, fun t ht => hL.no t fun i p hp _ => ht i p hp rfl⟩ t).symm) hs)⟩
    exact hall' i (by obtain ⟨_, _, h, _⟩ := hdst i p hp; omega)
  | succ fuel ih =>
    intro listed S' a w hd hu hN hL hs
    have tailof : (∀ i, i < N → listed.getD i false = true) → Sat E (puts S ps) a w := fun h =>
      sat_congr (by rw [puts_blks, hL.blks]) (fun t => (hall S' ⟨hL.blks, fun i p hp _ => hL.yes i p hp (h i (hdst i p hp).choose_spec.2.1), fun t ht => hL.no t fun i p hp _ => ht i p hp rfl⟩ t).symm) hs
    refine ⟨fun hnil => ?_, fun i hi => ?_⟩
    · have hall' := ready_nil hok hd.size hnil
      have hNl : N = l.length := by
        rcases Nat.lt_or_ge N l.length with h | h
        · have := hN N (Nat.le_refl _) h; rw [hall' N h] at this; cases this
        · omega
      have hst := tailof fun i hi => hall' i (by omega)
      rw [hNl, List.drop_of_length_le (Nat.le_refl _)] at hB
      exact hq _ a w hB hst
    · obtain ⟨h1, h2, h3⟩ := ready_spec hi
      have hlt : i < listed.size := by rw [hd.size]; exact h1
      have hio := List.getElem?_eq_getElem h1
      have hif : listed.getD i false = false := by simpa [Array.getD_eq_getD_getElem?, hlt] using h2
      have hlf : listed[i]? = some false := by
        have : listed[i] = false := by simpa [Array.getD_eq_getD_getElem?, hlt] using hif
        rw [Array.getElem?_eq_getElem hlt, this]
      by_cases hiN : i < N
      · have hpi : i < ps.length := by omega
        have hp := List.getElem?_eq_getElem hpi
        obtain ⟨hd1, hd2, hstep⟩ := hA i _ _ hiN hio hp
        have hag : ∀ t ∈ (l[i]).looksAt l.toArray, S'.get t = (puts S (ps.take i)).get t := by
          intro t ht
          have hdist' : ∀ (a b : Nat) p q, (ps.take i)[a]? = some p → (ps.take i)[b]? = some q → a ≠ b → p.1 ≠ q.1 := by
            intro a b p q hp hq' hne
            rw [List.getElem?_take] at hp hq'
            split at hp
            · split at hq'
              · exact hdist a b p q hp hq' hne
              · cases hq'
            · cases hp
          obtain ⟨g1, g2⟩ := get_puts (ps.take i) S hdist'
          have take_some : ∀ (k : Nat) p, (ps.take i)[k]? = some p → k < i ∧ ps[k]? = some p := by
            intro k p hk
            rw [List.getElem?_take] at hk
            split at hk
            · exact ⟨by assumption, hk⟩
            · cases hk
          by_cases hex : ∃ (j : Nat) (q : Nat × AV), ps[j]? = some q ∧ q.1 = t
          · obtain ⟨j, q, hqj, rfl⟩ := hex
            obtain ⟨o', ho', hjN, hdj⟩ := hdst j q hqj
            have hdj' : dstAt l j = some q.1 := by simp [dstAt, ho', hdj]
            by_cases hji : j = i
            · subst hji
              rw [hL.no q.1 (fun k p hk hLk he => by
                  have : k = j := by
                    rcases Nat.decEq k j with h | h
                    · exact absurd he (hdist k j p q hk hqj h)
                    · exact h
                  subst this; rw [hif] at hLk; cases hLk),
                g2 q.1 (fun k p hk he => by
                  obtain ⟨hk1, hk2⟩ := take_some k p hk
                  exact hdist k j p q hk2 hqj (by omega) he)]
            · have := hok.looks i _ hiN hio q.1 ht j hjN hji hdj'
              by_cases hlt2 : j < i
              · simp only [hlt2, if_true] at this
                have hlj := hd.reach this h3
                rw [hL.yes j q hqj hlj]
                exact (g1 j q (by rw [List.getElem?_take, if_pos hlt2]; exact hqj)).symm
              · simp only [hlt2, if_false] at this
                have hnl : listed.getD j false = false := by
                  cases hb : listed.getD j false with
                  | false => rfl
                  | true =>
                    have := hd.reach this (fun o ho k hk => hd.down j o ho hb k hk)
                    rw [hif] at this; cases this
                rw [hL.no q.1 (fun k p hk hLk he => by
                    have : k = j := by
                      rcases Nat.decEq k j with h | h
                      · exact absurd he (hdist k j p q hk hqj h)
                      · exact h
                    subst this; rw [hnl] at hLk; cases hLk),
                  g2 q.1 (fun k p hk he => by
                    obtain ⟨hk1, hk2⟩ := take_some k p hk
                    exact hdist k j p q hk2 hqj (by omega) he)]
          · have hno : ∀ (k : Nat) p, ps[k]? = some p → p.1 ≠ t := fun k p hk e => hex ⟨k, p, hk, e⟩
            rw [hL.no t (fun k p hk _ => hno k p hk), g2 t (fun k p hk => hno k p (take_some k p hk).2)]
        have hst := hstep S' (by rw [puts_blks, hL.blks]) hag
        unfold wpOpIn
        simp only [List.getElem?_toArray, hio]
        refine hst a w _ Q hs fun a' w' hs' => ?_
        refine ih _ (S'.put ps[i].1 ps[i].2) a' w' (hd.set h3) (by have := unl_set hlf; omega) (fun k hk hkl => ?_) ⟨hL.blks, fun k p hk hLk => ?_, fun t ht => ?_⟩ hs'
        · rw [getD_set hlt, if_neg (by omega)]; exact hN k hk hkl
        · rw [getD_set hlt] at hLk
          rw [get_put]
          by_cases e : i = k
          · subst e
            rw [hp] at hk; cases hk
            simp
          · simp only [e, if_false] at hLk
            rw [if_neg (hdist i k _ p hp hk e)]
            exact hL.yes k p hk hLk
        · rw [get_put, if_neg (ht i _ hp (by rw [getD_set hlt]; simp))]
          exact hL.no t fun k p hk hLk => ht k p hk (by rw [getD_set hlt]; split <;> simp_all)
      · have hallN : ∀ k, k < i → listed.getD k false = true := fun k hk => hd.reach (hok.tail i _ (by omega) hio k hk) h3
        have hiN2 : i = N := by
          rcases Nat.lt_or_ge N i with h | h
          · have := hallN N h; rw [hN N (Nat.le_refl _) (by omega)] at this; cases this
          · omega
        have hst := tailof fun k hk => hallN k (by omega)
        have htail := any_tail (P := P) (r := r) hok hq (fuel + 1) N listed (puts S ps) a w (Nat.le_refl _) hd hu (fun k hk => ⟨fun hk2 => (by
            rcases Nat.lt_or_ge k N with h | h
            · exact h
            · rw [hN k h hk] at hk2; cases hk2), fun hk2 => hallN k (by omega)⟩) hB hst
        exact htail.2 i hi

theorem avc_draw {id : Nat} {K : Exit → AState → Prop} {S : AState} (N : Nat) (hm : P.follows .mixedOrders = true) (hok : drawOk l N = true)
    (h : DA P r E l.toArray (l.take N) S (fun S1 => Sq P r E l.toArray (l.drop N) S1 (K .normal))) : Avc P r E (.region id l.toArray true) K S := by
  intro a w hs
  have hk := drawOk_spec hok
  obtain ⟨ps, h1, h2, h3⟩ := DA.list _ h
  have hpl : ps.length = N := by rw [h1, List.length_take]; have := hk.le; omega
  refine wpIn_region_any hm (any_front hk (J := K .normal) (fun S' a' w' hj hs' => ⟨S', hj, hs'⟩) S ps hpl (fun i o p hi ho hp => h3 i o p (by rw [List.getElem?_take, if_pos hi]; exact ho) hp) h2 _ _ S a _ ⟨by simp, fun i o _ hi => ?_⟩ ?_ (fun i _ hi => by simp [hi]) ⟨rfl, fun i p _ hi => ?_, fun t _ => rfl⟩ (sat_drew hs))
  · simp [Array.getD_eq_getD_getElem?, Array.getElem?_replicate] at hi
    split at hi <;> simp at hi
  · simp [unl]
  · simp [Array.getD_eq_getD_getElem?, Array.getElem?_replicate] at hi
    split at hi <;> simp at hi
end
end Go.AV

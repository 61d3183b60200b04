/- The layer of abstract values: what a temporary holds, said once; every rule of it is proved from the model. Conditions: none. -/
import Derived.Test.YtgeaoceiacdadaaDoorAv13
set_option linter.unusedSimpArgs false
set_option linter.unusedVariables false
set_option linter.unnecessarySimpa false
namespace Go.AV
open Go.RowKit

/-! ## A drawn region whose first operation may float past the one that writes -/

def drawOkF (l : List Oper) (N : Nat) : Bool :=
  let c := clo l []
  (decide (1 ≤ N) && decide (N < l.length)) &&
  (List.range l.length).all fun i => match l[i]? with
    | none => true
    | some o =>
      ((aft o).all fun j => decide (j < i)) &&
      (if i < N then
        ((o.looksAt l.toArray).all fun t => (List.range N).all fun j =>
          if Nat.beq i 0 || Nat.beq j 0 then dstAt l j != some t
          else (Nat.beq j i || (dstAt l j != some t)) || (if j < i then (c.getD i []).contains j else (c.getD j []).contains i)) &&
        ((List.range N).all fun j => Nat.beq j i || (dstAt l j != o.dst))
      else (List.range i).all fun j => (Nat.beq i N && Nat.beq j 0) || (c.getD i []).contains j)

structure DrawOkF (l : List Oper) (N : Nat) : Prop where
  pos : 1 ≤ N
  lt : N < l.length
  aft : ∀ i o, l[i]? = some o → ∀ j ∈ aft o, j < i
  looks : ∀ i o, i < N → i ≠ 0 → l[i]? = some o → ∀ t ∈ o.looksAt l.toArray, ∀ j, j < N → j ≠ 0 → j ≠ i → dstAt l j = some t → if j < i then Reach l i j else Reach l j i
  free : ∀ i o, i < N → l[i]? = some o → ∀ t ∈ o.looksAt l.toArray, ∀ j, j < N → i = 0 ∨ j = 0 → dstAt l j ≠ some t
  dist : ∀ i o, i < N → l[i]? = some o → ∀ j, j < N → j ≠ i → dstAt l j ≠ o.dst
  tail : ∀ i o, N ≤ i → l[i]? = some o → ∀ j, j < i → ¬ (i = N ∧ j = 0) → Reach l i j

theorem drawOkF_spec {l : List Oper} {N : Nat} (h : drawOkF l N = true) : DrawOkF l N := by
  have hc : ∀ i j, j ∈ (clo l []).getD i [] → Reach l i j := clo_reach l l [] (fun k o hk => by simpa using hk) (fun i j hj => by simp at hj)
  simp only [drawOkF, Bool.and_eq_true, decide_eq_true_eq, List.all_eq_true, List.mem_range] at h
  obtain ⟨⟨hle, hlt⟩, h⟩ := h
  have hi : ∀ (i : Nat) o, l[i]? = some o → i < l.length := fun i o ho => (List.getElem?_eq_some_iff.1 ho).1
  have hfront : ∀ (i : Nat) o, l[i]? = some o → i < N → (∀ t ∈ o.looksAt l.toArray, ∀ j, j < N → (if Nat.beq i 0 || Nat.beq j 0 then dstAt l j != some t
          else (Nat.beq j i || (dstAt l j != some t)) || (if j < i then ((clo l []).getD i []).contains j else ((clo l []).getD j []).contains i)) = true) ∧ ∀ j, j < N → (Nat.beq j i || (dstAt l j != o.dst)) = true := by
    intro i o ho hN
    have := h i (hi i o ho)
    simp only [ho, Bool.and_eq_true, List.all_eq_true, decide_eq_true_eq, hN, if_true, List.mem_range] at this
    exact this.2
  refine ⟨hle, hlt, fun i o ho j hj => ?_, fun i o hN h0 ho t ht j hj hj0 hne hd => ?_, fun i o hN ho t ht j hj h0 hd => ?_, fun i o hN ho j hj hne hd => ?_, fun i o hN ho j hj hn0 => ?_⟩
  · have := h i (hi i o ho)
    simp only [ho, Bool.and_eq_true, List.all_eq_true, decide_eq_true_eq] at this
    exact this.1 j hj
  · have h2 := (hfront i o ho hN).1 t ht j hj
    have e : (Nat.beq i 0 || Nat.beq j 0) = false := by
      rw [Bool.or_eq_false_iff]
      exact ⟨by rw [Bool.eq_false_iff]; intro h; exact h0 (Nat.eq_of_beq_eq_true h), by rw [Bool.eq_false_iff]; intro h; exact hj0 (Nat.eq_of_beq_eq_true h)⟩
    rw [e] at h2
    simp only [Bool.false_eq_true, if_false, Bool.or_eq_true, Nat.beq_eq] at h2
    rcases h2 with (h2 | h2) | h2
    · exact absurd h2 hne
    · rw [hd] at h2; simp at h2
    · by_cases hlt : j < i
      · simp only [hlt, if_true] at h2 ⊢; exact hc i j (by simpa using h2)
      · simp only [hlt, if_false] at h2 ⊢; exact hc j i (by simpa using h2)
  · have h2 := (hfront i o ho hN).1 t ht j hj
    have e : (Nat.beq i 0 || Nat.beq j 0) = true := by rcases h0 with rfl | rfl <;> simp
    rw [e] at h2
    simp only [if_true] at h2
    rw [hd] at h2; simp at h2
  · have h2 := (hfront i o ho hN).2 j hj
    simp only [Bool.or_eq_true, Nat.beq_eq] at h2
    rcases h2 with h2 | h2
    · exact hne h2
    · rw [hd] at h2; simp at h2
  · have := h i (hi i o ho)
    have hn : ¬ i < N := by omega
    simp only [ho, Bool.and_eq_true, List.all_eq_true, decide_eq_true_eq, hn, if_false, List.mem_range, Bool.or_eq_true, Nat.beq_eq] at this
    rcases this.2 j hj with h2 | h2
    · exact absurd h2 hn0
    · exact hc i j (by simpa using h2)

section
variable {P : Program} {r : Option Nat} {E : Env} {S : AState} {d : Nat}
variable {l : List Oper} {N : Nat} {Q : Exit → Act → World → Prop}

theorem ready_nil' (haft : ∀ (i : Nat) o, l[i]? = some o → ∀ j ∈ aft o, j < i) {listed : Array Bool} (hsz : listed.size = l.length) (h : Region.ready .any l.toArray listed = []) : ∀ i, i < l.length → listed.getD i false = true := by
  intro i
  induction i using Nat.strongRecOn with
  | _ i ih =>
    intro hi
    cases hb : listed.getD i false with
    | true => rfl
    | false =>
      exfalso
      have hlt : i < listed.size := by omega
      have h2 : listed.getD i true = false := by simpa [Array.getD_eq_getD_getElem?, hlt] using hb
      have := ready_of (l := l) (o := l[i]) (List.getElem?_eq_getElem hi) h2 (fun j hj => by
        have hji := haft i _ (List.getElem?_eq_getElem hi) j hj
        exact ih j hji (by omega))
      rw [h] at this
      cases this

/-- The tail: its order is forced. -/
theorem any_tail' (haft : ∀ (i : Nat) o, l[i]? = some o → ∀ j ∈ aft o, j < i) (htl : ∀ (i : Nat) o, N ≤ i → l[i]? = some o → ∀ j, N ≤ j → j < i → Reach l i j) {J : AState → Prop} (hq : ∀ S' a' w', J S' → Sat E S' a' w' → Q .normal a' w') :
    ∀ (fuel m : Nat) (listed : Array Bool) (S : AState) (a : Act) (w : World), N ≤ m → Down l listed → unl listed ≤ fuel → (∀ i, i < l.length → (listed.getD i false = true ↔ i < m)) →
      Sq P r E l.toArray (l.drop m) S J → Sat E S a w → wpAnyIn (fen r) 0 P .any l.toArray Q fuel listed a w := by
  intro fuel
  induction fuel with
  | zero =>
    intro m listed S a w hm hd hu hL hsq hs
    have hall : ∀ i, i < l.length → listed.getD i false = true := fun i hi => unl_zero (by omega) i (by rw [hd.size]; exact hi)
    have hml : l.length ≤ m := by
      rcases Nat.lt_or_ge m l.length with h | h
      · have := (hL m h).1 (hall m h); omega
      · exact h
    rw [List.drop_of_length_le hml] at hsq
    exact ⟨ready_all hall hd.size, hq S a w hsq hs⟩
  | succ fuel ih =>
    intro m listed S a w hm hd hu hL hsq hs
    refine ⟨fun hnil => ?_, fun i hi => ?_⟩
    · have hall := ready_nil' haft hd.size hnil
      have hml : l.length ≤ m := by
        rcases Nat.lt_or_ge m l.length with h | h
        · have := (hL m h).1 (hall m h); omega
        · exact h
      rw [List.drop_of_length_le hml] at hsq
      exact hq S a w hsq hs
    · obtain ⟨h1, h2, h3⟩ := ready_spec hi
      have hlt : i < listed.size := by rw [hd.size]; exact h1
      have hio := List.getElem?_eq_getElem h1
      have hif : listed.getD i false = false := by simpa [Array.getD_eq_getD_getElem?, hlt] using h2
      have him : m ≤ i := by
        rcases Nat.lt_or_ge i m with h | h
        · have := (hL i h1).2 h; rw [hif] at this; cases this
        · exact h
      have him2 : i = m := by
        rcases Nat.lt_or_ge m i with h | h
        · have hr := htl i _ (by omega) hio m hm h
          have := hd.reach hr h3
          have := (hL m (by omega)).1 this
          omega
        · omega
      subst him2
      rw [List.drop_eq_getElem_cons h1] at hsq
      obtain ⟨S', hstep, hsq'⟩ := hsq
      have hlf : listed[i]? = some false := by
        have : listed[i] = false := by simpa [Array.getD_eq_getD_getElem?, hlt] using hif
        rw [Array.getElem?_eq_getElem hlt, this]
      unfold wpOpIn
      simp only [List.getElem?_toArray, hio]
      refine hstep a w _ Q hs fun a' w' hs' => ?_
      refine ih (i + 1) _ S' a' w' (by omega) (hd.set h3) (by have := unl_set hlf; omega) (fun k hk => ?_) hsq' hs'
      rw [getD_set hlt]
      by_cases e : i = k
      · subst e; simp
      · simp only [e, if_false]
        rw [hL k hk]
        omega

theorem any_frontF (hok : DrawOkF l N) {J : AState → Prop} (hq : ∀ S' a' w', J S' → Sat E S' a' w' → Q .normal a' w') (S : AState) (p0 : Nat × AV) (ps : List (Nat × AV)) (hps : ps.length + 1 = N) {o0 : Oper} (ho0 : l[0]? = some o0)
    (hA : ∀ (i : Nat) o p, i + 1 < N → l[i + 1]? = some o → ps[i]? = some p → AOpG P r E l.toArray (puts S (ps.take i)) o p.1 p.2)
    (hA0 : AOpG P r E l.toArray (puts S ps) o0 p0.1 p0.2)
    (hB : Sq P r E l.toArray (l.drop N) ((puts S ps).put p0.1 p0.2) J)
    (hB' : ∃ Sb, (∀ o, l[N]? = some o → StepG P r E l.toArray o (puts S ps) Sb) ∧ ∃ Sc, StepG P r E l.toArray o0 Sb Sc ∧ Sq P r E l.toArray (l.drop (N + 1)) Sc J) :
    ∀ (fuel : Nat) (listed : Array Bool) (S' : AState) (a : Act) (w : World), Down l listed → unl listed ≤ fuel → (∀ i, N ≤ i → i < l.length → listed.getD i false = false) →
      Lst S (p0 :: ps) (fun i => listed.getD i false) S' → Sat E S' a w → wpAnyIn (fen r) 0 P .any l.toArray Q fuel listed a w := by
  have hpos := hok.pos
  have hNl := hok.lt
  have hdst : ∀ (i : Nat) p, (p0 :: ps)[i]? = some p → ∃ o, l[i]? = some o ∧ i < N ∧ o.dst = some p.1 := by
    intro i p hp
    cases i with
    | zero => simp at hp; subst hp; exact ⟨o0, ho0, by omega, hA0.1⟩
    | succ i =>
      have hp' : ps[i]? = some p := by simpa using hp
      have hi : i < ps.length := (List.getElem?_eq_some_iff.1 hp').1
      have hio := List.getElem?_eq_getElem (l := l) (i := i + 1) (by omega)
      exact ⟨_, hio, by omega, (hA i _ p (by omega) hio hp').1⟩
  have hdist : ∀ (i j : Nat) p q, (p0 :: ps)[i]? = some p → (p0 :: ps)[j]? = some q → i ≠ j → p.1 ≠ q.1 := by
    intro i j p q hp hq' hne he
    obtain ⟨o, ho, hi, hd⟩ := hdst i p hp
    obtain ⟨o', ho', hj, hd'⟩ := hdst j q hq'
    refine hok.dist i o hi ho j hj (fun e => hne e.symm) ?_
    simp only [dstAt, ho', Option.bind_some, hd', hd, he]
  have hdps : ∀ (i j : Nat) p q, ps[i]? = some p → ps[j]? = some q → i ≠ j → p.1 ≠ q.1 := fun i j p q hp hq' hne => hdist (i + 1) (j + 1) p q (by simpa using hp) (by simpa using hq') (by omega)
  have hd0 : ∀ (i : Nat) p, ps[i]? = some p → p.1 ≠ p0.1 := fun i p hp => hdist (i + 1) 0 p p0 (by simpa using hp) rfl (by omega)
  obtain ⟨g1, g2⟩ := get_puts ps S hdps
  -- everything but the first
  have hbut : ∀ S', Lst S (p0 :: ps) (fun i => decide (0 < i)) S' → ∀ t, S'.get t = (puts S ps).get t := by
    intro S' h t
    by_cases hex : ∃ (i : Nat) (p : Nat × AV), ps[i]? = some p ∧ p.1 = t
    · obtain ⟨i, p, hp, rfl⟩ := hex
      rw [h.yes (i + 1) p (by simpa using hp) (by simp), g1 i p hp]
    · have hno : ∀ (i : Nat) p, ps[i]? = some p → p.1 ≠ t := fun i p hp e => hex ⟨i, p, hp, e⟩
      rw [h.no t (fun i p hp hi => by
        cases i with
        | zero => simp at hi
        | succ i => exact hno i p (by simpa using hp)), g2 t hno]
  have hall : ∀ S', Lst S (p0 :: ps) (fun _ => true) S' → ∀ t, S'.get t = ((puts S ps).put p0.1 p0.2).get t := by
    intro S' h t
    rw [get_put]
    by_cases e0 : p0.1 = t
    · subst e0; simp only [if_true]; exact h.yes 0 p0 rfl rfl
    · simp only [e0, if_false]
      by_cases hex : ∃ (i : Nat) (p : Nat × AV), ps[i]? = some p ∧ p.1 = t
      · obtain ⟨i, p, hp, rfl⟩ := hex
        rw [h.yes (i + 1) p (by simpa using hp) rfl, g1 i p hp]
      · have hno : ∀ (i : Nat) p, ps[i]? = some p → p.1 ≠ t := fun i p hp e => hex ⟨i, p, hp, e⟩
        rw [h.no t (fun i p hp hi => by
          cases i with
          | zero => simp at hp; subst hp; exact e0
          | succ i => exact hno i p (by simpa using hp)), g2 t hno]
  intro fuel
  induction fuel with
  | zero =>
    intro listed S' a w hd hu hN hL hs
    have := unl_zero (listed := listed) (by omega) N (by rw [hd.size]; exact hNl)
    rw [hN N (Nat.le_refl _) hNl] at this; cases this
  | succ fuel ih =>
    intro listed S' a w hd hu hN hL hs
    refine ⟨fun hnil => ?_, fun i hi => ?_⟩
    · have := ready_nil' hok.aft hd.size hnil N hNl
      rw [hN N (Nat.le_refl _) hNl] at this; cases this
    · obtain ⟨h1, h2, h3⟩ := ready_spec hi
      have hlt : i < listed.size := by rw [hd.size]; exact h1
      have hio := List.getElem?_eq_getElem h1
      have hif : listed.getD i false = false := by simpa [Array.getD_eq_getD_getElem?, hlt] using h2
      have hlf : listed[i]? = some false := by
        have : listed[i] = false := by simpa [Array.getD_eq_getD_getElem?, hlt] using hif
        rw [Array.getElem?_eq_getElem hlt, this]
      by_cases hiN : i < N
      · have hpi : i < (p0 :: ps).length := by simp; omega
        have hp := List.getElem?_eq_getElem hpi
        have nodst : ∀ t ∈ (l[i]).looksAt l.toArray, ∀ (j : Nat) q, (p0 :: ps)[j]? = some q → (i = 0 ∨ j = 0) → q.1 ≠ t := by
          intro t ht j q hqj h0 he
          obtain ⟨o', ho', hjN, hdj⟩ := hdst j q hqj
          exact hok.free i _ hiN hio t ht j hjN h0 (by simp [dstAt, ho', hdj, he])
        have hst : StepG P r E l.toArray l[i] S' (S'.put (p0 :: ps)[i].1 (p0 :: ps)[i].2) := by
          by_cases hi0 : i = 0
          · subst hi0
            have e0 : l[0] = o0 := by rw [hio] at ho0; exact Option.some.inj ho0
            have := hA0.2.2 S' (by rw [puts_blks, hL.blks]) (fun t ht => by
              rw [hL.no t (fun k p hk _ => nodst t (by rw [e0]; exact ht) k p hk (.inl rfl)), g2 t (fun k p hk => nodst t (by rw [e0]; exact ht) (k + 1) p (by simpa using hk) (.inl rfl))])
            rw [e0]
            exact this
          · obtain ⟨m, rfl⟩ : ∃ m, i = m + 1 := ⟨i - 1, by omega⟩
            have hpm : ps[m]? = some (p0 :: ps)[m + 1] := by simp
            obtain ⟨hd1, hd2, hstep⟩ := hA m _ _ hiN hio hpm
            refine hstep S' (by rw [puts_blks, hL.blks]) fun t ht => ?_
            have hdist' : ∀ (a b : Nat) p q, (ps.take m)[a]? = some p → (ps.take m)[b]? = some q → a ≠ b → p.1 ≠ q.1 := by
              intro a b p q hp hq' hne
              rw [List.getElem?_take] at hp hq'
              split at hp
              · split at hq'
                · exact hdps a b p q hp hq' hne
                · cases hq'
              · cases hp
            obtain ⟨g1', g2'⟩ := get_puts (ps.take m) S hdist'
            have take_some : ∀ (k : Nat) p, (ps.take m)[k]? = some p → k < m ∧ ps[k]? = some p := by
              intro k p hk
              rw [List.getElem?_take] at hk
              split at hk
              · exact ⟨by assumption, hk⟩
              · cases hk
            by_cases hex : ∃ (j : Nat) (q : Nat × AV), ps[j]? = some q ∧ q.1 = t
            · obtain ⟨j, q, hqj, rfl⟩ := hex
              have hqj' : (p0 :: ps)[j + 1]? = some q := by simpa using hqj
              obtain ⟨o', ho', hjN, hdj⟩ := hdst (j + 1) q hqj'
              have hdj' : dstAt l (j + 1) = some q.1 := by simp [dstAt, ho', hdj]
              have only : ∀ (k : Nat) p, (p0 :: ps)[k]? = some p → p.1 = q.1 → k = j + 1 := by
                intro k p hk he
                rcases Nat.decEq k (j + 1) with h | h
                · exact absurd he (hdist k (j + 1) p q hk hqj' h)
                · exact h
              by_cases hji : j = m
              · subst hji
                rw [hL.no q.1 (fun k p hk hLk he => by
                    have := only k p hk he
                    subst this; rw [hif] at hLk; cases hLk),
                  g2' q.1 (fun k p hk he => by
                    obtain ⟨hk1, hk2⟩ := take_some k p hk
                    exact hdps k j p q hk2 hqj (by omega) he)]
              · have := hok.looks (m + 1) _ hiN (by omega) hio q.1 ht (j + 1) hjN (by omega) (by omega) hdj'
                by_cases hlt2 : j < m
                · simp only [show j + 1 < m + 1 by omega, if_true] at this
                  have hlj := hd.reach this h3
                  rw [hL.yes (j + 1) q hqj' hlj]
                  exact (g1' j q (by rw [List.getElem?_take, if_pos hlt2]; exact hqj)).symm
                · simp only [show ¬ j + 1 < m + 1 by omega, if_false] at this
                  have hnl : listed.getD (j + 1) false = false := by
                    cases hb : listed.getD (j + 1) false with
                    | false => rfl
                    | true =>
                      have := hd.reach this (fun o ho k hk => hd.down (j + 1) o ho hb k hk)
                      rw [hif] at this; cases this
                  rw [hL.no q.1 (fun k p hk hLk he => by
                      have := only k p hk he
                      subst this; rw [hnl] at hLk; cases hLk),
                    g2' q.1 (fun k p hk he => by
                      obtain ⟨hk1, hk2⟩ := take_some k p hk
                      exact hdps k j p q hk2 hqj (by omega) he)]
            · have hno : ∀ (k : Nat) p, ps[k]? = some p → p.1 ≠ t := fun k p hk e => hex ⟨k, p, hk, e⟩
              rw [hL.no t (fun k p hk _ => by
                cases k with
                | zero => exact nodst t ht 0 p hk (.inr rfl)
                | succ k => exact hno k p (by simpa using hk)), g2' t (fun k p hk => hno k p (take_some k p hk).2)]
        unfold wpOpIn
        simp only [List.getElem?_toArray, hio]
        refine hst a w _ Q hs fun a' w' hs' => ?_
        refine ih _ (S'.put (p0 :: ps)[i].1 (p0 :: ps)[i].2) a' w' (hd.set h3) (by have := unl_set hlf; omega) (fun k hk hkl => ?_) ⟨hL.blks, fun k p hk hLk => ?_, fun t ht => ?_⟩ hs'
        · rw [getD_set hlt, if_neg (by omega)]; exact hN k hk hkl
        · rw [getD_set hlt] at hLk
          rw [get_put]
          by_cases e : i = k
          · subst e
            rw [hp] at hk; cases hk
            simp
          · simp only [e, if_false] at hLk
            rw [if_neg (hdist i k _ p hp hk e)]
            exact hL.yes k p hk hLk
        · rw [get_put, if_neg (ht i _ hp (by rw [getD_set hlt]; simp))]
          exact hL.no t fun k p hk hLk => ht k p hk (by rw [getD_set hlt]; split <;> simp_all)
      · have hiN2 : i = N := by
          rcases Nat.lt_or_ge N i with h | h
          · have := hd.reach (hok.tail i _ (by omega) hio N h (by omega)) h3
            rw [hN N (Nat.le_refl _) (by omega)] at this; cases this
          · omega
        subst hiN2
        have hallN : ∀ k, k < i → k ≠ 0 → listed.getD k false = true := fun k hk h0 => hd.reach (hok.tail i _ (by omega) hio k hk (by omega)) h3
        have htl : ∀ (i' : Nat) o, i ≤ i' → l[i']? = some o → ∀ j, i ≤ j → j < i' → Reach l i' j := fun i' o hN' ho j hj hji => hok.tail i' o hN' ho j hji (by omega)
        cases h0 : listed.getD 0 false with
        | true =>
          have hal : ∀ k, k < i → listed.getD k false = true := fun k hk => by
            by_cases e : k = 0
            · subst e; exact h0
            · exact hallN k hk e
          have hst : Sat E ((puts S ps).put p0.1 p0.2) a w := sat_congr (by show (puts S ps).blks = _; rw [puts_blks, hL.blks]) (fun t => (hall S' ⟨hL.blks, fun k p hp _ => hL.yes k p hp (hal k (hdst k p hp).choose_spec.2.1), fun t ht => hL.no t fun k p hp _ => ht k p hp rfl⟩ t).symm) hs
          have htail := any_tail' (P := P) (r := r) hok.aft htl hq (fuel + 1) i listed _ a w (Nat.le_refl _) hd hu (fun k hk => ⟨fun hk2 => (by
            rcases Nat.lt_or_ge k i with h | h
            · exact h
            · rw [hN k h hk] at hk2; cases hk2), fun hk2 => hal k hk2⟩) hB hst
          exact htail.2 i hi
        | false =>
          have hst : Sat E (puts S ps) a w := sat_congr (by rw [puts_blks, hL.blks]) (fun t => (hbut S' ⟨hL.blks, fun k p hp hk => hL.yes k p hp (hallN k (hdst k p hp).choose_spec.2.1 (by simp at hk; omega)), fun t ht => hL.no t fun k p hp hk => ht k p hp (by
            cases k with
            | zero => rw [h0] at hk; cases hk
            | succ k => simp)⟩ t).symm) hs
          obtain ⟨Sb, hsb, Sc, hsc, hsq⟩ := hB'
          unfold wpOpIn
          simp only [List.getElem?_toArray, hio]
          refine hsb _ hio a w _ Q hst fun a' w' hs' => ?_
          -- now only the first is ready
          have hd' := hd.set h3
          have hu' : unl (listed.setIfInBounds i true) ≤ fuel := by have := unl_set hlf; omega
          have hg : ∀ k, k < l.length → ((listed.setIfInBounds i true).getD k false = true ↔ k ≤ i ∧ k ≠ 0) := by
            intro k hk
            rw [getD_set hlt]
            by_cases e : i = k
            · subst e; simp; omega
            · simp only [e, if_false]
              constructor
              · intro hk2
                refine ⟨?_, fun e0 => by subst e0; rw [h0] at hk2; cases hk2⟩
                rcases Nat.lt_or_ge k i with h | h
                · omega
                · rw [hN k h hk] at hk2; cases hk2
              · intro ⟨hk2, hk3⟩; exact hallN k (by omega) hk3
          revert hd' hu' hg
          generalize listed.setIfInBounds i true = listed'
          intro hd' hu' hg
          cases fuel with
          | zero =>
            have := unl_zero (listed := listed') (by omega) 0 (by rw [hd'.size]; omega)
            exact absurd ((hg 0 (by omega)).1 this).2 (by simp)
          | succ fuel =>
            refine ⟨fun hnil => ?_, fun j hj => ?_⟩
            · have := ready_nil' hok.aft hd'.size hnil 0 (by omega)
              exact absurd ((hg 0 (by omega)).1 this).2 (by simp)
            · obtain ⟨k1, k2, k3⟩ := ready_spec hj
              have hlt' : j < listed'.size := by rw [hd'.size]; exact k1
              have hjo := List.getElem?_eq_getElem k1
              have hjf : listed'.getD j false = false := by simpa [Array.getD_eq_getD_getElem?, hlt'] using k2
              have hj0 : j = 0 := by
                rcases Nat.eq_zero_or_pos j with h | h
                · exact h
                · exfalso
                  rcases Nat.lt_or_ge i j with h' | h'
                  · have := hd'.reach (hok.tail j _ (by omega) hjo 0 h (by omega)) k3
                    exact absurd ((hg 0 (by omega)).1 this).2 (by simp)
                  · have := (hg j k1).2 ⟨h', by omega⟩
                    rw [hjf] at this; cases this
              subst hj0
              have hlf' : listed'[0]? = some false := by
                have : listed'[0] = false := by simpa [Array.getD_eq_getD_getElem?, hlt'] using hjf
                rw [Array.getElem?_eq_getElem hlt', this]
              unfold wpOpIn
              simp only [List.getElem?_toArray, hjo]
              have e0 : l[0] = o0 := by rw [hjo] at ho0; exact Option.some.inj ho0
              rw [e0]
              refine hsc a' w' _ Q hs' fun a'' w'' hs'' => ?_
              refine any_tail' (P := P) (r := r) hok.aft htl hq fuel (i + 1) _ Sc a'' w'' (by omega) (hd'.set k3) (by have := unl_set hlf'; omega) (fun k hk => ?_) hsq hs''
              rw [getD_set hlt']
              by_cases e : 0 = k
              · subst e; simp
              · simp only [e, if_false]
                rw [hg k hk]
                omega

/-- The first operation, at any time: the rest in front; then the two ways. -/
theorem avc_drawF {id : Nat} {K : Exit → AState → Prop} {S : AState} {o0 oB : Oper} {front tail : List Oper} (N : Nat) (hm : P.follows .mixedOrders = true) (hok : drawOkF l N = true) (hl : l = o0 :: (front ++ oB :: tail)) (hN : front.length + 1 = N)
    (h : DA P r E l.toArray front S (fun S1 => Sq P r E l.toArray (oB :: o0 :: tail) S1 (K .normal) ∧ ∃ d x, AOpG P r E l.toArray S1 o0 d x ∧ Sq P r E l.toArray (oB :: tail) (S1.put d x) (K .normal))) : Avc P r E (.region id l.toArray true) K S := by
  intro a w hs
  have hk := drawOkF_spec hok
  obtain ⟨ps, h1, ⟨h2, d, x, h2', h2''⟩, h3⟩ := DA.list _ h
  have hdrop : l.drop N = oB :: tail := by rw [hl, ← hN]; simp
  have hdrop1 : l.drop (N + 1) = tail := by rw [hl, ← hN]; simp
  have hlN : l[N]? = some oB := by rw [hl, ← hN]; simp
  have hfr : ∀ (i : Nat), i < front.length → l[i + 1]? = front[i]? := by
    intro i hi
    rw [hl, List.getElem?_cons_succ, List.getElem?_append_left hi]
  obtain ⟨Sb, hb1, Sc, hb2, hb3⟩ := h2
  refine wpIn_region_any hm (any_frontF hk (J := K .normal) (fun S' a' w' hj hs' => ⟨S', hj, hs'⟩) S (d, x) ps (by omega) (o0 := o0) (by rw [hl]; rfl) (fun i o p hi ho hp => h3 i o p (by rw [← hfr i (by omega)]; exact ho) hp) h2' (by rw [hdrop]; exact h2'')
    ⟨Sb, fun o ho => by rw [hlN] at ho; cases ho; exact hb1, Sc, hb2, by rw [hdrop1]; exact hb3⟩ _ _ S a _ ⟨by simp, fun i o _ hi => ?_⟩ ?_ (fun i _ hi => by simp [hi]) ⟨rfl, fun i p _ hi => ?_, fun t _ => rfl⟩ (sat_drew hs))
  · simp [Array.getD_eq_getD_getElem?, Array.getElem?_replicate] at hi
    split at hi <;> simp at hi
  · simp [unl]
  · simp [Array.getD_eq_getD_getElem?, Array.getElem?_replicate] at hi
    split at hi <;> simp at hi
end
end Go.AV

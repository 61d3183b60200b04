/- What the plain counterparts answer. Conditions: none. -/
import Derived.Test.YtgeaoceiacdadaaGreatDoorPu1
set_option linter.unusedSimpArgs false
set_option linter.unusedVariables false
set_option linter.unnecessarySimpa false
namespace Go.M
open Go.AV
open Classical in
noncomputable def clsOf (n : Norm) : List Span := if VD0 n then n.Classes else []
theorem CV_nil : CV [] := ⟨fun k h => (by cases h), fun k h => (by cases h), fun k h => (by cases h)⟩
theorem clsOf_cv (n : Norm) : CV (clsOf n) := by
 unfold clsOf
 split
 · rename_i h; exact h.cv
 · exact CV_nil
theorem clsOf_len {n : Norm} (hs : NSm n) : (clsOf n).length ≤ 16 := by
 unfold clsOf
 split
 · exact hs.cl
 · simp
def topE (l : List Span) (t : Int) : Int := l.foldl (fun t s => max t s.Value) t
def tbl2 (c : Collation) (l : List Span) : Colltable_table := { tblE c with classes := l, top := topE l 0 }
theorem top_loop {l : List Span} (hl : l.length ≤ 1000) : ∀ (d k : Nat) (t : Int), l.length - k = d → k ≤ l.length → loopM (fun (x : Int × Int) => colltable_table_with_L0 l x.1 x.2) ((k : Int), t) = some (topE (l.drop k) t) := by
 intro d
 induction d with
 | zero =>
  intro k t h1 h2
  rw [List.drop_of_length_le (by omega)]
  refine loopM_done ?_
  simp only [colltable_table_with_L0, lt_f (show l.length ≤ k by omega), cond_false]
  rfl
 | succ d ih =>
  intro k t h1 h2
  have hk : k < l.length := by omega
  rw [List.drop_eq_getElem_cons hk]
  rw [loopM_next (x' := (((k + 1 : Nat) : Int), max t l[k].Value)) (by simp only [colltable_table_with_L0, lt_t hk, cond_true, idx_nat hk, some_bind, wi_succ (k := k) (by omega)])]
  exact ih (k + 1) _ (by omega) (by omega)
theorem with_eq {c : Collation} {n : Norm} (hs : NSm n) (hok : okNorm n) : colltable_table_with (tblE c) n = some (tbl2 c (clsOf n)) := by
 obtain ⟨e, he, hp⟩ := decVer hs hok
 unfold colltable_table_with
 rw [he, some_bind]
 have h1 : (cond (decide (e = 0)) (some n.Classes) (some (tblE c).classes) : Option (List Span)) = some (clsOf n) := by
  unfold clsOf
  by_cases h : e = 0
  · rw [if_pos (hp.1 h)]; simp [h]
  · rw [if_neg (fun hh => h (hp.2 hh))]; simp [h, tblE]
 rw [h1, some_bind]
 have h2 := top_loop (l := clsOf n) (by have := clsOf_len hs; omega) (clsOf n).length 0 0 (by omega) (by omega)
 rw [List.drop_zero] at h2
 have h2' : loopM (fun (x : Int × Int) => colltable_table_with_L0 (clsOf n) x.1 x.2) (0, (tblE c).top) = some (topE (clsOf n) 0) := h2
 rw [h2']
 rfl
theorem find2_eq {c : Collation} (hs : Sm c) {l : List Span} {codes : List Int} : colltable_table_find (tbl2 c l) codes = some (finE (datE c).Entries codes) := find_eq hs (codes := codes)
theorem class2_eq {c : Collation} {l : List Span} (h : CV l) (hl : l.length ≤ 1000) (x : Int) : colltable_table_class (tbl2 c l) x = some (clE l x) := by
 obtain ⟨j, hj, hr, hlo, hhi⟩ := bs_loop (n := l.length) hl (body := fun (q : Int × Int) => sort_Search_L0 (fun x0 => colltable_table_class_1 x0 (tbl2 c l) x) q.1 q.2) (fun k => decide (x ≤ (nth l k).Hi))
  (fun k _ => by simp only [sort_Search_L0, lt_f (Nat.le_refl _), cond_false])
  (fun lo hi h1 h2 => by
   have hm : (lo + hi) / 2 < l.length := by omega
   have hi1 : idx (tbl2 c l).classes (((lo + hi) / 2 : Nat) : Int) = some (nth l ((lo + hi) / 2)) := idx_nth hm
   simp only [sort_Search_L0, lt_t h1, cond_true, bs_mid (show lo + hi ≤ 4611686018427387903 by omega), colltable_table_class_1, hi1, some_bind, wi_succ (k := (lo + hi) / 2) (by omega)]
   by_cases hc : x ≤ (nth l ((lo + hi) / 2)).Hi <;> simp [hc])
  (fun i j hij hj hi => by
   have := h.hi hij hj
   simp only [decide_eq_true_eq] at hi ⊢
   omega)
 simp only [decide_eq_false_iff_not, decide_eq_true_eq] at hlo hhi
 unfold colltable_table_class sort_Search
 have e0 : (tbl2 c l).classes = l := rfl
 rw [e0, hr, cl_at h hj (fun k hk => by have := hlo k hk; omega) hhi]
 simp only [some_bind, pv_bind]
 by_cases hn : j < l.length
 ·
  simp only [lt_t hn, gM_t, idx_nth hn, some_bind, Bool.true_and, hn, true_and]
  by_cases hc2 : (nth l j).Lo ≤ x <;> simp [hc2]
 · simp only [lt_f (show l.length ≤ j by omega), gM_f, some_bind, Bool.false_and, cond_false, hn, false_and, if_false]
theorem top_ge : ∀ (l : List Span) (t : Int), t ≤ topE l t ∧ ∀ s ∈ l, s.Value ≤ topE l t
 | [], t => ⟨Int.le_refl _, fun s h => by cases h⟩
 | x :: l, t => by
  have ih := top_ge l (max t x.Value)
  refine ⟨by show t ≤ topE l (max t x.Value); omega, fun s hs => ?_⟩
  show s.Value ≤ topE l (max t x.Value)
  rcases List.mem_cons.1 hs with rfl | hs
  · omega
  · exact ih.2 s hs
theorem cl_le {l : List Span} (x : Int) : clE l x ≤ topE l 0 := by
 unfold clE
 cases hf : l.find? (inSp x) with
 | none => exact (top_ge l 0).1
 | some s => exact (top_ge l 0).2 s (List.mem_of_find?_eq_some hf)
def lastF (p : Nat → Bool) : Nat → Nat
 | 0 => 0
 | k + 1 => if p (k + 1) then k + 1 else lastF p k
theorem lastF_le (p : Nat → Bool) : ∀ k, lastF p k ≤ k
 | 0 => Nat.le_refl _
 | k + 1 => by unfold lastF; split; omega; have := lastF_le p k; omega
theorem lastF_cut {p : Nat → Bool} {m : Nat} : ∀ {k : Nat}, m ≤ k → (∀ j, m < j → j ≤ k → p j = false) → lastF p k = lastF p m
  | 0, h, _ => by have : m = 0 := by omega
                  rw [this]
  | k + 1, h, hp => by
    by_cases e : m = k + 1
    · rw [e]
    · unfold lastF
      rw [hp (k + 1) (by omega) (Nat.le_refl _)]
      simp only [Bool.false_eq_true, if_false]
      rw [lastF_cut (m := m) (by omega) fun j h1 h2 => hp j h1 (by omega)]
      cases m <;> rfl
def pfx (es : List Entry) (text : List Int) (k : Nat) : Bool := (finE es (text.take k)).2
def lonF (es : List Entry) (text : List Int) : Nat := lastF (pfx es text) text.length
def mtch (fd : List Int → Bool) (cl : Int → Int) : List Int → List Int → List Int → Int → List Int × List Int
 | [], p, s, _ => (p, s)
 | x :: r, p, s, h => if cl x = 0 then (p, s ++ x :: r) else if fd (p ++ [x]) && decide (h < cl x) then mtch fd cl r (p ++ [x]) s h else mtch fd cl r p (s ++ [x]) (max h (cl x))
theorem mtch_skip {fd : List Int → Bool} {cl : Int → Int} : ∀ (r p s : List Int) (h : Int), (∀ x, cl x ≤ h) → mtch fd cl r p s h = (p, s ++ r)
 | [], p, s, h, _ => by simp [mtch]
 | x :: r, p, s, h, hc => by
  have hx := hc x
  unfold mtch
  split
  · rfl
  ·
   have e : decide (h < cl x) = false := by simp; omega
   rw [e, Bool.and_false, if_neg (by simp), mtch_skip r p (s ++ [x]) (max h (cl x)) (fun y => by have := hc y; omega)]
   simp
theorem mtch_inv {fd : List Int → Bool} {cl : Int → Int} : ∀ (r p s : List Int) (h : Int), p.length ≤ (mtch fd cl r p s h).1.length ∧ (mtch fd cl r p s h).1.length + (mtch fd cl r p s h).2.length = p.length + s.length + r.length ∧ ((mtch fd cl r p s h).1.length = p.length → mtch fd cl r p s h = (p, s ++ r))
 | [], p, s, h => by simp [mtch]
 | x :: r, p, s, h => by
  unfold mtch
  split
  · refine ⟨Nat.le_refl _, by simp; omega, fun _ => rfl⟩
  ·
   split
   ·
    have ih := mtch_inv (fd := fd) (cl := cl) r (p ++ [x]) s h
    simp only [List.length_append, List.length_cons, List.length_nil] at ih ⊢
    exact ⟨by omega, by omega, fun e => by omega⟩
   ·
    have ih := mtch_inv (fd := fd) (cl := cl) r p (s ++ [x]) (max h (cl x))
    simp only [List.length_append, List.length_cons, List.length_nil] at ih ⊢
    refine ⟨ih.1, by omega, fun e => ?_⟩
    rw [ih.2.2 e]; simp
section
variable {c : Collation} (hs : Sm c) {l : List Span} (hcv : CV l) (hl : l.length ≤ 1000)
include hs
theorem mL0 {text : List Int} (ht : text.length ≤ 1000) : ∀ k, k ≤ text.length → loopM (fun (x : Int) => colltable_table_match_L0 text (tbl2 c l) x) (k : Int) = some ((lastF (pfx (datE c).Entries text) k : Nat) : Int)
 | 0, _ => by
  refine loopM_done ?_
  have : decide ((0 : Int) < ((0 : Nat) : Int)) = false := rfl
  simp only [colltable_table_match_L0, this, cond_false]
  rfl
 | k + 1, hk => by
  have hd : decide ((0 : Int) < ((k + 1 : Nat) : Int)) = true := by simp <;> omega
  have ih := mL0 ht k (by omega)
  unfold lastF
  cases hp : pfx (datE c).Entries text (k + 1) with
  | true =>
   rw [if_pos rfl]
   refine loopM_done ?_
   unfold pfx at hp
   simp only [colltable_table_match_L0, hd, cond_true, slc_take hk, some_bind, find2_eq hs, hp]
  | false =>
   rw [if_neg (by simp), ← ih]
   refine loopM_next ?_
   unfold pfx at hp
   simp only [colltable_table_match_L0, hd, cond_true, slc_take hk, some_bind, find2_eq hs, hp, cond_false, wi_pred (k := k) (by omega)]
omit hs in
theorem pfx_long {text : List Int} {k : Nat} (hk : k ≤ text.length) (h : lonE (datE c).Entries 0 < (k : Int)) : pfx (datE c).Entries text k = false := by
 have h1 := lon_le (datE c).Entries 0
 unfold pfx finE
 have : (datE c).Entries.find? (fun x => decide (x.Codes = text.take k)) = none := by
  rw [List.find?_eq_none]
  intro x hx
  simp only [decide_eq_true_eq]
  intro e
  have h2 := h1.2 x hx
  rw [e] at h2
  have : (text.take k).length = k := by simp; omega
  omega
 rw [this]
theorem mL0_eq {text : List Int} (ht : text.length ≤ 1000) : loopM (fun (x : Int) => colltable_table_match_L0 text (tbl2 c l) x) (min (tbl2 c l).longest (text.length : Int)) = some ((lonF (datE c).Entries text : Nat) : Int) := by
 have h1 := lon_le (datE c).Entries 0
 have e : (tbl2 c l).longest = lonE (datE c).Entries 0 := rfl
 rw [e]
 obtain ⟨m, hm⟩ : ∃ m : Nat, min (lonE (datE c).Entries 0) (text.length : Int) = (m : Int) := ⟨(min (lonE (datE c).Entries 0) (text.length : Int)).toNat, by omega⟩
 rw [hm, mL0 hs ht m (by omega)]
 unfold lonF
 rw [lastF_cut (p := pfx (datE c).Entries text) (m := m) (k := text.length) (by omega) fun j h2 h3 => pfx_long h3 (by omega)]
omit hs in
theorem cp_mid {p s r : List Int} {x : Int} : setM (cpM (p ++ s ++ x :: r) ((p.length + 1 : Nat) : Int) ((p.length + s.length + 1 : Nat) : Int) (p.length : Int) ((p.length + s.length : Nat) : Int)) (p.length : Int) x = some ((p ++ [x]) ++ s ++ r) := by
 have e1 : ((p ++ s ++ x :: r).drop p.length).take (p.length + s.length - p.length) = s := by
  rw [List.append_assoc, List.drop_left]
  have : p.length + s.length - p.length = s.length := by omega
  rw [this, List.take_left]
 have e2 : min (p.length + s.length - p.length) (p.length + s.length + 1 - (p.length + 1)) = s.length := by omega
 unfold cpM
 simp only [Int.toNat_natCast]
 rw [e1, e2, List.take_of_length_le (Nat.le_refl _)]
 cases s with
 | nil =>
  have hx : (p ++ [] ++ x :: r) = p ++ x :: r := by simp
  rw [hx]
  have e3 : (p ++ x :: r).take (p.length + 1) = p ++ [x] := by
   rw [List.take_append, List.take_of_length_le (by omega)]
   simp
  have e4 : (p ++ x :: r).drop (p.length + 1 + ([] : List Int).length) = r := by
   rw [List.drop_append, List.drop_of_length_le (by simp)]
   simp
  rw [e3, e4]
  have : p ++ [x] ++ [] ++ r = p ++ x :: r := by simp
  rw [this, setM_mid rfl]
 | cons y s =>
  have hx : (p ++ (y :: s) ++ x :: r) = p ++ y :: (s ++ x :: r) := by simp
  rw [hx]
  have e3 : (p ++ y :: (s ++ x :: r)).take (p.length + 1) = p ++ [y] := by
   rw [List.take_append, List.take_of_length_le (by omega)]
   simp
  have e4 : (p ++ y :: (s ++ x :: r)).drop (p.length + 1 + (y :: s).length) = r := by
   have : p ++ y :: (s ++ x :: r) = (p ++ y :: (s ++ [x])) ++ r := by simp
   rw [this, List.drop_left' (by simp; omega)]
  rw [e3, e4]
  have : p ++ [y] ++ (y :: s) ++ r = p ++ y :: ((y :: s) ++ r) := by simp
  rw [this, setM_mid rfl]
  simp
include hcv hl
theorem mL1 : ∀ (r p s : List Int) (h : Int), p.length + s.length + r.length ≤ 1000 →
    loopM (fun (x : Int × Int × Int × (List Int)) => colltable_table_match_L1 (tbl2 c l) x.1 x.2.1 x.2.2.1 x.2.2.2) ((p.length : Int), h, ((p.length + s.length : Nat) : Int), p ++ s ++ r) =
      some ((((mtch (fun q => (finE (datE c).Entries q).2) (clE l) r p s h).1.length : Nat) : Int), (mtch (fun q => (finE (datE c).Entries q).2) (clE l) r p s h).1 ++ (mtch (fun q => (finE (datE c).Entries q).2) (clE l) r p s h).2)
  | [], p, s, h, _ => by
    refine loopM_done ?_
    have : decide (((p.length + s.length : Nat) : Int) < ((p ++ s ++ []).length : Int)) = false := by simp
    simp only [colltable_table_match_L1, pv_bind, this, Bool.false_and, cond_false]
    simp [mtch]
  | x :: r, p, s, h, hn => by
    simp only [List.length_cons] at hn
    have hd : decide (((p.length + s.length : Nat) : Int) < ((p ++ s ++ x :: r).length : Int)) = true := by simp <;> omega
    have hi : idx (p ++ s ++ x :: r) ((p.length + s.length : Nat) : Int) = some x := idx_mid (by simp)
    have etop : (tbl2 c l).top = topE l 0 := rfl
    by_cases htop : h < topE l 0
    · have hd2 : decide (h < (tbl2 c l).top) = true := by rw [etop]; simpa using htop
      by_cases h0 : clE l x = 0
      · refine loopM_done ?_
        simp only [colltable_table_match_L1, pv_bind, hd, hd2, Bool.and_self, cond_true, hi, some_bind, class2_eq hcv hl, h0, decide_true, Sum.elim_inl]
        unfold mtch
        rw [if_pos h0]
        simp
      · unfold mtch
        rw [if_neg h0]
        by_cases hk : clE l x ≤ h
        · have e : decide (h < clE l x) = false := by simp; omega
          rw [e, Bool.and_false, if_neg (by simp)]
          rw [loopM_next (x' := ((p.length : Int), h, ((p.length + (s ++ [x]).length : Nat) : Int), p ++ (s ++ [x]) ++ r)) (by
            have e2 : p ++ (s ++ [x]) ++ r = p ++ s ++ x :: r := by simp
            have e3 : p.length + (s ++ [x]).length = p.length + s.length + 1 := by simp; omega
            rw [e2, e3]
            simp only [colltable_table_match_L1, pv_bind, hd, hd2, Bool.and_self, cond_true, hi, some_bind, class2_eq hcv hl, h0, hk, decide_true, decide_false, cond_false, Sum.elim_inr, wi_succ (k := p.length + s.length) (by omega)])]
          have := mL1 r p (s ++ [x]) h (by simp; omega)
          rw [show max h (clE l x) = h by omega]
          exact this
        · have e : decide (h < clE l x) = true := by simp; omega
          rw [e, Bool.and_true]
          have s1 : slc (p ++ s ++ x :: r) 0 (p.length : Int) = some p := by
            rw [slc_take (by simp)]
            simp
          have a1 : app p [x] = some (p ++ [x]) := app_ok (by simp; omega)
          cases hf : (finE (datE c).Entries (p ++ [x])).2 with
          | false =>
            rw [if_neg (by simp)]
            rw [loopM_next (x' := ((p.length : Int), clE l x, ((p.length + (s ++ [x]).length : Nat) : Int), p ++ (s ++ [x]) ++ r)) (by
              have e2 : p ++ (s ++ [x]) ++ r = p ++ s ++ x :: r := by simp
              have e3 : p.length + (s ++ [x]).length = p.length + s.length + 1 := by simp; omega
              rw [e2, e3]
              simp only [colltable_table_match_L1, pv_bind, hd, hd2, Bool.and_self, cond_true, hi, some_bind, class2_eq hcv hl, h0, hk, decide_false, cond_false, s1, a1, find2_eq hs, hf, Bool.not_false, Sum.elim_inr, wi_succ (k := p.length + s.length) (by omega)])]
            have := mL1 r p (s ++ [x]) (clE l x) (by simp; omega)
            rw [show max h (clE l x) = clE l x by omega]
            exact this
          | true =>
            rw [if_pos rfl]
            have sc1 : ∃ q, slc (p ++ s ++ x :: r) ((p.length + 1 : Nat) : Int) ((p.length + s.length + 1 : Nat) : Int) = some q := ⟨_, slc_ok (by omega) (by simp; omega)⟩
            have sc2 : ∃ q, slc (p ++ s ++ x :: r) (p.length : Int) ((p.length + s.length : Nat) : Int) = some q := ⟨_, slc_ok (by omega) (by simp)⟩
            obtain ⟨q1, hq1⟩ := sc1
            obtain ⟨q2, hq2⟩ := sc2
            have hcp := cp_mid (p := p) (s := s) (r := r) (x := x)
            obtain ⟨_, _, hlt⟩ := setM_some hcp
            have hix : ∃ q, idx (cpM (p ++ s ++ x :: r) ((p.length + 1 : Nat) : Int) ((p.length + s.length + 1 : Nat) : Int) (p.length : Int) ((p.length + s.length : Nat) : Int)) (p.length : Int) = some q := ⟨_, idx_nat (by simpa using hlt)⟩
            obtain ⟨q3, hq3⟩ := hix
            rw [loopM_next (x' := (((p ++ [x]).length : Int), h, (((p ++ [x]).length + s.length : Nat) : Int), (p ++ [x]) ++ s ++ r)) (by
              have e3 : (p ++ [x]).length + s.length = p.length + s.length + 1 := by simp; omega
              have e4 : (p ++ [x]).length = p.length + 1 := by simp
              rw [e3, e4]
              simp only [colltable_table_match_L1, pv_bind, hd, hd2, Bool.and_self, cond_true, hi, some_bind, class2_eq hcv hl, h0, hk, decide_false, cond_false, s1, a1, find2_eq hs, hf, Bool.not_true, wi_succ (k := p.length + s.length) (by omega), wi_succ (k := p.length) (by omega), hq1, hq2, hq3, hcp, Sum.elim_inr])]
            exact mL1 r (p ++ [x]) s h (by simp; omega)
    · have hd2 : decide (h < (tbl2 c l).top) = false := by rw [etop]; simpa using htop
      have hm := mtch_skip (fd := fun q => (finE (datE c).Entries q).2) (cl := clE l) (x :: r) p s h (fun y => by have := cl_le (l := l) y; omega)
      rw [hm]
      refine loopM_done ?_
      simp only [colltable_table_match_L1, pv_bind, hd, hd2, Bool.and_false, cond_false, List.append_assoc]
noncomputable def stE (c : Collation) (l : List Span) (text : List Int) : Int × List Int × List Element := if lonF (datE c).Entries text = 0 then (1, text.drop 1, impE (datE c) (nth text 0)) else
 ((((mtch (fun q => (finE (datE c).Entries q).2) (clE l) (text.drop (lonF (datE c).Entries text)) (text.take (lonF (datE c).Entries text)) [] 0).1.length : Nat) : Int), (mtch (fun q => (finE (datE c).Entries q).2) (clE l) (text.drop (lonF (datE c).Entries text)) (text.take (lonF (datE c).Entries text)) [] 0).2, (finE (datE c).Entries (mtch (fun q => (finE (datE c).Entries q).2) (clE l) (text.drop (lonF (datE c).Entries text)) (text.take (lonF (datE c).Entries text)) [] 0).1).1)
theorem match_eq {text : List Int} (ht : text.length ≤ 1000) (h0 : text ≠ []) : ∃ seq, colltable_table_match (tbl2 c l) text = some ((stE c l text).1, (stE c l text).2.2, decide (lonF (datE c).Entries text ≠ 0), seq) ∧ slc seq (stE c l text).1 (seq.length : Int) = some (stE c l text).2.1 := by
 unfold colltable_table_match
 rw [mL0_eq hs ht, some_bind]
 have hpos : 0 < text.length := List.length_pos_iff.2 h0
 by_cases hz : lonF (datE c).Entries text = 0
 ·
  have e1 : decide (((lonF (datE c).Entries text : Nat) : Int) = 0) = true := by simp [hz]
  have i0 : idx text (0 : Int) = some (nth text 0) := idx_nth (k := 0) hpos
  have hst : stE c l text = (1, text.drop 1, impE (datE c) (nth text 0)) := by unfold stE; rw [if_pos hz]
  have him : colltable_table_implicit (tbl2 c l) (nth text 0) = some (impE (datE c) (nth text 0)) := implicit_eq c (nth text 0)
  rw [e1, cond_true, i0, some_bind, him, some_bind, hst]
  refine ⟨text, ?_, ?_⟩
  · simp [hz]
  · exact slc_drop (l := text) (a := 1) (by omega)
 ·
  have e1 : decide (((lonF (datE c).Entries text : Nat) : Int) = 0) = false := by simp; omega
  rw [e1, cond_false]
  have hle : lonF (datE c).Entries text ≤ text.length := lastF_le _ _
  have h1 := mL1 hs hcv hl (text.drop (lonF (datE c).Entries text)) (text.take (lonF (datE c).Entries text)) [] 0 (by simp; omega)
  have e2 : (text.take (lonF (datE c).Entries text)).length = lonF (datE c).Entries text := by simp; omega
  have e3 : text.take (lonF (datE c).Entries text) ++ [] ++ text.drop (lonF (datE c).Entries text) = text := by simp
  rw [e3, e2] at h1
  simp only [List.length_nil, Nat.add_zero] at h1
  rw [h1, some_bind]
  have hst : stE c l text = ((((mtch (fun q => (finE (datE c).Entries q).2) (clE l) (text.drop (lonF (datE c).Entries text)) (text.take (lonF (datE c).Entries text)) [] 0).1.length : Nat) : Int), (mtch (fun q => (finE (datE c).Entries q).2) (clE l) (text.drop (lonF (datE c).Entries text)) (text.take (lonF (datE c).Entries text)) [] 0).2, (finE (datE c).Entries (mtch (fun q => (finE (datE c).Entries q).2) (clE l) (text.drop (lonF (datE c).Entries text)) (text.take (lonF (datE c).Entries text)) [] 0).1).1) := by unfold stE; rw [if_neg hz]
  rw [hst]
  generalize mtch (fun q => (finE (datE c).Entries q).2) (clE l) (text.drop (lonF (datE c).Entries text)) (text.take (lonF (datE c).Entries text)) [] 0 = q
  have s1 : slc (q.1 ++ q.2) 0 ((q.1.length : Nat) : Int) = some q.1 := by rw [slc_take (by simp)]; simp
  simp only [s1, some_bind, find2_eq hs]
  refine ⟨q.1 ++ q.2, ?_, ?_⟩
  · simp [hz]
  · rw [slc_drop (by simp)]; simp
end
theorem step_eq {n : Norm} {c : Collation} (hn : NSm n) (hok : okNorm n) (hs : Sm c) (hg : ∀ g ∈ c.Groups, g.Name.length ≤ MX) {text : List Int} (ht : text.length ≤ 1000) (h0 : text ≠ []) : colltable_Step n c text = some (stE c (clsOf n) text) := by
 have hpos : 0 < text.length := List.length_pos_iff.2 h0
 have hl : (clsOf n).length ≤ 1000 := by have := clsOf_len hn; omega
 obtain ⟨seq, h1, h2⟩ := match_eq hs (clsOf_cv n) hl ht h0
 unfold colltable_Step slices_Clone_int_int slices_Clone_api_Element_api_Element
 have e0 : decide ((text.length : Int) = 0) = false := by simp; omega
 rw [e0, cond_false, app0 ht, some_bind, made_eq hs hg, some_bind, with_eq hn hok, some_bind, h1, some_bind]
 simp only [h2, some_bind]
 have hlen : (stE c (clsOf n) text).2.2.length ≤ 1000 := by
  unfold stE
  split
  · exact imp_len _ _
  · exact fin_len (dat_vd hs) _
 rw [app0 hlen]
 rfl
end Go.M
namespace Go.M
open Go.AV
def n0 : Norm := { Classes := [{ Lo := 769, Hi := 769, Value := 230 }, { Lo := 803, Hi := 803, Value := 220 }], Decomp := [], Excluded := { Ranges := [] } }
def c0 : Collation := { Entries := [{ Codes := [97], Elements := [{ Primary := 7, Secondary := 1, Tertiary := 1, Variable := false }] }, { Codes := [97, 769], Elements := [{ Primary := 8, Secondary := 1, Tertiary := 1, Variable := false }] }], Groups := [], Base := 100, Second := 1, Third := 1 }
theorem n0_valid : VD0 n0 := by
 refine ⟨⟨fun k hk => ?_, fun k hk => ?_, fun k hk => ?_⟩, ⟨fun m hm => (by cases hm), fun m hm => (by cases hm), fun m hm => (by cases hm), fun k hk => (by cases hk)⟩, trivial, fun k hk => (by cases hk), fun m hm => (by cases hm), fun m hm => (by cases hm), fun m hm => (by cases hm), ?_⟩
 ·
  have hk' : k < 2 := hk
  match k, hk' with
  | 0, _ => unfold spOk nth n0; decide
  | 1, _ => unfold spOk nth n0; decide
 ·
  have hk' : k + 1 < 2 := hk
  match k, hk' with
  | 0, _ => unfold adOk nth n0; decide
 ·
  have hk' : k < 2 := hk
  match k, hk' with
  | 0, _ => unfold hgOk nth n0; decide
  | 1, _ => unfold hgOk nth n0; decide
 ·
  unfold decompose_measure
  rw [loopM_done (y := (false, false)) (by rfl)]
  rfl
theorem n0_small : NSm n0 := ⟨by decide, by decide, fun m hm => (by cases hm), fun m hm => (by cases hm), by decide⟩
theorem n0_ok : okNorm n0 := by unfold okNorm okSpan okSet n0; simp
theorem c0_small : Sm c0 := ⟨by decide, by decide, by decide, by decide⟩
theorem c0_st : stE c0 n0.Classes [97, 803, 769] = (2, [803], [{ Primary := 8, Secondary := 1, Tertiary := 1, Variable := false }]) := by decide
theorem c0_ck : ckE c0 = 0 := by decide
theorem alive43g : law43_alive = some true := by
  have hcl : clsOf n0 = n0.Classes := by unfold clsOf; rw [if_pos n0_valid]
  have h1 := step_eq (n := n0) (c := c0) n0_small n0_ok c0_small (fun g hg => by cases hg) (text := [97, 803, 769]) (by decide) (by simp)
  rw [hcl, c0_st] at h1
  have h2 : colltable_Check c0 = some 0 := by rw [check_eq c0_small (fun g hg => by cases hg), c0_ck]
  have e : law43_alive = (colltable_Step n0 c0 [97, 803, 769]).bind fun t28 =>
      (colltable_Check c0).bind fun t33 =>
      (pv (decide (t33 = 0))).bind fun b35 =>
      (pv (b35 && (decide (t28.1 = 2)))).bind fun b39 =>
      (gM b39 (ref01_Equal t28.2.1 [803])).bind fun t42 =>
      (pv (b39 && t42)).bind fun b44 =>
      (gM b44 (ref43_Same t28.2.2 [({ Primary := 8, Secondary := 1, Tertiary := 1, Variable := false } : Element)])).bind fun t47 =>
      some (b44 && t47) := rfl
  rw [e, h1, some_bind, h2, some_bind]
  simp only [pv_bind, decide_true, Bool.and_self, gM_t, equal_eq (a := [803]) (b := [803]) (by decide), some_bind, same_eq (a := [({ Primary := 8, Secondary := 1, Tertiary := 1, Variable := false } : Element)]) (by decide)]
theorem few_eq (x : Unicodetextlaw43_Case) : ∃ b, law43_few x = some b ∧ (b = true → NSm x.N ∧ Sm x.C ∧ x.Text.length ≤ 12) := by
 obtain ⟨b, hb, hp⟩ := small21 x.N
 unfold law43_few
 rw [hb]
 simp only [some_bind, pv_bind]
 cases b with
 | false => exact ⟨false, rfl, fun h => by cases h⟩
 | true =>
  simp only [gM_t, small_eq, some_bind, Bool.true_and]
  refine ⟨_, rfl, fun h => ?_⟩
  simp only [Bool.and_eq_true, decide_eq_true_eq] at h
  exact ⟨hp rfl, smB_sm h.1, by omega⟩
end Go.M
namespace Go.M
open Go.AV
theorem once_eqB {n : Norm} (h : DS n.Decomp) (hl : n.Decomp.length ≤ 1000) (c : Int) (b : Bool) : decompose_once n c b = some (if syl c = true then (hdE c, true) else ((fnB n.Decomp b c).getD [], (fnB n.Decomp b c).isSome)) := by
 unfold decompose_once
 rw [kind_eq, some_bind]
 by_cases hs : syl c = true
 ·
  have e : decide (4 ≤ hkE c) = true := by simpa using (syl_iff c).1 hs
  simp only [e, cond_true, hdec_eq hs, some_bind, hs, if_true]
 ·
  have e : decide (4 ≤ hkE c) = false := by simp only [decide_eq_false_iff_not]; exact fun hh => hs ((syl_iff c).2 hh)
  simp only [Bool.not_eq_true] at hs
  simp only [e, cond_false, hs, Bool.false_eq_true, if_false]
  obtain ⟨i, hb, hp⟩ := msearch h hl c
  rw [hb]
  simp only [some_bind, pv_bind]
  unfold fnB
  cases hf : n.Decomp.find? (isF c) with
  | none => simp [gM_f]
  | some m =>
   obtain ⟨h1, h2⟩ := hp m hf
   simp only [Option.isSome_some, Bool.not_true, Bool.not_false, gM_t, idx_nth h1, h2, some_bind, Bool.false_or]
   cases b <;> cases hm : (m.Tag == []) <;> simp [hm]
section
variable {n : Norm} {b : Bool} (hd : DS n.Decomp) (hl : n.Decomp.length ≤ 1000) (hD : ∀ c, DD n.Decomp n.Decomp.length c) (hw : ∀ c, (fu n.Decomp b c).length ≤ 64)
def XOk (l : List Mapping) (b : Bool) (m : List (Int × List Int)) : Prop := ∀ k v, mget m k = some v → v = fu l b k
def xneed (l : List Mapping) (f : Nat) (c : Int) : Prop := (∃ k, DD l k c ∧ k + 2 ≤ f) ∨ (l.find? (isF c) = none ∧ syl c = false ∧ 1 ≤ f)
include hw in
theorem x_loop {f : Nat} (ih : ∀ c m, XOk n.Decomp b m → xneed n.Decomp f c → ∃ m', decompose_expander_1 f c m n b = some (fu n.Decomp b c, m') ∧ XOk n.Decomp b m') (L : List Int) (hL : L.length ≤ 1000) (hn : ∀ e ∈ L, xneed n.Decomp f e) :
    ∀ (d i : Nat) (acc : List Int) (m : List (Int × List Int)), L.length - i = d → i ≤ L.length → acc.length ≤ 64 * i → XOk n.Decomp b m →
      ∃ m', loopM (fun (x : Int × (List Int) × (List (Int × (List Int)))) => decompose_expander_1_L0 (L, true) (decompose_expander_1 f) n b x.1 x.2.1 x.2.2) ((i : Int), acc, m) = some (acc ++ (L.drop i).flatMap (fu n.Decomp b), m') ∧ XOk n.Decomp b m' := by
  intro d
  induction d with
  | zero =>
    intro i acc m h1 h2 h3 h4
    refine ⟨m, ?_, h4⟩
    refine loopM_done ?_
    rw [List.drop_of_length_le (show L.length ≤ i by omega)]
    simp only [decompose_expander_1_L0, lt_f (show L.length ≤ i by omega), cond_false, List.flatMap_nil, List.append_nil]
  | succ d ihd =>
    intro i acc m h1 h2 h3 h4
    have hi : i < L.length := by omega
    obtain ⟨m1, hr, r1⟩ := ih L[i] m h4 (hn _ (List.getElem_mem hi))
    have hw1 := hw L[i]
    have ha : app acc (fu n.Decomp b L[i]) = some (acc ++ fu n.Decomp b L[i]) := app_ok (by omega)
    rw [loopM_next (x' := (((i + 1 : Nat) : Int), acc ++ fu n.Decomp b L[i], m1)) (by
      simp only [decompose_expander_1_L0, lt_t hi, cond_true, idx_nat hi, some_bind, hr, ha, wi_succ (k := i) (by omega)])]
    obtain ⟨m2, hq, q1⟩ := ihd (i + 1) (acc ++ fu n.Decomp b L[i]) m1 (by omega) (by omega) (by rw [List.length_append]; omega) r1
    refine ⟨m2, ?_, q1⟩
    rw [hq, List.drop_eq_getElem_cons hi, List.flatMap_cons, List.append_assoc]
include hd hl hD hw in
theorem ex_eq : ∀ (f : Nat) (c : Int) (m : List (Int × List Int)), XOk n.Decomp b m → xneed n.Decomp f c → ∃ m', decompose_expander_1 f c m n b = some (fu n.Decomp b c, m') ∧ XOk n.Decomp b m' := by
 intro f
 induction f with
 | zero => intro c m _ hn; exfalso; rcases hn with ⟨k, _, h⟩ | ⟨_, _, h⟩ <;> omega
 | succ f ih =>
  intro c m hm hn
  show ∃ m', decompose_expander_1_B (decompose_expander_1 f) c m n b = some _ ∧ _
  unfold decompose_expander_1_B
  cases hh : mhas m c with
  | true =>
   obtain ⟨v, hv⟩ := Option.isSome_iff_exists.1 hh
   have hg : mgetD m c [] = v := by unfold mgetD; rw [hv]; rfl
   rw [cond_true, hg, hm c v hv]
   exact ⟨m, rfl, hm⟩
  | false =>
   rw [cond_false, once_eqB hd hl, some_bind]
   have fin : ∀ (L : List Int), L.length ≤ 1000 → (∀ e ∈ L, xneed n.Decomp f e) → L.flatMap (fu n.Decomp b) = fu n.Decomp b c → ∃ m', (cond (!((L, true) : List Int × Bool).2) (some ([c], m)) ((loopM (fun (x : Int × (List Int) × (List (Int × (List Int)))) => decompose_expander_1_L0 (L, true) (decompose_expander_1 f) n b x.1 x.2.1 x.2.2) (0, [], m)).bind fun (y1 : (List Int) × (List (Int × (List Int)))) => some (y1.1, mput y1.2 c y1.1))) = some (fu n.Decomp b c, m') ∧ XOk n.Decomp b m' := by
    intro L hL hne hfl
    obtain ⟨m1, hq, q1⟩ := x_loop hw ih L hL hne L.length 0 [] m (by omega) (by omega) (by simp) hm
    rw [List.drop_zero, List.nil_append, hfl] at hq
    have hq' : loopM (fun (x : Int × (List Int) × (List (Int × (List Int)))) => decompose_expander_1_L0 (L, true) (decompose_expander_1 f) n b x.1 x.2.1 x.2.2) (0, [], m) = some (fu n.Decomp b c, m1) := hq
    simp only [Bool.not_true, cond_false]
    rw [hq']
    refine ⟨mput m1 c (fu n.Decomp b c), rfl, fun k v hk => ?_⟩
    rw [mget_mput] at hk
    split at hk
    · rename_i hx; cases hk; rw [hx]
    · exact q1 k v hk
   cases hs : syl c with
   | true =>
    simp only [if_true]
    have hnone := syl_none hd hs
    have hpt : ∀ e ∈ hdE c, n.Decomp.find? (isF e) = none ∧ syl e = false := by
     intro e he
     obtain ⟨p1, p2⟩ := hd_parts hs he
     refine ⟨?_, p1⟩
     cases hf2 : n.Decomp.find? (isF e) with
     | none => rfl
     | some m => obtain ⟨q1, rfl⟩ := fd_from hf2; exact absurd (hd.hk m q1) p2
    refine fin (hdE c) (by have := hd_len c; omega) (fun e he => ?_) ?_
    ·
     obtain ⟨p1, p2⟩ := hpt e he
     refine .inr ⟨p1, p2, ?_⟩
     rcases hn with ⟨k, _, h⟩ | ⟨_, h, _⟩
     · omega
     · rw [hs] at h; cases h
    ·
     have h1 : fu n.Decomp b c = hdE c := by rw [fu_eq hD, fnB_none hnone]
     rw [h1]
     have : ∀ L : List Int, (∀ e ∈ L, n.Decomp.find? (isF e) = none ∧ syl e = false) → L.flatMap (fu n.Decomp b) = L := by
      intro L
      induction L with
      | nil => intro _; rfl
      | cons x L ihL =>
       intro h
       obtain ⟨p1, p2⟩ := h x (by simp)
       have hx : fu n.Decomp b x = [x] := by rw [fu_eq hD, fnB_none p1]; show hdE x = [x]; unfold hdE; rw [if_neg (by simp [p2])]
       rw [List.flatMap_cons, hx, ihL fun e he => h e (by simp [he])]
       rfl
     exact this _ hpt
   | false =>
    simp only [Bool.false_eq_true, if_false]
    cases hf : fnB n.Decomp b c with
    | none =>
     simp only [Option.getD_none, Option.isSome_none, Bool.not_false, cond_true]
     refine ⟨m, ?_, hm⟩
     rw [fu_eq hD, hf]
     have : hdE c = [c] := by unfold hdE; rw [if_neg (by simp [hs])]
     simp only [this]
    | some to =>
     simp only [Option.getD_some, Option.isSome_some]
     obtain ⟨mm, h1, rfl, _⟩ := fnB_some hf
     obtain ⟨h2, _⟩ := fd_from h1
     refine fin mm.To (hd.len mm h2) (fun e he => ?_) (by rw [fu_eq hD c, hf])
     rcases hn with ⟨k, hk, h⟩ | ⟨h, _, _⟩
     ·
      cases k with
      | zero => have : n.Decomp.find? (isF c) = none := hk; rw [this] at h1; cases h1
      | succ k => exact .inl ⟨k, hk mm h1 e he, by omega⟩
     · rw [h] at h1; cases h1
end
noncomputable def usN (n : Norm) : Norm := open Classical in if VD0 n then n else { Classes := [], Decomp := [], Excluded := { Ranges := [] } }
structure GN (n : Norm) : Prop where
 ds : DS n.Decomp
 cv : CV n.Classes
 H : ∀ m ∈ n.Decomp, WW n.Decomp m.From
 w : ∀ m ∈ n.Decomp, wt n.Decomp true m.From ≤ 64
 cl : n.Classes.length ≤ 16
 de : n.Decomp.length ≤ 20
 ok : ∀ x ∈ n.Classes, okSpan x
theorem GN.dd {n : Norm} (h : GN n) : ∀ c, DD n.Decomp n.Decomp.length c := all_dd h.ds h.H
theorem GN.len {n : Norm} (h : GN n) (b : Bool) (c : Int) : (fu n.Decomp b c).length ≤ 64 := fu_len h.ds (wt_all h.ds h.H h.w) b c
theorem GN.ex {n : Norm} (h : GN n) {b : Bool} (c : Int) (m : List (Int × List Int)) (hm : XOk n.Decomp b m) : ∃ m', decompose_expander_1 100 c m n b = some (fu n.Decomp b c, m') ∧ XOk n.Decomp b m' :=
 ex_eq h.ds (by have := h.de; omega) h.dd (h.len b) 100 c m hm (.inl ⟨_, h.dd c, by have := h.de; omega⟩)
end Go.M
namespace Go.M
open Go.AV
end Go.M
namespace Go.M
open Go.AV
theorem st_len {c : Collation} {l : List Span} {text : List Int} (h0 : text ≠ []) : 1 ≤ (stE c l text).1 ∧ (stE c l text).1 + ((stE c l text).2.1.length : Int) = (text.length : Int) := by
 have hpos : 0 < text.length := List.length_pos_iff.2 h0
 unfold stE
 split
 ·
  refine ⟨by simp, ?_⟩
  show (1 : Int) + ((text.drop 1).length : Int) = _
  rw [List.length_drop]; omega
 ·
  rename_i hz
  have hle : lonF (datE c).Entries text ≤ text.length := lastF_le _ _
  have hinv := mtch_inv (fd := fun q => (finE (datE c).Entries q).2) (cl := clE l) (text.drop (lonF (datE c).Entries text)) (text.take (lonF (datE c).Entries text)) [] 0
  generalize mtch (fun q => (finE (datE c).Entries q).2) (clE l) (text.drop (lonF (datE c).Entries text)) (text.take (lonF (datE c).Entries text)) [] 0 = q at *
  obtain ⟨i1, i2, _⟩ := hinv
  rw [List.length_take, Nat.min_eq_left hle] at i1 i2
  rw [List.length_drop] at i2
  simp only [List.length_nil] at i2
  constructor
  · show (1 : Int) ≤ (q.1.length : Int); omega
  · show (q.1.length : Int) + (q.2.length : Int) = _; omega
theorem st_lt {c : Collation} {l : List Span} {text : List Int} (h0 : text ≠ []) : (stE c l text).2.1.length < text.length := by
 have := st_len (c := c) (l := l) h0
 omega
theorem st_el {c : Collation} (hs : Sm c) {l : List Span} (text : List Int) : (stE c l text).2.2.length ≤ 1000 := by
 unfold stE
 split
 · exact imp_len _ _
 · exact fin_len (dat_vd hs) _
theorem clsOf_us (n : Norm) : clsOf n = (usN n).Classes := by
 unfold clsOf usN
 split <;> rfl
end Go.M
namespace Go.M
open Go.AV
end Go.M
namespace Go.M
open Go.AV
theorem refHg (a0 : List Span) (v6 : Nat) (hv : v6 < a0.length) (H : List Range) (hH : H = [{ Lo := 4352, Hi := 4370 }, { Lo := 4449, Hi := 4469 }, { Lo := 4520, Hi := 4546 }, { Lo := 44032, Hi := 55203 }]) :
    (loopM (fun (x : Int) => ref20_Check_L3 H a0 (v6 : Int) x) 0 = some (.inl ()) ∧ hgOk (nth a0 v6)) ∨ (loopM (fun (x : Int) => ref20_Check_L3 H a0 (v6 : Int) x) 0 = some (.inr 11) ∧ ¬ hgOk (nth a0 v6)) := by
  have h := loop_ver0 (body := fun (x : Int) => ref20_Check_L3 H a0 (v6 : Int) x) H.length (fun k => ¬ ((nth a0 v6).Lo ≤ (nth H k).Hi ∧ (nth H k).Lo ≤ (nth a0 v6).Hi)) (fun y => y = 11) (fun k hk => by
    have hl : H.length = 4 := by rw [hH]; rfl
    simp only [ref20_Check_L3, lt_t hk, cond_true, idx_nth hv, idx_nth hk, some_bind, pv_bind, wi_succ (k := k) (by omega)]
    by_cases h1 : (nth a0 v6).Lo ≤ (nth H k).Hi
    · simp only [h1, decide_true, gM_t, some_bind, Bool.true_and, true_and]
      exact ver_if (by simp) rfl
    · simp only [h1, decide_false, gM_f, some_bind, Bool.false_and, cond_false, false_and]
      exact .inl ⟨by simp, trivial⟩) (fun k hk => by simp only [ref20_Check_L3, lt_f hk, cond_false])
  have e : (∀ j, j < H.length → ¬ ((nth a0 v6).Lo ≤ (nth H j).Hi ∧ (nth H j).Lo ≤ (nth a0 v6).Hi)) ↔ hgOk (nth a0 v6) := by
    subst hH
    unfold hgOk
    constructor
    · intro h; exact ⟨h 0 (by decide), h 1 (by decide), h 2 (by decide), h 3 (by decide)⟩
    · rintro ⟨h0, h1, h2, h3⟩ j hj
      have hj' : j < 4 := hj
      match j, hj' with
      | 0, _ => exact h0
      | 1, _ => exact h1
      | 2, _ => exact h2
      | 3, _ => exact h3
  rw [e] at h
  rcases h with h | ⟨y, rfl, h⟩
  · exact .inl h
  · exact .inr h
theorem refOrd {l : List Span} (hl : l.length ≤ 1000) : Ver (ref20_Check l) (CV l) := by
 have h0 := loop_ver0 (body := fun (x : Int) => ref20_Check_L0 l x) l.length (fun k => spOk (nth l k)) (fun y => y ≠ 0) (fun k hk => by
  simp only [ref20_Check_L0, lt_t hk, cond_true, idx_nth hk, some_bind, pv_bind, refvalid_eq, wi_succ (k := k) (by omega), spOk, vld]
  generalize nth l k = q
  by_cases h1 : 0 ≤ q.Lo <;> by_cases h2 : q.Lo ≤ 1114111 <;> by_cases h3 : 0 ≤ q.Hi <;> by_cases h4 : q.Hi ≤ 1114111 <;> by_cases h5 : q.Hi < q.Lo <;> by_cases h6 : q.Value < 1 <;> by_cases h7 : 254 < q.Value <;> simp [h1, h2, h3, h4, h5, h6, h7, gM_t, gM_f, some_bind] <;> omega) (fun k hk => by simp only [ref20_Check_L0, lt_f hk, cond_false])
 unfold ref20_Check Ver
 rcases h0 with ⟨h0, p0⟩ | ⟨y, hy, h0, p0⟩
 ·
  rw [h0]
  simp only [some_bind, Sum.elim_inl]
  have h1 := loop_ver1 (body := fun (x : Int) => ref20_Check_L1 l x) l.length (fun k => adOk (nth l k) (nth l (k + 1))) (fun y => y ≠ 0) (fun k hk => by
   have hk' : k < l.length := by omega
   have w := (p0 k hk').2.1
   have w0 := (p0 k hk').1
   have w1 := (p0 k hk').2.2.1
   simp only [ref20_Check_L1, lt_t hk, cond_true, idx_nth hk, some_bind, pv_bind, wi_succ (k := k + 1) (by omega), wi_pred (k := k) (by omega), idx_nth hk']
   by_cases a1 : (nth l (k + 1)).Lo ≤ (nth l k).Hi
   ·
    simp only [a1, decide_true, Bool.not_true, gM_f, some_bind, Bool.false_and, Bool.true_or, cond_true]
    exact .inr ⟨by unfold adOk; omega, 4, by decide, rfl⟩
   ·
    simp only [a1, decide_false, Bool.not_false, gM_t, some_bind, Bool.true_and, Bool.false_or]
    rw [wi_id (n := (nth l k).Hi + 1) (by omega) (by omega)]
    by_cases a2 : (nth l (k + 1)).Lo = (nth l k).Hi + 1
    ·
     simp only [a2, decide_true, gM_t, some_bind, Bool.true_and]
     exact ver_if (by unfold adOk; simp only [decide_eq_true_eq]; omega) (by decide)
    ·
     simp only [a2, decide_false, gM_f, some_bind, Bool.false_and, cond_false]
     exact .inl ⟨by unfold adOk; omega, trivial⟩) (fun k hk => by simp only [ref20_Check_L1, lt_f hk, cond_false])
  rcases h1 with ⟨h1, p1⟩ | ⟨y, hy, h1, p1⟩
  ·
   rw [h1]
   simp only [some_bind, Sum.elim_inl, ref20_hangul]
   have h2 := loop_ver0 (body := fun (x : Int) => ref20_Check_L2 l [{ Lo := 4352, Hi := 4370 }, { Lo := 4449, Hi := 4469 }, { Lo := 4520, Hi := 4546 }, { Lo := 44032, Hi := 55203 }] x) l.length (fun k => hgOk (nth l k)) (fun y => y ≠ 0) (fun k hk => by
    simp only [ref20_Check_L2, lt_t hk, cond_true, wi_succ (k := k) (by omega)]
    rcases refHg l k hk _ rfl with ⟨h, p⟩ | ⟨h, p⟩
    · rw [h]; exact .inl ⟨p, rfl⟩
    · rw [h]; exact .inr ⟨p, 11, by decide, rfl⟩) (fun k hk => by simp only [ref20_Check_L2, lt_f hk, cond_false])
   rcases h2 with ⟨h2, p2⟩ | ⟨y, hy, h2, p2⟩
   · rw [h2]; exact ⟨0, rfl, by simp only [true_iff]; exact ⟨p0, p1, p2⟩⟩
   · rw [h2]; exact ⟨y, rfl, by simp only [hy, false_iff]; exact fun h => p2 h.hg⟩
  · rw [h1]; exact ⟨y, rfl, by simp only [hy, false_iff]; exact fun h => p1 h.ad⟩
 · rw [h0]; exact ⟨y, rfl, by simp only [hy, false_iff]; exact fun h => p0 h.sp⟩
theorem refClass {l : List Span} (hl : l.length ≤ 1000) (h : CV l) (c : Int) : ref20_Class l c = some (clE l c) := by
 obtain ⟨e, he, hp⟩ := refOrd hl
 unfold ref20_Class
 rw [he, some_bind, hp.2 h]
 simp only [decide_true, Bool.not_true, cond_false]
 have hb : ∀ k, k < l.length → ref20_Class_L0 l c (k : Int) = if inSp c (nth l k) then some (.done (.inr (nth l k).Value)) else some (.next ((k + 1 : Nat) : Int)) := fun k hk => by
  simp only [ref20_Class_L0, lt_t hk, cond_true, idx_nth hk, some_bind, pv_bind, wi_succ (k := k) (by omega), inSp]
  by_cases h1 : (nth l k).Lo ≤ c
  · by_cases h2 : c ≤ (nth l k).Hi <;> simp [h1, h2, gM_t]
  · simp [h1, gM_f]
 have key : ∀ (d k : Nat), l.length - k = d → k ≤ l.length → (∀ j, j < k → inSp c (nth l j) = false) → (loopM (fun (x : Int) => ref20_Class_L0 l c x) (k : Int)).bind (fun y => y.elim (fun _ => some 0) fun y => some y) = some (clE l c) := by
  intro d
  induction d with
  | zero =>
   intro k h1 h2 h3
   have : k = l.length := by omega
   subst this
   rw [loopM_done (y := .inl ()) (by simp only [ref20_Class_L0, lt_f (Nat.le_refl _), cond_false])]
   unfold clE
   rw [find_no h3]
   rfl
  | succ d ih =>
   intro k h1 h2 h3
   have hk : k < l.length := by omega
   cases hi : inSp c (nth l k) with
   | true =>
    rw [loopM_done (y := .inr (nth l k).Value) (by show ref20_Class_L0 l c (k : Int) = _; rw [hb k hk, hi]; rfl)]
    unfold clE
    rw [find_at hk h3 hi]
    rfl
   | false =>
    rw [loopM_next (x' := ((k + 1 : Nat) : Int)) (by show ref20_Class_L0 l c (k : Int) = _; rw [hb k hk, hi]; rfl)]
    refine ih (k + 1) (by omega) (by omega) fun j hj => ?_
    by_cases e : j = k
    · subst e; exact hi
    · exact h3 j (by omega)
 exact key l.length 0 (by omega) (by omega) (fun j hj => by omega)
theorem refStarter {l : List Span} (hl : l.length ≤ 1000) (h : CV l) (c : Int) : ref20_Starter l c = some (decide (clE l c = 0)) := by
 unfold ref20_Starter
 rw [refClass hl h]
 rfl
end Go.M
namespace Go.M
open Go.AV
theorem mlt_tr {a b c : Mapping} (h1 : mlt a b) (h2 : mlt b c) : mlt a c := by
 unfold mlt at *
 rcases h1 with h1 | ⟨h1, t1⟩
 ·
  rcases h2 with h2 | ⟨h2, t2⟩
  · exact .inl (by omega)
  · exact .inl (by omega)
 ·
  rcases h2 with h2 | ⟨h2, t2⟩
  · exact .inl (by omega)
  · exact .inr ⟨by omega, List.lt_trans t1 t2⟩
theorem mlt_irr {a b : Mapping} (h : mlt a b) : ¬ (a.From = b.From ∧ a.Tag = b.Tag) := by
 rintro ⟨h1, h2⟩
 unfold mlt at h
 rcases h with h | ⟨_, h⟩
 · omega
 · rw [h2] at h; exact List.lt_irrefl _ h
theorem mlt_all {l : List Mapping} (h : ∀ k, k + 1 < l.length → mlt (nth l k) (nth l (k + 1))) : ∀ (d i : Nat), i + d + 1 < l.length → mlt (nth l i) (nth l (i + d + 1))
 | 0, i, hi => h i hi
 | d + 1, i, hi => by
  have h1 := mlt_all h d i (by omega)
  have h3 := h (i + d + 1) (by omega)
  have : i + (d + 1) + 1 = i + d + 1 + 1 := by omega
  rw [this]
  exact mlt_tr h1 h3
theorem bstr (x y : Str) : (x == y) = decide (x = y) := by
 rw [Bool.eq_iff_iff]; simp
section
variable {l : List Mapping} (hl : l.length ≤ 1000) (hto : ∀ m ∈ l, m.To.length ≤ 1000) (htg : ∀ m ∈ l, m.Tag.length ≤ MX)
include hl hto htg
omit hl hto htg in
theorem refCodes {m : Mapping} (hm : m.To.length ≤ 1000) : ∃ b, ref11_codes m = some b ∧ (b = true ↔ codesOk m) := by
 unfold ref11_codes
 have h := loop_ver0 (body := fun (x : Int) => ref11_codes_L0 m x) m.To.length (fun j => vld (nth m.To j) = true) (fun y => y = false) (fun j hj => by
  simp only [ref11_codes_L0, lt_t hj, cond_true, idx_nth hj, some_bind, refvalid_eq, wi_succ (k := j) (by omega)]
  exact ver_if (by simp) rfl) (fun j hj => by simp only [ref11_codes_L0, lt_f hj, cond_false])
 rw [all_nth (p := fun c => vld c = true)] at h
 rcases h with ⟨h, p⟩ | ⟨y, rfl, h, p⟩
 ·
  rw [h]
  simp only [some_bind, Sum.elim_inl, refvalid_eq]
  exact ⟨_, rfl, ⟨fun a => ⟨a, p⟩, fun a => a.1⟩⟩
 · rw [h]; exact ⟨false, rfl, by simp only [Bool.false_eq_true, false_iff]; exact fun a => p a.2⟩
omit hto htg in
theorem refTwice : ∃ b, ref11_twice l = some b ∧ (b = true → ¬ ∀ k, k + 1 < l.length → mlt (nth l k) (nth l (k + 1))) ∧ (b = false → True) := by
 unfold ref11_twice
 have inner : ∀ i, i < l.length → (loopM (fun (x : Int) => ref11_twice_L1 (i : Int) l x) 0 = some (.inl ()) ∧ ∀ j, j < i → ¬ ((nth l i).From = (nth l j).From ∧ (nth l i).Tag = (nth l j).Tag)) ∨ (∃ y, y = true ∧ loopM (fun (x : Int) => ref11_twice_L1 (i : Int) l x) 0 = some (.inr y) ∧ ¬ ∀ j, j < i → ¬ ((nth l i).From = (nth l j).From ∧ (nth l i).Tag = (nth l j).Tag)) := by
  intro i hi
  refine loop_ver0 (body := fun (x : Int) => ref11_twice_L1 (i : Int) l x) i _ (fun y => y = true) (fun j hj => ?_) (fun j hj => by simp only [ref11_twice_L1, lt_f hj, cond_false])
  have hj' : j < l.length := by omega
  simp only [ref11_twice_L1, lt_t hj, cond_true, idx_nth hi, idx_nth hj', some_bind, pv_bind, wi_succ (k := j) (by omega), bstr]
  by_cases a : (nth l i).From = (nth l j).From
  ·
   simp only [a, decide_true, gM_t, some_bind, Bool.true_and, true_and]
   exact ver_if (by simp) rfl
  ·
   simp only [a, decide_false, gM_f, some_bind, Bool.false_and, cond_false, false_and]
   exact .inl ⟨by simp, trivial⟩
 have h := loop_ver0 (body := fun (x : Int) => ref11_twice_L0 l x) l.length (fun i => ∀ j, j < i → ¬ ((nth l i).From = (nth l j).From ∧ (nth l i).Tag = (nth l j).Tag)) (fun y => y = true) (fun k hk => by
  simp only [ref11_twice_L0, lt_t hk, cond_true, wi_succ (k := k) (by omega)]
  rcases inner k hk with ⟨h, p⟩ | ⟨y, hy, h, p⟩
  · rw [h]; exact .inl ⟨p, rfl⟩
  · rw [h]; exact .inr ⟨p, y, hy, rfl⟩) (fun j hj => by simp only [ref11_twice_L0, lt_f hj, cond_false])
 rcases h with ⟨h, p⟩ | ⟨y, rfl, h, p⟩
 · rw [h]; exact ⟨false, rfl, fun h => (by cases h), fun _ => trivial⟩
 ·
  rw [h]
  refine ⟨true, rfl, fun _ hh => p fun i hi j hj => ?_, fun _ => trivial⟩
  have := mlt_all hh (i - j - 1) j (by omega)
  rw [show j + (i - j - 1) + 1 = i by omega] at this
  have := mlt_irr this
  exact fun ⟨a, b⟩ => this ⟨a.symm, b.symm⟩
theorem refUns : ∃ e, ref11_unsorted l = some e ∧ (e = 0 → (∀ m ∈ l, codesOk m) ∧ (∀ m ∈ l, m.To.length ≤ 64) ∧ ∀ m ∈ l, tagOk m) ∧ (e ≠ 0 → ¬ MV l) := by
 unfold ref11_unsorted
 have h0 := loop_ver0 (body := fun (x : Int) => ref11_unsorted_L0 l x) l.length (fun k => codesOk (nth l k)) (fun y => y ≠ 0) (fun k hk => by
  obtain ⟨b, hb, hp⟩ := refCodes (hto _ (nth_mem hk))
  simp only [ref11_unsorted_L0, lt_t hk, cond_true, idx_nth hk, some_bind, hb, wi_succ (k := k) (by omega)]
  exact ver_if (by rw [← hp]; simp) (by decide)) (fun k hk => by simp only [ref11_unsorted_L0, lt_f hk, cond_false])
 rw [all_nth (p := codesOk)] at h0
 rcases h0 with ⟨h0, p0⟩ | ⟨y, hy, h0, p0⟩
 case inr => rw [h0]; exact ⟨y, rfl, fun h => absurd h hy, fun _ h => p0 h.co⟩
 rw [h0]
 simp only [some_bind, Sum.elim_inl]
 have h1 := loop_ver0 (body := fun (x : Int) => ref11_unsorted_L1 l x) l.length (fun k => (nth l k).To.length ≤ 64) (fun y => y ≠ 0) (fun k hk => by
  simp only [ref11_unsorted_L1, lt_t hk, cond_true, idx_nth hk, some_bind, wi_succ (k := k) (by omega)]
  exact ver_if (by simp only [decide_eq_true_eq]; omega) (by decide)) (fun k hk => by simp only [ref11_unsorted_L1, lt_f hk, cond_false])
 rw [all_nth (p := fun (m : Mapping) => m.To.length ≤ 64)] at h1
 rcases h1 with ⟨h1, p1⟩ | ⟨y, hy, h1, p1⟩
 case inr => rw [h1]; exact ⟨y, rfl, fun h => absurd h hy, fun _ h => p1 h.sz⟩
 rw [h1]
 simp only [some_bind, Sum.elim_inl]
 have h2 := loop_ver0 (body := fun (x : Int) => ref11_unsorted_L2 l x) l.length (fun k => tagOk (nth l k)) (fun y => y ≠ 0) (fun k hk => by
  simp only [ref11_unsorted_L2, lt_t hk, cond_true, idx_nth hk, some_bind, pv_bind, wi_succ (k := k) (by omega), tagOk, bstr]
  by_cases ht : (nth l k).Tag = []
  ·
   simp only [ht, decide_true, Bool.not_true, gM_f, some_bind, Bool.false_and, cond_false]
   exact .inl ⟨.inl trivial, trivial⟩
  ·
   simp only [ht, decide_false, Bool.not_false, gM_t, some_bind, Name_eq (htg _ (nth_mem hk)), Bool.true_and, false_or]
   exact ver_if (by simp) (by decide)) (fun k hk => by simp only [ref11_unsorted_L2, lt_f hk, cond_false])
 rw [all_nth (p := tagOk)] at h2
 rcases h2 with ⟨h2, p2⟩ | ⟨y, hy, h2, p2⟩
 case inr => rw [h2]; exact ⟨y, rfl, fun h => absurd h hy, fun _ h => p2 h.tg⟩
 rw [h2]
 simp only [some_bind, Sum.elim_inl]
 obtain ⟨b, hb, hp, _⟩ := refTwice hl
 rw [hb, some_bind]
 cases b with
 | true => exact ⟨5, rfl, fun h => absurd h (by decide), fun _ h => hp rfl h.lt⟩
 | false => exact ⟨0, rfl, fun _ => ⟨p0, p1, p2⟩, fun h => absurd rfl h⟩
theorem refMap : Ver (ref11_Check l) (MV l) := by
 obtain ⟨e, he, h0, h1⟩ := refUns hl hto htg
 unfold ref11_Check
 rw [he, some_bind]
 by_cases hz : e = 0
 case neg =>
  have : (!decide (e = 0)) = true := by simp [hz]
  rw [this, cond_true]
  exact ⟨e, rfl, by simp only [hz, false_iff]; exact h1 hz⟩
 obtain ⟨p0, p1, p2⟩ := h0 hz
 rw [hz]
 simp only [decide_true, Bool.not_true, cond_false]
 have h3 := loop_ver1 (body := fun (x : Int) => ref11_Check_L0 l x) l.length (fun k => mlt (nth l k) (nth l (k + 1))) (fun y => y ≠ 0) (fun k hk => by
  have hk' : k < l.length := by omega
  simp only [ref11_Check_L0, lt_t hk, cond_true, idx_nth hk, some_bind, wi_succ (k := k + 1) (by omega), wi_pred (k := k) (by omega), idx_nth hk', ref11_before, pv_bind, bl_lt]
  exact ver_if (by unfold mlt; simp only [Bool.not_eq_true', Bool.or_eq_false_iff, Bool.and_eq_false_iff, decide_eq_false_iff_not, not_or, Classical.not_and_iff_not_or_not]) (by decide)) (fun k hk => by simp only [ref11_Check_L0, lt_f hk, cond_false])
 rcases h3 with ⟨h3, p3⟩ | ⟨y, hy, h3, p3⟩
 · rw [h3]; exact ⟨0, rfl, by simp only [true_iff]; exact ⟨p0, p1, p2, p3⟩⟩
 · rw [h3]; exact ⟨y, rfl, by simp only [hy, false_iff]; exact fun h => p3 h.lt⟩
end
end Go.M
namespace Go.M
open Go.AV
section
variable {β : Type} [Inhabited β] (upd : List β → Nat → β)
def pasF : Nat → Nat → List β → List β
 | 0, _, out => out
 | d + 1, i, out => pasF d (i + 1) (out.set i (upd out i))
def rndF (n : Nat) : Nat → List β → List β
 | 0, out => out
 | k + 1, out => rndF n k (pasF upd n 0 out)
end
section
variable {β : Type} [Inhabited β] {upd : List β → Nat → β} {n : Nat} {Inv : List β → Prop}
theorem nth_set {out : List β} {i j : Nat} {x : β} (hi : i < out.length) : nth (out.set i x) j = if j = i then x else nth out j := by
 unfold nth
 rw [List.getD_eq_getElem?_getD, List.getD_eq_getElem?_getD, List.getElem?_set]
 by_cases h : i = j
 · subst h; simp [hi]
 · rw [if_neg h, if_neg (fun e => h e.symm)]
omit [Inhabited β] in
theorem pas_len : ∀ (d i : Nat) (out : List β), (pasF upd d i out).length = out.length
 | 0, _, _ => rfl
 | d + 1, i, out => by rw [pasF, pas_len d]; simp
omit [Inhabited β] in
theorem pas_inv (hi : ∀ i out, i < n → out.length = n → Inv out → Inv (out.set i (upd out i))) : ∀ (d i : Nat) (out : List β), i + d = n → out.length = n → Inv out → Inv (pasF upd d i out)
 | 0, _, _, _, _, h => h
 | d + 1, i, out, hd, hl, h => by
  rw [pasF]
  exact pas_inv hi d (i + 1) _ (by omega) (by simp [hl]) (hi i out (by omega) hl h)
omit [Inhabited β] in
theorem rnd_inv (hi : ∀ i out, i < n → out.length = n → Inv out → Inv (out.set i (upd out i))) : ∀ (k : Nat) (out : List β), out.length = n → Inv out → Inv (rndF upd n k out) ∧ (rndF upd n k out).length = n
 | 0, _, hl, h => ⟨h, hl⟩
 | k + 1, out, hl, h => by
  rw [rndF]
  exact rnd_inv hi k _ (by rw [pas_len, hl]) (pas_inv hi n 0 out (by omega) hl h)
theorem pas_ok {R R' : Nat → Prop} {t : Nat → β} (hm : ∀ j, R j → R' j) (hi : ∀ i out, i < n → out.length = n → Inv out → Inv (out.set i (upd out i)))
    (hs : ∀ out i, i < n → out.length = n → Inv out → (∀ j, j < n → R j → nth out j = t j) → R' i → upd out i = t i) :
    ∀ (d i : Nat) (out : List β), i + d = n → out.length = n → Inv out → (∀ j, j < n → R j → nth out j = t j) → (∀ j, j < i → R' j → nth out j = t j) → ∀ j, j < n → R' j → nth (pasF upd d i out) j = t j
  | 0, i, out, hd, hl, h, h1, h2, j, hj, hr => h2 j (by omega) hr
  | d + 1, i, out, hd, hl, h, h1, h2, j, hj, hr => by
    have hin : i < n := by omega
    have hu : R' i → upd out i = t i := hs out i hin hl h h1
    rw [pasF]
    refine pas_ok hm hi hs d (i + 1) _ (by omega) (by simp [hl]) (hi i out hin hl h) (fun j hj hr => ?_) (fun j hj hr => ?_) j hj hr
    · rw [nth_set (by omega)]
      split
      · rename_i e; subst e; exact hu (hm _ hr)
      · exact h1 j hj hr
    · rw [nth_set (by omega)]
      split
      · rename_i e; subst e; exact hu hr
      · exact h2 j (by omega) hr
theorem rnd_ok {R : Nat → Nat → Prop} {t : Nat → β} (hm : ∀ r j, R r j → R (r + 1) j) (hi : ∀ i out, i < n → out.length = n → Inv out → Inv (out.set i (upd out i)))
    (hs : ∀ r out i, i < n → out.length = n → Inv out → (∀ j, j < n → R r j → nth out j = t j) → R (r + 1) i → upd out i = t i) :
    ∀ (k r : Nat) (out : List β), out.length = n → Inv out → (∀ j, j < n → R r j → nth out j = t j) → ∀ j, j < n → R (r + k) j → nth (rndF upd n k out) j = t j
  | 0, _, _, _, _, h, j, hj, hr => h j hj hr
  | k + 1, r, out, hl, h, h1, j, hj, hr => by
    rw [rndF]
    have := pas_ok (R := R r) (R' := R (r + 1)) (hm r) hi (hs r) n 0 out (by omega) hl h h1 (fun j hj => by omega)
    refine rnd_ok hm hi hs k (r + 1) _ (by rw [pas_len, hl]) (pas_inv hi n 0 out (by omega) hl h) this j hj ?_
    rw [show r + 1 + k = r + (k + 1) by omega]; exact hr
omit [Inhabited β] in
theorem pas_loop {X Y : Type} (mk : Nat → List β → X) {body : X → Option (Stp X Y)} (fin : List β → Y)
    (hb : ∀ i out, i < n → out.length = n → Inv out → body (mk i out) = some (.next (mk (i + 1) (out.set i (upd out i)))))
    (hi : ∀ i out, i < n → out.length = n → Inv out → Inv (out.set i (upd out i)))
    (he : ∀ out, body (mk n out) = some (.done (fin out))) : ∀ (d i : Nat) (out : List β), i + d = n → out.length = n → Inv out → loopM body (mk i out) = some (fin (pasF upd d i out))
  | 0, i, out, hd, hl, h => by
    have : i = n := by omega
    subst this
    exact loopM_done (he out)
  | d + 1, i, out, hd, hl, h => by
    rw [loopM_next (hb i out (by omega) hl h), pasF]
    exact pas_loop mk fin hb hi he d (i + 1) _ (by omega) (by simp [hl]) (hi i out (by omega) hl h)
omit [Inhabited β] in
theorem rnd_loop {X Y : Type} (mk : Nat → List β → X) {body : X → Option (Stp X Y)} (fin : List β → Y) {N : Nat}
    (hb : ∀ r out, r < N → out.length = n → Inv out → body (mk r out) = some (.next (mk (r + 1) (pasF upd n 0 out))))
    (hi : ∀ i out, i < n → out.length = n → Inv out → Inv (out.set i (upd out i)))
    (he : ∀ out, body (mk N out) = some (.done (fin out))) : ∀ (k r : Nat) (out : List β), r + k = N → out.length = n → Inv out → loopM body (mk r out) = some (fin (rndF upd n k out))
  | 0, r, out, hd, hl, h => by
    have : r = N := by omega
    subst this
    exact loopM_done (he out)
  | k + 1, r, out, hd, hl, h => by
    rw [loopM_next (hb r out (by omega) hl h), rndF]
    exact rnd_loop mk fin hb hi he k (r + 1) _ (by omega) (by rw [pas_len, hl]) (pas_inv hi n 0 out (by omega) hl h)
end
theorem chk_some {A Y : Type} {p : Nat → A → Option Y} : ∀ {l : List A} {k : Nat} {y : Y}, chk p l k = some y → ∃ j, ∃ h : j < l.length, p (k + j) l[j] = some y
 | [], _, _, h => by cases h
 | x :: l, k, y, h => by
  unfold chk at h
  cases hp : p k x with
  | some z =>
   rw [hp] at h
   exact ⟨0, by simp, by simpa [hp] using h⟩
  | none =>
   rw [hp] at h
   obtain ⟨j, hj, e⟩ := chk_some h
   exact ⟨j + 1, by simpa using hj, by rw [show k + (j + 1) = k + 1 + j by omega]; simpa using e⟩
theorem chk_first {A Y : Type} {p : Nat → A → Option Y} : ∀ {l : List A} {k j : Nat} (h : j < l.length), p (k + j) l[j] ≠ none → ∃ i, ∃ hi : i < l.length, i ≤ j ∧ chk p l k = p (k + i) l[i]
 | [], _, _, h, _ => by cases h
 | x :: l, k, j, h, hp => by
  unfold chk
  cases hx : p k x with
  | some z => exact ⟨0, by simp, Nat.zero_le _, by simp [hx]⟩
  | none =>
   cases j with
   | zero => exact absurd (by simpa using hx) hp
   | succ j =>
    obtain ⟨i, hi, hij, e⟩ := chk_first (p := p) (l := l) (k := k + 1) (j := j) (by simpa using h) (by rw [show k + 1 + j = k + (j + 1) by omega]; simpa using hp)
    exact ⟨i + 1, by simpa using hi, by omega, by rw [show k + (i + 1) = k + 1 + i by omega]; simpa using e⟩
def pM (c : Int) (b : Bool) (k : Nat) (m : Mapping) : Option Nat := if m.From = c ∧ (b || (m.Tag == [])) = true then some k else none
def fi (l : List Mapping) (c : Int) (b : Bool) : Option Nat := chk (pM c b) l 0
theorem fi_some {l : List Mapping} {c : Int} {b : Bool} {i : Nat} (h : fi l c b = some i) : i < l.length ∧ (nth l i).From = c ∧ (b || ((nth l i).Tag == [])) = true := by
 obtain ⟨j, hj, e⟩ := chk_some h
 unfold pM at e
 split at e
 ·
  rename_i hp
  injection e with e
  have : i = j := by omega
  subst this
  rw [nth_eq hj]
  exact ⟨hj, hp⟩
 · cases e
theorem fi_none {l : List Mapping} {c : Int} {b : Bool} (h : fi l c b = none) : ∀ m ∈ l, ¬ (m.From = c ∧ (b || (m.Tag == [])) = true) := by
 intro m hm hp
 obtain ⟨j, hj, rfl⟩ := List.getElem_of_mem hm
 have := chk_none h j hj
 unfold pM at this
 rw [if_pos hp] at this
 cases this
theorem fi_fn {l : List Mapping} (hd : DS l) (c : Int) (b : Bool) : (∃ i, fi l c b = some i ∧ i < l.length ∧ (nth l i).From = c ∧ fnB l b c = some (nth l i).To) ∨ (fi l c b = none ∧ fnB l b c = none) := by
 cases hf : fi l c b with
 | some i =>
  obtain ⟨h1, h2, h3⟩ := fi_some hf
  refine .inl ⟨i, rfl, h1, h2, ?_⟩
  have := from_find hd (nth_mem h1)
  rw [h2] at this
  unfold fnB
  rw [this]
  simp only [h3, if_true]
 | none =>
  refine .inr ⟨rfl, ?_⟩
  cases hn : fnB l b c with
  | none => rfl
  | some to =>
   obtain ⟨m, h1, _, h3⟩ := fnB_some hn
   obtain ⟨h4, h5⟩ := fd_from h1
   exact absurd ⟨h5, h3⟩ (fi_none hf m h4)
def fiI (l : List Mapping) (c : Int) (b : Bool) : Int := match fi l c b with
 | some i => (i : Int)
 | none => -1
end Go.M
namespace Go.M
open Go.AV
section
variable {l : List Mapping} (hd : DS l)
def updE (l : List Mapping) (out : List Bool) (i : Nat) : Bool := (nth l i).To.all fun e => match fi l e true with
 | some m => nth out m
 | none => true
def InvE (l : List Mapping) (out : List Bool) : Prop := ∀ j, j < l.length → nth out j = true → WW l (nth l j).From
include hd
theorem updE_ww {out : List Bool} (h : InvE l out) {i : Nat} (hi : i < l.length) (hu : updE l out i = true) : WW l (nth l i).From := by
 refine WW_of fun e he => ?_
 rw [dep_from hd (nth_mem hi)] at he
 have := List.all_eq_true.1 hu e he
 rcases fi_fn hd e true with ⟨m, h1, h2, h3, _⟩ | ⟨h1, h2⟩
 ·
  rw [h1] at this
  have := h m h2 this
  rw [h3] at this; exact this
 ·
  cases hs : syl e with
  | true => exact WW_syl hd hs
  | false =>
   refine WW_leaf ?_
   unfold dep
   rw [if_neg (by simp [hs])]
   rw [fnB_true] at h2
   cases hf : l.find? (isF e) with
   | none => rfl
   | some m => rw [hf] at h2; cases h2
theorem invE_step (i : Nat) (out : List Bool) (hi : i < l.length) (hl : out.length = l.length) (h : InvE l out) : InvE l (out.set i (updE l out i)) := by
 intro j hj hn
 rw [nth_set (by omega)] at hn
 split at hn
 · rename_i e; subst e; exact updE_ww hd h hi hn
 · exact h j hj hn
theorem updE_ok (r : Nat) (out : List Bool) (i : Nat) (hi : i < l.length) (_hl : out.length = l.length) (h1 : ∀ j, j < l.length → DD l r (nth l j).From → nth out j = true) (hr : DD l (r + 1) (nth l i).From) : updE l out i = true := by
 refine List.all_eq_true.2 fun e he => ?_
 have := hr (nth l i) (from_find hd (nth_mem hi)) e he
 rcases fi_fn hd e true with ⟨m, e1, e2, e3, _⟩ | ⟨e1, _⟩
 ·
  rw [e1]
  exact h1 m e2 (by rw [e3]; exact this)
 · rw [e1]
theorem ends_iff : (∀ j, j < l.length → nth (rndF (updE l) l.length l.length (List.replicate l.length false)) j = true) ↔ ∀ m ∈ l, WW l m.From := by
 have h0 : InvE l (List.replicate l.length false) := by
  intro j hj hn
  rw [nth_eq (by simpa using hj)] at hn
  simp at hn
 constructor
 ·
  intro h
  have hv := (rnd_inv (upd := updE l) (n := l.length) (Inv := InvE l) (invE_step hd) l.length _ (by simp) h0).1
  rw [← all_nth (p := fun m : Mapping => WW l m.From)]
  exact fun k hk => hv k hk (h k hk)
 ·
  intro H j hj
  have hp := DD_pig hd H
  refine rnd_ok (upd := updE l) (n := l.length) (Inv := InvE l) (R := fun r j => j < l.length ∧ DD l r (nth l j).From) (t := fun _ => true) (fun r j h => ⟨h.1, DD_succ h.2⟩) (invE_step hd) (fun r out i hi hl _ h1 hr => updE_ok hd r out i hi hl (fun j hj hr => h1 j hj ⟨hj, hr⟩) hr.2) l.length 0 _ (by simp) h0 (fun j hj hr => ?_) j hj ⟨hj, by rw [Nat.zero_add]; exact hp _ (nth_mem hj)⟩
  have : l.find? (isF (nth l j).From) = none := hr.2
  rw [from_find hd (nth_mem hj)] at this
  cases this
end
section
variable {l : List Mapping} (hd : DS l) (hD : ∀ c, DD l l.length c) {b : Bool}
def lenOf (l : List Mapping) (b : Bool) (out : List Int) (e : Int) : Int := match fi l e b with
 | some m => nth out m
 | none => ((hdE e).length : Int)
def updL (l : List Mapping) (b : Bool) (out : List Int) (i : Nat) : Int := if (b || ((nth l i).Tag == [])) = true then min (max (((nth l i).To.map (lenOf l b out)).sum) 1) 65 else 1
def InvL (out : List Int) : Prop := ∀ x ∈ out, 0 ≤ x ∧ x ≤ 65
theorem updL_bd (out : List Int) (i : Nat) : 0 ≤ updL l b out i ∧ updL l b out i ≤ 65 := by
 unfold updL; split <;> omega
theorem invL_step (i : Nat) (out : List Int) (_hi : i < l.length) (_hl : out.length = l.length) (h : InvL out) : InvL (out.set i (updL l b out i)) := by
 intro x hx
 rcases List.mem_or_eq_of_mem_set hx with hx | rfl
 · exact h x hx
 · exact updL_bd out i
include hd hD
theorem wt_from {i : Nat} (hi : i < l.length) : wt l b (nth l i).From = if (b || ((nth l i).Tag == [])) = true then min (max (((nth l i).To.map (wt l b)).sum) 1) 65 else 1 := by
 rw [wt_eq hD]
 unfold fnB
 rw [from_find hd (nth_mem hi)]
 by_cases ht : (b || ((nth l i).Tag == [])) = true
 · simp only [ht, if_true]
 ·
  have hs := from_syl hd (nth_mem hi)
  have e1 : hdE (nth l i).From = [(nth l i).From] := by unfold hdE; rw [if_neg (by simp [hs])]
  rw [if_neg ht]
  simp only [e1]
  rw [if_neg ht]
  rfl
omit hD in
theorem lenOf_ok {out : List Int} {e : Int} (hD' : fnB l b e = none → wt l b e = ((hdE e).length : Int)) (h : ∀ m, m < l.length → (nth l m).From = e → nth out m = wt l b e) : lenOf l b out e = wt l b e := by
 unfold lenOf
 rcases fi_fn hd e b with ⟨m, e1, e2, e3, _⟩ | ⟨e1, e2⟩
 · rw [e1]; exact h m e2 e3
 · rw [e1, hD' e2]
theorem updL_ok (r : Nat) (out : List Int) (i : Nat) (hi : i < l.length) (h1 : ∀ j, j < l.length → DD l r (nth l j).From → nth out j = wt l b (nth l j).From) (hr : DD l (r + 1) (nth l i).From) : updL l b out i = wt l b (nth l i).From := by
  rw [wt_from hd hD hi]
  unfold updL
  split
  · have : (nth l i).To.map (lenOf l b out) = (nth l i).To.map (wt l b) := List.map_congr_left fun e he => by
      have hde := hr (nth l i) (from_find hd (nth_mem hi)) e he
      exact lenOf_ok hd (fun hn => by rw [wt_eq hD, hn]) fun m hm hf => by rw [← hf]; exact h1 m hm (by rw [hf]; exact hde)
    rw [this]
  · rfl
theorem lens_ok (j : Nat) (hj : j < l.length) : nth (rndF (updL l b) l.length l.length (List.replicate l.length 0)) j = wt l b (nth l j).From := by
 have h0 : InvL (List.replicate l.length 0) := fun x hx => by rw [(List.mem_replicate.1 hx).2]; omega
 refine rnd_ok (upd := updL l b) (n := l.length) (Inv := InvL) (R := fun r j => j < l.length ∧ DD l r (nth l j).From) (t := fun j => wt l b (nth l j).From) (fun r j h => ⟨h.1, DD_succ h.2⟩) invL_step (fun r out i hi hl _ h1 hr => updL_ok hd hD r out i hi (fun j hj hr => h1 j hj ⟨hj, hr⟩) hr.2) l.length 0 _ (by simp) h0 (fun j hj hr => ?_) j hj ⟨hj, by rw [Nat.zero_add]; exact hD _⟩
 have : l.find? (isF (nth l j).From) = none := hr.2
 rw [from_find hd (nth_mem hj)] at this
 cases this
end
end Go.M
namespace Go.M
open Go.AV
def plF (n : Int) : Bool → List Int → Bool × List Int
 | true, l => (true, l)
 | false, [] => (false, [])
 | false, x :: l => if n ≤ x then (true, if n < x then n :: x :: l else x :: l) else ((plF n false l).1, x :: (plF n false l).2)
def plE (n : Int) : List Int → List Int
 | [] => [n]
 | x :: l => if n ≤ x then (if n < x then n :: x :: l else x :: l) else x :: plE n l
theorem plF_E (n : Int) : ∀ l : List Int, (if (plF n false l).1 = true then (plF n false l).2 else (plF n false l).2 ++ [n]) = plE n l
 | [] => rfl
 | x :: l => by
  have := plF_E n l
  unfold plF plE
  by_cases h : n ≤ x
  · simp [h]
  ·
   simp only [h, if_false]
   rw [← this]
   split <;> simp
theorem place_loop {l : List Int} {n : Int} (hl : l.length ≤ 1000) : ∀ (d k : Nat) (b : Bool) (out : List Int), l.length - k = d → k ≤ l.length → out.length ≤ 2 * k →
    loopM (fun (x : Bool × Int × (List Int)) => ref02_place_L0 l n x.1 x.2.1 x.2.2) (b, (k : Int), out) = some ((plF n b (l.drop k)).1, out ++ (plF n b (l.drop k)).2) := by
  intro d
  induction d with
  | zero =>
    intro k b out h1 h2 h3
    rw [List.drop_of_length_le (show l.length ≤ k by omega)]
    refine loopM_done ?_
    simp only [ref02_place_L0, lt_f (show l.length ≤ k by omega), cond_false]
    cases b <;> simp [plF]
  | succ d ih =>
    intro k b out h1 h2 h3
    have hk : k < l.length := by omega
    have ha : ∀ {o : List Int} (x : Int), o.length ≤ 2 * k + 1 → app o [x] = some (o ++ [x]) := fun {o} x ho => app_ok (by simp; omega)
    rw [List.drop_eq_getElem_cons hk]
    have nx : ∀ (b' : Bool) (o' : List Int), o'.length ≤ 2 * (k + 1) → ref02_place_L0 l n b (k : Int) out = some (.next (b', ((k + 1 : Nat) : Int), o')) → (plF n b' (l.drop (k + 1))).1 = (plF n b (l[k] :: l.drop (k + 1))).1 → o' ++ (plF n b' (l.drop (k + 1))).2 = out ++ (plF n b (l[k] :: l.drop (k + 1))).2 →
        loopM (fun (x : Bool × Int × (List Int)) => ref02_place_L0 l n x.1 x.2.1 x.2.2) (b, (k : Int), out) = some ((plF n b (l[k] :: l.drop (k + 1))).1, out ++ (plF n b (l[k] :: l.drop (k + 1))).2) := by
      intro b' o' ho hb e1 e2
      rw [loopM_next (body := fun (x : Bool × Int × (List Int)) => ref02_place_L0 l n x.1 x.2.1 x.2.2) (x := (b, (k : Int), out)) hb, ih (k + 1) b' o' (by omega) (by omega) ho, e1, e2]
    cases b with
    | true =>
      refine nx true (out ++ [l[k]]) (by simp; omega) ?_ ?_ ?_
      · simp only [ref02_place_L0, lt_t hk, cond_true, pv_bind, Bool.not_true, gM_f, some_bind, Bool.false_and, cond_false, idx_nat hk, ha _ (show out.length ≤ 2 * k + 1 by omega), wi_succ (k := k) (by omega)]
      · simp [plF]
      · simp [plF]
    | false =>
      by_cases h4 : n ≤ l[k]
      · by_cases h5 : n < l[k]
        · refine nx true (out ++ [n] ++ [l[k]]) (by simp; omega) ?_ ?_ ?_
          · simp only [ref02_place_L0, lt_t hk, cond_true, pv_bind, Bool.not_false, gM_t, some_bind, Bool.true_and, idx_nat hk, h4, h5, decide_true, ha _ (show out.length ≤ 2 * k + 1 by omega), ha _ (show (out ++ [n]).length ≤ 2 * k + 1 by simp; omega), wi_succ (k := k) (by omega)]
          · simp [plF, h4]
          · simp [plF, h4, h5]
        · refine nx true (out ++ [l[k]]) (by simp; omega) ?_ ?_ ?_
          · simp only [ref02_place_L0, lt_t hk, cond_true, pv_bind, Bool.not_false, gM_t, some_bind, Bool.true_and, idx_nat hk, h4, h5, decide_true, decide_false, cond_false, ha _ (show out.length ≤ 2 * k + 1 by omega), wi_succ (k := k) (by omega)]
          · simp [plF, h4]
          · simp [plF, h4, h5]
      · refine nx false (out ++ [l[k]]) (by simp; omega) ?_ ?_ ?_
        · simp only [ref02_place_L0, lt_t hk, cond_true, pv_bind, Bool.not_false, gM_t, some_bind, Bool.true_and, idx_nat hk, h4, decide_false, cond_false, ha _ (show out.length ≤ 2 * k + 1 by omega), wi_succ (k := k) (by omega)]
        · simp [plF, h4]
        · simp [plF, h4]
theorem plF_len (n : Int) : ∀ l : List Int, (plF n false l).2.length ≤ l.length + 1
 | [] => by simp [plF]
 | x :: l => by
  have := plF_len n l
  unfold plF
  by_cases h : n ≤ x
  · by_cases h5 : n < x <;> simp [h, h5]
  · simp only [h, if_false, List.length_cons]; omega
theorem place_eq {l : List Int} (hl : l.length ≤ 1000) (n : Int) : ref02_place l n = some (plE n l) := by
 unfold ref02_place
 have h := place_loop (n := n) hl l.length 0 false [] (by omega) (by omega) (by simp)
 have hlen := plF_len n l
 rw [List.drop_zero, List.nil_append] at h
 have h' : loopM (fun (x : Bool × Int × (List Int)) => ref02_place_L0 l n x.1 x.2.1 x.2.2) (false, 0, []) = some ((plF n false l).1, (plF n false l).2) := h
 rw [h', some_bind, ← plF_E]
 cases (plF n false l).1 with
 | true => rfl
 | false => simp only [Bool.not_false, cond_true, app_ok (show (plF n false l).2.length + [n].length ≤ 4294967296 by simp; omega), some_bind]; rfl
def Gd (l : List Int) : Prop := l.Pairwise (· < ·) ∧ ∀ x ∈ l, 0 ≤ x ∧ x ≤ 1114111
theorem plE_mem (n : Int) : ∀ {l : List Int} {x : Int}, x ∈ plE n l → x = n ∨ x ∈ l
 | [], x, h => by simp [plE] at h; exact .inl h
 | y :: l, x, h => by
  unfold plE at h
  split at h
  ·
   split at h
   ·
    rcases List.mem_cons.1 h with h | h
    · exact .inl h
    · exact .inr h
   · exact .inr h
  ·
   rcases List.mem_cons.1 h with h | h
   · exact .inr (by simp [h])
   ·
    rcases plE_mem n h with h | h
    · exact .inl h
    · exact .inr (by simp [h])
theorem plE_asc (n : Int) : ∀ {l : List Int}, l.Pairwise (· < ·) → (plE n l).Pairwise (· < ·)
 | [], _ => by simp [plE]
 | y :: l, h => by
  obtain ⟨h1, h2⟩ := List.pairwise_cons.1 h
  unfold plE
  split
  ·
   split
   ·
    rename_i hn
    refine List.pairwise_cons.2 ⟨fun z hz => ?_, h⟩
    rcases List.mem_cons.1 hz with rfl | hz
    · exact hn
    · have := h1 z hz; omega
   · exact h
  ·
   rename_i hn
   refine List.pairwise_cons.2 ⟨fun z hz => ?_, plE_asc n h2⟩
   rcases plE_mem n hz with rfl | hz
   · omega
   · exact h1 z hz
theorem plE_gd {n : Int} (hn : 0 ≤ n ∧ n ≤ 1114111) {l : List Int} (h : Gd l) : Gd (plE n l) := by
 refine ⟨plE_asc n h.1, fun x hx => ?_⟩
 rcases plE_mem n hx with rfl | hx
 · exact hn
 · exact h.2 x hx
theorem plE_len (n : Int) : ∀ l : List Int, (plE n l).length ≤ l.length + 1
 | [] => by simp [plE]
 | x :: l => by
  have := plE_len n l
  unfold plE
  split
  · split <;> simp
  · simp only [List.length_cons]; omega
theorem plE_end {n : Int} : ∀ {l : List Int}, (∀ x ∈ l, x < n) → plE n l = l ++ [n]
 | [], _ => rfl
 | y :: l, h => by
  have hy := h y (by simp)
  unfold plE
  rw [if_neg (by omega), plE_end fun x hx => h x (by simp [hx])]
  rfl
def cuS (c : List Int) (r : Range) : List Int := if 0 ≤ r.Hi ∧ r.Hi < 1114111 then plE (r.Hi + 1) (if vld r.Lo = true then plE r.Lo c else c) else (if vld r.Lo = true then plE r.Lo c else c)
theorem cuS_len (c : List Int) (r : Range) : (cuS c r).length ≤ c.length + 2 := by
 have h1 := plE_len r.Lo c
 unfold cuS
 split
 ·
  have h2 := plE_len (r.Hi + 1) (if vld r.Lo = true then plE r.Lo c else c)
  split at h2 <;> split <;> simp_all <;> omega
 · split <;> omega
theorem cuS_gd {c : List Int} {r : Range} (h : Gd c) : Gd (cuS c r) := by
 have h1 : Gd (if vld r.Lo = true then plE r.Lo c else c) := by
  split
  ·
   rename_i hv
   unfold vld at hv
   simp only [Bool.and_eq_true, decide_eq_true_eq] at hv
   exact plE_gd hv h
  · exact h
 unfold cuS
 split
 · exact plE_gd (by omega) h1
 · exact h1
def cuE (l : List Range) (c : List Int) : List Int := l.foldl cuS c
theorem cuE_gd : ∀ (l : List Range) {c : List Int}, Gd c → Gd (cuE l c)
 | [], _, h => h
 | r :: l, _, h => cuE_gd l (cuS_gd h)
theorem cuE_len : ∀ (l : List Range) (c : List Int), (cuE l c).length ≤ c.length + 2 * l.length
 | [], c => by simp [cuE]
 | r :: l, c => by
  have h1 := cuE_len l (cuS c r)
  have h2 := cuS_len c r
  show (cuE l (cuS c r)).length ≤ _
  simp only [List.length_cons]; omega
theorem cuts_loop {s : Set} (hl : s.Ranges.length ≤ 12) : ∀ (d k : Nat) (c : List Int), s.Ranges.length - k = d → k ≤ s.Ranges.length → c.length ≤ 100 + 2 * k →
    loopM (fun (x : (List Int) × Int) => ref02_Cuts_L0 s x.1 x.2) (c, (k : Int)) = some (cuE (s.Ranges.drop k) c) := by
  intro d
  induction d with
  | zero =>
    intro k c h1 h2 h3
    rw [List.drop_of_length_le (show s.Ranges.length ≤ k by omega)]
    refine loopM_done ?_
    simp only [ref02_Cuts_L0, lt_f (show s.Ranges.length ≤ k by omega), cond_false]
    rfl
  | succ d ih =>
    intro k c h1 h2 h3
    have hk : k < s.Ranges.length := by omega
    have hs := cuS_len c s.Ranges[k]
    have hb : ref02_Cuts_L0 s c (k : Int) = some (.next (cuS c s.Ranges[k], ((k + 1 : Nat) : Int))) := by
      have hp := plE_len s.Ranges[k].Lo c
      simp only [ref02_Cuts_L0, lt_t hk, cond_true, idx_nat hk, some_bind, refvalid_eq, pv_bind, wi_succ (k := k) (by omega), place_eq (show c.length ≤ 1000 by omega)]
      unfold cuS
      by_cases hv : vld s.Ranges[k].Lo = true
      · simp only [hv, cond_true, some_bind, if_true]
        by_cases ha : 0 ≤ s.Ranges[k].Hi
        · by_cases hc : s.Ranges[k].Hi < 1114111
          · simp only [ha, hc, decide_true, Bool.and_self, cond_true, and_self, if_true]
            rw [wi_id (n := s.Ranges[k].Hi + 1) (by omega) (by omega), place_eq (by omega)]
            rfl
          · simp [ha, hc]
        · simp [ha]
      · simp only [hv, Bool.false_eq_true, if_false, cond_false, some_bind]
        by_cases ha : 0 ≤ s.Ranges[k].Hi
        · by_cases hc : s.Ranges[k].Hi < 1114111
          · simp only [ha, hc, decide_true, Bool.and_self, cond_true, and_self, if_true]
            rw [wi_id (n := s.Ranges[k].Hi + 1) (by omega) (by omega), place_eq (by omega)]
            rfl
          · simp [ha, hc]
        · simp [ha]
    rw [loopM_next (body := fun (x : (List Int) × Int) => ref02_Cuts_L0 s x.1 x.2) (x := (c, (k : Int))) hb, ih (k + 1) _ (by omega) (by omega) (by omega), List.drop_eq_getElem_cons hk]
    rfl
theorem cuts_eq {s : Set} (hl : s.Ranges.length ≤ 12) {c : List Int} (hc : c.length ≤ 100) : ref02_Cuts c s = some (plE 0 (cuE s.Ranges c)) := by
 unfold ref02_Cuts
 have h := cuts_loop hl s.Ranges.length 0 c (by omega) (by omega) (by omega)
 rw [List.drop_zero] at h
 have h' : loopM (fun (x : (List Int) × Int) => ref02_Cuts_L0 s x.1 x.2) (c, 0) = some (cuE s.Ranges c) := h
 have := cuE_len s.Ranges c
 rw [h', some_bind, place_eq (by omega)]
 rfl
def hasE (l : List Range) (c : Int) : Bool := l.any fun r => vld c && decide (r.Lo ≤ c) && decide (c ≤ r.Hi)
theorem has_eq {s : Set} (hl : s.Ranges.length ≤ 1000) (c : Int) : ref02_Has s c = some (hasE s.Ranges c) := by
 unfold ref02_Has
 have h := loop_ver0 (body := fun (x : Int) => ref02_Has_L0 s c x) s.Ranges.length (fun k => ¬ (vld c && decide ((nth s.Ranges k).Lo ≤ c) && decide (c ≤ (nth s.Ranges k).Hi)) = true) (fun y => y = true) (fun k hk => by
  simp only [ref02_Has_L0, lt_t hk, cond_true, refvalid_eq, some_bind, pv_bind, idx_nth hk, wi_succ (k := k) (by omega)]
  cases hv : vld c with
  | false => simp only [gM_f, some_bind, Bool.false_and, cond_false]; exact .inl ⟨by simp, trivial⟩
  | true =>
   simp only [gM_t, some_bind, Bool.true_and]
   by_cases h1 : (nth s.Ranges k).Lo ≤ c
   ·
    simp only [h1, decide_true, gM_t, some_bind, Bool.true_and]
    exact ver_if (by simp) rfl
   ·
    simp only [h1, decide_false, gM_f, some_bind, Bool.false_and, cond_false]
    exact .inl ⟨by simp, trivial⟩) (fun k hk => by simp only [ref02_Has_L0, lt_f hk, cond_false])
 rw [all_nth (p := fun r : Range => ¬ (vld c && decide (r.Lo ≤ c) && decide (c ≤ r.Hi)) = true)] at h
 rcases h with ⟨h, p⟩ | ⟨y, rfl, h, p⟩
 ·
  rw [h]
  have : hasE s.Ranges c = false := by unfold hasE; rw [List.any_eq_false]; exact p
  rw [this]; rfl
 ·
  rw [h]
  have : hasE s.Ranges c = true := by
   cases he : hasE s.Ranges c with
   | true => rfl
   | false => exfalso; apply p; unfold hasE at he; rw [List.any_eq_false] at he; exact he
  rw [this]; rfl
def nxt : List Int → Int
 | [] => 1114111
 | d :: _ => d - 1
def coF (has : Int → Bool) : List Int → Bool → List Range → List Range
  | [], _, o => o
  | c :: cs, op, o => if has c = true then (if op = true then coF has cs true (match o with
      | q :: o' => { q with Hi := nxt cs } :: o'
      | [] => []) else coF has cs true ({ Lo := c, Hi := nxt cs } :: o)) else coF has cs false o
theorem co_loop {C : List Int} {s : Set} (hl : s.Ranges.length ≤ 12) (hC : C.length ≤ 200) (hg : Gd C) : ∀ (d k : Nat) (op : Bool) (o : List Range), C.length - k = d → k ≤ C.length → o.length ≤ k → (op = true → o ≠ []) →
    loopM (fun (x : Bool × Int × (List Range)) => ref02_combine_L0 C s { Ranges := [] } 1 x.1 x.2.1 x.2.2) (op, (k : Int), o.reverse) = some (coF (hasE s.Ranges) (C.drop k) op o).reverse := by
  intro d
  induction d with
  | zero =>
    intro k op o h1 h2 h3 h4
    rw [List.drop_of_length_le (show C.length ≤ k by omega)]
    refine loopM_done ?_
    simp only [ref02_combine_L0, lt_f (show C.length ≤ k by omega), cond_false]
    rfl
  | succ d ih =>
    intro k op o h1 h2 h3 h4
    have hk : k < C.length := by omega
    have he : ref02_Has { Ranges := [] } C[k] = some false := by rw [has_eq (by simp)]; rfl
    have hnx : (cond (decide (((k + 1 : Nat) : Int) < (C.length : Int))) ((idx C ((k + 1 : Nat) : Int)).bind fun t31 => some (wi (t31 - 1))) (some 1114111) : Option Int) = some (nxt (C.drop (k + 1))) := by
      by_cases hk1 : k + 1 < C.length
      · have := hg.2 _ (List.getElem_mem hk1)
        rw [lt_t hk1, cond_true, idx_nat hk1, some_bind, wi_id (by omega) (by omega), List.drop_eq_getElem_cons hk1]
        rfl
      · rw [lt_f (by omega), cond_false, List.drop_of_length_le (by omega)]
        rfl
    rw [List.drop_eq_getElem_cons hk]
    have nx : ∀ (op' : Bool) (o' : List Range), o'.length ≤ k + 1 → (op' = true → o' ≠ []) → ref02_combine_L0 C s { Ranges := [] } 1 op (k : Int) o.reverse = some (.next (op', ((k + 1 : Nat) : Int), o'.reverse)) → coF (hasE s.Ranges) (C.drop (k + 1)) op' o' = coF (hasE s.Ranges) (C[k] :: C.drop (k + 1)) op o →
        loopM (fun (x : Bool × Int × (List Range)) => ref02_combine_L0 C s { Ranges := [] } 1 x.1 x.2.1 x.2.2) (op, (k : Int), o.reverse) = some (coF (hasE s.Ranges) (C[k] :: C.drop (k + 1)) op o).reverse := by
      intro op' o' ho hne hb e
      rw [loopM_next (body := fun (x : Bool × Int × (List Range)) => ref02_combine_L0 C s { Ranges := [] } 1 x.1 x.2.1 x.2.2) (x := (op, (k : Int), o.reverse)) hb, ih (k + 1) op' o' (by omega) (by omega) ho hne, e]
    have hb0 : ref02_combine_L0 C s { Ranges := [] } 1 op (k : Int) o.reverse = ((cond (hasE s.Ranges C[k] && op) ((idx o.reverse (wi ((o.reverse.length : Int) - 1))).bind fun t59 => (setM o.reverse (wi ((o.reverse.length : Int) - 1)) ({ t59 with Hi := nxt (C.drop (k + 1)) })).bind fun r4160_4 => some r4160_4) (some o.reverse)).bind fun (y3 : List Range) =>
        (cond (hasE s.Ranges C[k] && !op) ((app y3 [({ Lo := C[k], Hi := nxt (C.drop (k + 1)) } : Range)]).bind fun r => some r) (some y3)).bind fun (y5 : List Range) => some (Stp.next (hasE s.Ranges C[k], ((k + 1 : Nat) : Int), y5))) := by
      unfold ref02_combine_L0
      simp only [wi_succ (k := k) (show k + 1 ≤ 9223372036854775807 by omega), lt_t hk, cond_true, hnx, some_bind, idx_nat hk, has_eq (show s.Ranges.length ≤ 1000 by omega), he, ref02_keeps, decide_true, pv_bind, Bool.or_false]
    cases hh : hasE s.Ranges C[k] with
    | false =>
      refine nx false o (by omega) (fun h => by cases h) ?_ ?_
      · rw [hb0, hh]; rfl
      · simp [coF, hh]
    | true =>
      cases op with
      | false =>
        refine nx true ({ Lo := C[k], Hi := nxt (C.drop (k + 1)) } :: o) (by simp; omega) (fun _ => by simp) ?_ ?_
        · rw [hb0, hh]
          simp only [Bool.and_false, cond_false, some_bind, Bool.not_false, Bool.and_self, cond_true, app_ok (show o.reverse.length + [({ Lo := C[k], Hi := nxt (C.drop (k + 1)) } : Range)].length ≤ 4294967296 by simp; omega)]
          simp
        · simp [coF, hh]
      | true =>
        cases o with
        | nil => exact absurd rfl (h4 rfl)
        | cons q o =>
          refine nx true ({ q with Hi := nxt (C.drop (k + 1)) } :: o) (by simp only [List.length_cons] at h3 ⊢; omega) (fun _ => by simp) ?_ ?_
          · rw [hb0, hh]
            have e1 : wi (((q :: o).reverse.length : Int) - 1) = ((o.length : Nat) : Int) := by
              simp only [List.length_cons] at h3
              have hL : ((q :: o).reverse.length : Int) = (o.length : Int) + 1 := by simp
              rw [hL, wi_id (by omega) (by omega)]; omega
            have e2 : (q :: o).reverse = o.reverse ++ q :: [] := by simp
            rw [e1, e2, idx_mid (by simp), some_bind, setM_mid (by simp)]
            simp
          · simp [coF, hh]
theorem make_ref {l : List Range} (hl : l.length ≤ 12) : ref02_Make l = some { Ranges := (coF (hasE l) (plE 0 (plE 0 (cuE l []))) false []).reverse } := by
 unfold ref02_Make ref02_combine
 have h1 := cuE_len l []
 have h2 := plE_len 0 (cuE l [])
 have h3 := plE_len 0 (plE 0 (cuE l []))
 simp only [List.length_nil] at h1
 have e0 : cuE ([] : List Range) (plE 0 (cuE l [])) = plE 0 (cuE l []) := rfl
 have hg : Gd (plE 0 (plE 0 (cuE l []))) := plE_gd (by omega) (plE_gd (by omega) (cuE_gd l ⟨.nil, fun x hx => by cases hx⟩))
 rw [cuts_eq (s := { Ranges := l }) hl (by simp), some_bind, cuts_eq (s := { Ranges := [] }) (by simp) (show (plE 0 (cuE l [])).length ≤ 100 by omega)]
 rw [some_bind]
 have h := co_loop (s := { Ranges := l }) hl (by omega) hg _ 0 false [] rfl (by omega) (by simp) (fun h => by cases h)
 rw [List.drop_zero] at h
 have h' : loopM (fun (x : Bool × Int × (List Range)) => ref02_combine_L0 (plE 0 (plE 0 (cuE l []))) { Ranges := l } { Ranges := [] } 1 x.1 x.2.1 x.2.2) (false, 0, []) = some (coF (hasE l) (plE 0 (plE 0 (cuE l []))) false []).reverse := h
 change ((loopM (fun (x : Bool × Int × (List Range)) => ref02_combine_L0 (plE 0 (plE 0 (cuE l []))) { Ranges := l } { Ranges := [] } 1 x.1 x.2.1 x.2.2) (false, 0, [])).bind fun y1 => some ({ Ranges := y1 } : Set)).bind (fun t6 => some t6) = _
 rw [h']
 rfl
end Go.M
namespace Go.M
open Go.AV
theorem coF_can {has : Int → Bool} : ∀ (C : List Int) (op : Bool) (o : List Range), Gd C → CanR o → (op = true → ∀ c, C.head? = some c → ∃ q o', o = q :: o' ∧ q.Hi = c - 1 ∧ q.Lo ≤ c) → (op = false → ∀ c q, C.head? = some c → o.head? = some q → q.Hi + 1 < c) → (op = true → o ≠ []) → CanR (coF has C op o)
 | [], _, _, _, h, _, _, _ => h
 | c :: cs, op, o, hg, ho, h1, h2, h3 => by
  obtain ⟨ha, hb⟩ := List.pairwise_cons.1 hg.1
  have hgs : Gd cs := ⟨hb, fun x hx => hg.2 x (by simp [hx])⟩
  have hc := hg.2 c (by simp)
  have hnx : c ≤ nxt cs ∧ nxt cs ≤ 1114111 ∧ ∀ d, cs.head? = some d → nxt cs = d - 1 ∧ c < d := by
   cases cs with
   | nil => exact ⟨hc.2, Int.le_refl _, fun d hd => by cases hd⟩
   | cons d cs =>
    have h5 := ha d (by simp)
    have h6 := hg.2 d (by simp)
    refine ⟨show c ≤ d - 1 by omega, show d - 1 ≤ 1114111 by omega, fun e he => ?_⟩
    simp only [List.head?_cons, Option.some.injEq] at he
    subst he
    exact ⟨rfl, h5⟩
  unfold coF
  split
  ·
   split
   ·
    rename_i hop
    obtain ⟨q, o', rfl, e1, e2⟩ := h1 hop c rfl
    refine coF_can cs true _ hgs ?_ (fun _ d hd => ⟨_, _, rfl, (hnx.2.2 d hd).1, ?_⟩) (fun h => by cases h) (fun _ => by simp)
    ·
     have hq := ho.head
     unfold rgOk at hq
     cases o' with
     | nil => show rgOk _; unfold rgOk; simp only; omega
     | cons z o' => exact ⟨by unfold rgOk; simp only; omega, ho.2.1, ho.2.2⟩
    ·
     have := (hnx.2.2 d hd).2
     show q.Lo ≤ d
     omega
   ·
    rename_i hop
    simp only [Bool.not_eq_true] at hop
    refine coF_can cs true _ hgs ?_ (fun _ d hd => ⟨_, _, rfl, (hnx.2.2 d hd).1, ?_⟩) (fun h => by cases h) (fun _ => by simp)
    ·
     cases o with
     | nil => show rgOk _; unfold rgOk; simp only; omega
     | cons z o' => exact ⟨by unfold rgOk; simp only; omega, h2 hop c z rfl rfl, ho⟩
    ·
     have := (hnx.2.2 d hd).2
     show c ≤ d
     omega
  ·
   refine coF_can cs false o hgs ho (fun h => by cases h) (fun _ d q hd hq => ?_) (fun h => by cases h)
   have h7 := (hnx.2.2 d hd).2
   cases op with
   | true =>
    obtain ⟨q', o', rfl, e1, _⟩ := h1 rfl c rfl
    simp only [List.head?_cons, Option.some.injEq] at hq
    subst hq
    omega
   | false =>
    have := h2 rfl c q rfl hq
    omega
def cutL (l : List Range) : List Int := l.flatMap fun r => r.Lo :: if r.Hi < 1114111 then [r.Hi + 1] else []
theorem cu_can : ∀ (l : List Range) (c : List Int), Can l → (∀ x ∈ c, ∀ r, l.head? = some r → x < r.Lo) → cuE l c = c ++ cutL l
 | [], c, _, _ => by simp [cuE, cutL]
 | r :: l, c, h, hc => by
  have hr := h.head
  unfold rgOk at hr
  have hv : vld r.Lo = true := by unfold vld; simp; omega
  have e1 : plE r.Lo c = c ++ [r.Lo] := plE_end fun x hx => hc x hx r rfl
  have e2 : cuS c r = c ++ (r.Lo :: if r.Hi < 1114111 then [r.Hi + 1] else []) := by
   unfold cuS
   rw [if_pos hv, e1]
   by_cases hm : r.Hi < 1114111
   ·
    rw [if_pos ⟨by omega, hm⟩, if_pos hm, plE_end]
    · simp
    ·
     intro x hx
     rcases List.mem_append.1 hx with hx | hx
     · have := hc x hx r rfl; omega
     · simp only [List.mem_singleton] at hx; omega
   · rw [if_neg (fun h => hm h.2), if_neg hm]
  show cuE l (cuS c r) = _
  rw [cu_can l (cuS c r) h.tail, e2]
  · simp [cutL]
  ·
   intro x hx q hq
   have hg : r.Hi + 1 < q.Lo := h.gap q (by cases l with | nil => cases hq | cons a l => simp only [List.head?_cons, Option.some.injEq] at hq; simp [hq])
   rw [e2] at hx
   rcases List.mem_append.1 hx with hx | hx
   · have := hc x hx r rfl; omega
   ·
    rcases List.mem_cons.1 hx with rfl | hx
    · omega
    ·
     split at hx
     · simp only [List.mem_singleton] at hx; omega
     · cases hx
theorem has_lo {l : List Range} (h : Can l) {r : Range} (hr : r ∈ l) : hasE l r.Lo = true := by
 have := h.ok r hr
 unfold rgOk at this
 unfold hasE
 refine List.any_eq_true.2 ⟨r, hr, ?_⟩
 unfold vld
 simp; omega
theorem has_hi : ∀ {l : List Range}, Can l → ∀ {r : Range}, r ∈ l → hasE l (r.Hi + 1) = false
 | [], _, r, hr => by cases hr
 | a :: l, h, r, hr => by
  unfold hasE
  rw [List.any_eq_false]
  intro q hq
  have no : ∀ (c : Int) (q : Range), (c < q.Lo ∨ q.Hi < c) → ¬ (vld c && decide (q.Lo ≤ c) && decide (c ≤ q.Hi)) = true := by
   intro c q hc
   simp only [Bool.and_eq_true, decide_eq_true_eq]
   omega
  rcases List.mem_cons.1 hr with rfl | hr'
  ·
   refine no _ _ ?_
   rcases List.mem_cons.1 hq with rfl | hq
   · omega
   · have := h.gap q hq; omega
  ·
   rcases List.mem_cons.1 hq with rfl | hq
   ·
    refine no _ _ ?_
    have h1 := h.gap r hr'
    have h2 := h.tail.ok r hr'
    unfold rgOk at h2
    omega
   ·
    have := has_hi h.tail hr'
    unfold hasE at this
    rw [List.any_eq_false] at this
    exact this q hq
theorem co_walk {has : Int → Bool} : ∀ (l : List Range) (o : List Range), Can l → (∀ r ∈ l, has r.Lo = true ∧ (r.Hi < 1114111 → has (r.Hi + 1) = false)) → coF has (cutL l) false o = l.reverse ++ o
  | [], o, _, _ => by simp [cutL, coF]
  | r :: l, o, h, hh => by
    obtain ⟨h1, h2⟩ := hh r (by simp)
    have ih := co_walk (has := has) l (r :: o) h.tail fun q hq => hh q (by simp [hq])
    have hr := h.head
    unfold rgOk at hr
    by_cases hm : r.Hi < 1114111
    · have e : cutL (r :: l) = r.Lo :: (r.Hi + 1) :: cutL l := by simp [cutL, hm]
      have en : nxt ((r.Hi + 1) :: cutL l) = r.Hi := by show r.Hi + 1 - 1 = r.Hi; omega
      rw [e]
      unfold coF
      rw [if_pos h1, if_neg (by simp), en]
      unfold coF
      rw [if_neg (by rw [h2 hm]; simp), ih]
      simp
    · have hl : l = [] := by
        cases l with
        | nil => rfl
        | cons q l =>
          have := h.2.1
          have h3 := h.tail.head
          unfold rgOk at h3
          omega
      subst hl
      have e : cutL [r] = [r.Lo] := by simp [cutL, hm]
      rw [e]
      unfold coF
      rw [if_pos h1, if_neg (by simp)]
      unfold coF
      have : nxt [] = r.Hi := by show (1114111 : Int) = r.Hi; omega
      rw [this]
      rfl
theorem pl0_idem {l : List Int} (h : Gd l) : plE 0 (plE 0 l) = plE 0 l := by
 cases l with
 | nil => rfl
 | cons x l =>
  have := h.2 x (by simp)
  by_cases hx : 0 < x
  ·
   have e : plE 0 (x :: l) = 0 :: x :: l := by unfold plE; rw [if_pos (by omega), if_pos hx]
   rw [e]
   unfold plE
   rw [if_pos (by omega), if_neg (by omega)]
  ·
   have e : plE 0 (x :: l) = x :: l := by unfold plE; rw [if_pos (by omega), if_neg hx]
   rw [e, e]
theorem make_can {l : List Range} (h : Can l) : (coF (hasE l) (plE 0 (plE 0 (cuE l []))) false []).reverse = l := by
 rw [pl0_idem (cuE_gd l ⟨.nil, fun x hx => by cases hx⟩), cu_can l [] h (fun x hx => by cases hx), List.nil_append]
 have hw := co_walk (has := hasE l) l [] h fun r hr => ⟨has_lo h hr, fun _ => has_hi h hr⟩
 rw [List.append_nil] at hw
 have h0 : plE 0 (cutL l) = cutL l ∨ (plE 0 (cutL l) = 0 :: cutL l ∧ hasE l 0 = false) := by
  cases l with
  | nil => exact .inr ⟨rfl, rfl⟩
  | cons r l =>
   have hr := h.head
   unfold rgOk at hr
   have e : cutL (r :: l) = r.Lo :: ((if r.Hi < 1114111 then [r.Hi + 1] else []) ++ cutL l) := by simp [cutL]
   rw [e]
   by_cases hx : 0 < r.Lo
   ·
    refine .inr ⟨by unfold plE; rw [if_pos (by omega), if_pos hx], ?_⟩
    unfold hasE
    rw [List.any_eq_false]
    intro q hq
    simp only [Bool.and_eq_true, decide_eq_true_eq]
    rcases List.mem_cons.1 hq with rfl | hq
    · omega
    · have := h.gap q hq; omega
   · exact .inl (by unfold plE; rw [if_pos (by omega), if_neg hx])
 rcases h0 with h0 | ⟨h0, h1⟩
 · rw [h0, hw, List.reverse_reverse]
 ·
  rw [h0]
  unfold coF
  rw [if_neg (by rw [h1]; simp), hw, List.reverse_reverse]
theorem make_can2 (l : List Range) : Can (coF (hasE l) (plE 0 (plE 0 (cuE l []))) false []).reverse := by
 have hg : Gd (plE 0 (plE 0 (cuE l []))) := plE_gd (by omega) (plE_gd (by omega) (cuE_gd l ⟨.nil, fun x hx => by cases hx⟩))
 have := coF_can (has := hasE l) _ false [] hg trivial (fun h => by cases h) (fun _ c q _ hq => by cases hq) (fun h => by cases h)
 have h2 := can_rev _ [] this trivial (fun _ _ _ h => by cases h)
 simpa using h2
theorem sets_eq {a b : Set} (ha : a.Ranges.length ≤ 1000) : ref02_Same a b = some (decide (a.Ranges = b.Ranges)) := by
 unfold ref02_Same
 by_cases hl : a.Ranges.length = b.Ranges.length
 ·
  have e : (!decide ((a.Ranges.length : Int) = (b.Ranges.length : Int))) = false := by simp [hl]
  rw [e, cond_false]
  have h := loop_ver0 (body := fun (x : Int) => ref02_Same_L0 a b x) a.Ranges.length (fun k => nth a.Ranges k = nth b.Ranges k) (fun y => y = false) (fun k hk => by
   simp only [ref02_Same_L0, lt_t hk, cond_true, idx_nth hk, idx_nth (show k < b.Ranges.length by omega), some_bind, wi_succ (k := k) (by omega)]
   exact ver_if (by simp) rfl) (fun k hk => by simp only [ref02_Same_L0, lt_f hk, cond_false])
  have he : (∀ j, j < a.Ranges.length → nth a.Ranges j = nth b.Ranges j) ↔ a.Ranges = b.Ranges := by
   constructor
   ·
    intro h
    refine List.ext_getElem hl fun i h1 h2 => ?_
    have := h i h1
    rwa [nth_eq h1, nth_eq h2] at this
   · intro h j _; rw [h]
  rw [he] at h
  rcases h with ⟨h, p⟩ | ⟨y, rfl, h, p⟩
  · rw [h]; simp [p]
  · rw [h]; simp [p]
 ·
  have e : (!decide ((a.Ranges.length : Int) = (b.Ranges.length : Int))) = true := by simp; omega
  rw [e, cond_true]
  have : a.Ranges ≠ b.Ranges := fun h => hl (by rw [h])
  simp [this]
theorem refSet {s : Set} (hl : s.Ranges.length ≤ 12) : ∃ b, ref02_Valid s = some b ∧ (b = true ↔ Can s.Ranges) := by
 unfold ref02_Valid
 rw [make_ref hl, some_bind, sets_eq (by omega), some_bind]
 refine ⟨_, rfl, ?_⟩
 simp only [decide_eq_true_eq]
 constructor
 · intro h; rw [h]; exact make_can2 _
 · intro h; rw [make_can h]
end Go.M
namespace Go.M
open Go.AV
theorem find21 {l : List Mapping} (hl : l.length ≤ 1000) (c : Int) (b : Bool) : ref21_find l c b = some (fiI l c b) := by
 unfold ref21_find
 have h : loopM (fun (x : Int) => ref21_find_L0 l c b x) 0 = some (toS (chk (fun k m => (pM c b k m).map fun (i : Nat) => (i : Int)) l 0)) := by
  refine loop_chk0 l _ (fun k hk => ?_) (fun k hk => ?_)
  ·
   simp only [ref21_find_L0, lt_t hk, cond_true, idx_nat hk, some_bind, pv_bind, wi_succ (k := k) (by omega), pM]
   by_cases h1 : l[k].From = c
   ·
    cases b with
    | true => simp [h1, gM_f, stp]
    | false =>
     cases ht : (l[k].Tag == []) with
     | true => simp only [h1, decide_true, Bool.not_false, Bool.and_self, gM_t, some_bind, Bool.false_or, ht, Bool.true_and, cond_true, and_self, if_true, Option.map_some, stp]
     | false => simp only [h1, decide_true, Bool.not_false, Bool.and_self, gM_t, some_bind, Bool.false_or, ht, Bool.true_and, cond_false, Bool.false_eq_true, and_false, if_false, Option.map_none, stp]
   · simp [h1, gM_f, stp]
  · simp only [ref21_find_L0, lt_f hk, cond_false]
 rw [h, some_bind, toS_elim]
 have e : ∀ (L : List Mapping) (k : Nat), chk (fun k m => (pM c b k m).map fun (i : Nat) => (i : Int)) L k = (chk (pM c b) L k).map fun (i : Nat) => (i : Int) := by
  intro L
  induction L with
  | nil => intro k; rfl
  | cons x L ih =>
   intro k
   unfold chk
   cases pM c b k x with
   | none => exact ih (k + 1)
   | some y => rfl
 rw [e]
 unfold fiI fi
 cases chk (pM c b) l 0 <;> rfl
theorem kind19 (c : Int) : ref19_Kind c = some (hkE c) := by
 unfold ref19_Kind hkE
 simp only [pv_bind]
 by_cases h1 : 4352 ≤ c ∧ c < 4371
 ·
  rw [if_pos h1]
  have : (decide (4352 ≤ c) && decide (c ≤ 4370)) = true := by simp; omega
  rw [this]; rfl
 rw [if_neg h1]
 have e1 : (decide (4352 ≤ c) && decide (c ≤ 4370)) = false := by simp only [Bool.and_eq_false_iff, decide_eq_false_iff_not]; omega
 rw [e1, cond_false]
 by_cases h2 : 4449 ≤ c ∧ c < 4470
 ·
  rw [if_pos h2]
  have : (decide (4449 ≤ c) && decide (c ≤ 4469)) = true := by simp; omega
  rw [this]; rfl
 rw [if_neg h2]
 have e2 : (decide (4449 ≤ c) && decide (c ≤ 4469)) = false := by simp only [Bool.and_eq_false_iff, decide_eq_false_iff_not]; omega
 rw [e2, cond_false]
 by_cases h3 : 4520 ≤ c ∧ c < 4547
 ·
  rw [if_pos h3]
  have : (decide (4520 ≤ c) && decide (c ≤ 4546)) = true := by simp; omega
  rw [this]; rfl
 rw [if_neg h3]
 have e3 : (decide (4520 ≤ c) && decide (c ≤ 4546)) = false := by simp only [Bool.and_eq_false_iff, decide_eq_false_iff_not]; omega
 rw [e3, cond_false]
 by_cases h4 : c < 44032 ∨ 55204 ≤ c
 ·
  rw [if_pos h4]
  have : (decide (44032 ≤ c) && decide (c ≤ 55203)) = false := by simp only [Bool.and_eq_false_iff, decide_eq_false_iff_not]; omega
  rw [this]; rfl
 rw [if_neg h4]
 have e4 : (decide (44032 ≤ c) && decide (c ≤ 55203)) = true := by simp; omega
 rw [e4, cond_true, wi_id (n := c - 44032) (by omega) (by omega)]
 have er : remM (c - 44032) 28 = some ((c - 44032) % 28) := by
  unfold remM; rw [if_neg (by decide), Int.tmod_eq_emod_of_nonneg (by omega)]
 rw [er, some_bind]
 by_cases h5 : (c - 44032) % 28 = 0 <;> simp [h5]
theorem dec19 (c : Int) : ref19_Decompose c = some (hdE c) := by
 unfold ref19_Decompose
 rw [kind19, some_bind]
 cases hs : syl c with
 | false =>
  have : decide (hkE c < 4) = true := by
   simp only [decide_eq_true_eq]
   have : ¬ 4 ≤ hkE c := fun h => by have := (syl_iff c).2 h; rw [hs] at this; cases this
   omega
  rw [this, cond_true]
  unfold hdE; rw [if_neg (by simp [hs])]
 | true =>
  have h4 := (syl_iff c).1 hs
  have : decide (hkE c < 4) = false := by simp only [decide_eq_false_iff_not]; omega
  rw [this, cond_false]
  have hr : 44032 ≤ c ∧ c ≤ 55203 := by unfold syl at hs; simpa using hs
  rw [wi_id (n := c - 44032) (by omega) (by omega)]
  have d1 : divM wi (c - 44032) 28 = some ((c - 44032) / 28) := by
   unfold divM; rw [if_neg (by decide), Int.tdiv_eq_ediv_of_nonneg (by omega), wi_id (by omega) (by omega)]
  have d2 : divM wi ((c - 44032) / 28) 21 = some ((c - 44032) / 28 / 21) := by
   unfold divM; rw [if_neg (by decide), Int.tdiv_eq_ediv_of_nonneg (by omega), wi_id (by omega) (by omega)]
  have d3 : remM ((c - 44032) / 28) 21 = some ((c - 44032) / 28 % 21) := by
   unfold remM; rw [if_neg (by decide), Int.tmod_eq_emod_of_nonneg (by omega)]
  have d4 : remM (c - 44032) 28 = some ((c - 44032) % 28) := by
   unfold remM; rw [if_neg (by decide), Int.tmod_eq_emod_of_nonneg (by omega)]
  simp only [d1, d2, d3, d4, some_bind]
  unfold hdE
  rw [if_pos hs, wi_id (n := 4352 + (c - 44032) / 28 / 21) (by omega) (by omega), wi_id (n := 4449 + (c - 44032) / 28 % 21) (by omega) (by omega)]
  by_cases h0 : 0 < (c - 44032) % 28
  ·
   rw [if_pos h0, wi_id (n := 4520 + (c - 44032) % 28) (by omega) (by omega), wi_id (n := 4520 + (c - 44032) % 28 - 1) (by omega) (by omega)]
   simp only [h0, decide_true, cond_true]
   rw [app_ok (by simp)]
   rfl
  ·
   rw [if_neg h0]
   simp only [h0, decide_false, cond_false]
   rfl
section
variable {l : List Mapping} (hl : l.length ≤ 1000) (hto : ∀ m ∈ l, m.To.length ≤ 1000)
include hl hto
theorem ends_in {out : List Bool} (ho : out.length = l.length) {i : Nat} (hi : i < l.length) : ∀ (d k : Nat) (b : Bool), (nth l i).To.length - k = d → k ≤ (nth l i).To.length →
    loopM (fun (x : Bool × Int) => ref21_ends_L2 l (i : Int) out x.1 x.2) (b, (k : Int)) = some (b && ((nth l i).To.drop k).all fun e => match fi l e true with | some m => nth out m | none => true) := by
  have hlen := hto _ (nth_mem hi)
  intro d
  induction d with
  | zero =>
    intro k b h1 h2
    rw [List.drop_of_length_le (show (nth l i).To.length ≤ k by omega)]
    refine loopM_done ?_
    simp only [ref21_ends_L2, idx_nth hi, some_bind, lt_f (show (nth l i).To.length ≤ k by omega), cond_false, List.all_nil, Bool.and_true]
  | succ d ih =>
    intro k b h1 h2
    have hk : k < (nth l i).To.length := by omega
    have hb : ref21_ends_L2 l (i : Int) out b (k : Int) = some (.next (b && (match fi l (nth l i).To[k] true with | some m => nth out m | none => true), ((k + 1 : Nat) : Int))) := by
      simp only [ref21_ends_L2, idx_nth hi, some_bind, lt_t hk, cond_true, idx_nat hk, find21 hl, pv_bind, wi_succ (k := k) (by omega)]
      unfold fiI
      cases hf : fi l (nth l i).To[k] true with
      | none => simp [gM_f]
      | some m =>
        obtain ⟨h3, _, _⟩ := fi_some hf
        have e : decide (((m : Nat) : Int) < 0) = false := by simp
        simp only [e, Bool.not_false, Bool.and_true, Bool.false_or]
        cases b with
        | false => simp [gM_f]
        | true => simp only [gM_t, idx_nth (show m < out.length by omega), some_bind, Bool.true_and]
    rw [loopM_next (body := fun (x : Bool × Int) => ref21_ends_L2 l (i : Int) out x.1 x.2) (x := (b, (k : Int))) hb, ih (k + 1) _ (by omega) (by omega), List.drop_eq_getElem_cons hk, List.all_cons, Bool.and_assoc]
theorem ends_eq : ref21_ends l = some (rndF (updE l) l.length l.length (List.replicate l.length false)) := by
 unfold ref21_ends
 rw [mkM_ok (by omega), some_bind]
 have h1 : ∀ (out : List Bool), out.length = l.length → loopM (fun (x : Int × (List Bool)) => ref21_ends_L1 l x.1 x.2) (0, out) = some (pasF (updE l) l.length 0 out) := fun out ho =>
  pas_loop (upd := updE l) (n := l.length) (Inv := fun _ => True) (body := fun (x : Int × (List Bool)) => ref21_ends_L1 l x.1 x.2) (fun i out => ((i : Int), out)) id (fun i out hi ho _ => by
   have := ends_in hl hto ho hi _ 0 true rfl (by omega)
   rw [List.drop_zero, Bool.true_and] at this
   have h' : loopM (fun (x : Bool × Int) => ref21_ends_L2 l (i : Int) out x.1 x.2) (true, 0) = some (updE l out i) := this
   simp only [ref21_ends_L1, lt_t hi, cond_true, h', some_bind, idx_nth (show i < out.length by omega), setM_nat (show i < out.length by omega), wi_succ (k := i) (by omega)]) (fun _ _ _ _ _ => trivial) (fun out => by simp only [ref21_ends_L1, lt_f (Nat.le_refl _), cond_false]; rfl) l.length 0 out (by omega) ho trivial
 have h2 := rnd_loop (upd := updE l) (n := l.length) (Inv := fun _ => True) (body := fun (x : Int × (List Bool)) => ref21_ends_L0 l x.1 x.2) (fun i out => ((i : Int), out)) id (N := l.length) (fun r out hr ho _ => by
  simp only [ref21_ends_L0, lt_t hr, cond_true, h1 out ho, some_bind, wi_succ (k := r) (by omega)]) (fun _ _ _ _ _ => trivial) (fun out => by simp only [ref21_ends_L0, lt_f (Nat.le_refl _), cond_false]; rfl) l.length 0 (List.replicate l.length false) (by omega) (by simp) trivial
 have h3 : loopM (fun (x : Int × (List Bool)) => ref21_ends_L0 l x.1 x.2) (0, List.replicate l.length false) = some (rndF (updE l) l.length l.length (List.replicate l.length false)) := h2
 rw [h3]
 rfl
theorem lens_in {b : Bool} {out : List Int} (ho : out.length = l.length) (hv : InvL out) {i : Nat} (hi : i < l.length) : ∀ (d k : Nat) (n : Int), (nth l i).To.length - k = d → k ≤ (nth l i).To.length → 0 ≤ n → n ≤ 100 * (k : Int) →
    loopM (fun (x : Int × Int) => ref21_lengths_L2 l (i : Int) b out x.1 x.2) (n, (k : Int)) = some (n + (((nth l i).To.drop k).map (lenOf l b out)).sum) := by
  have hlen := hto _ (nth_mem hi)
  intro d
  induction d with
  | zero =>
    intro k n h1 h2 h3 h4
    rw [List.drop_of_length_le (show (nth l i).To.length ≤ k by omega)]
    refine loopM_done ?_
    simp only [ref21_lengths_L2, idx_nth hi, some_bind, lt_f (show (nth l i).To.length ≤ k by omega), cond_false, List.map_nil, List.sum_nil, Int.add_zero]
  | succ d ih =>
    intro k n h1 h2 h3 h4
    have hk : k < (nth l i).To.length := by omega
    have hbd : 0 ≤ lenOf l b out (nth l i).To[k] ∧ lenOf l b out (nth l i).To[k] ≤ 65 := by
      unfold lenOf
      cases hf : fi l (nth l i).To[k] b with
      | none => have := hd_len (nth l i).To[k]; simp only []; omega
      | some m => obtain ⟨h3, _, _⟩ := fi_some hf; exact hv _ (nth_mem (by omega))
    have hb : ref21_lengths_L2 l (i : Int) b out n (k : Int) = some (.next (n + lenOf l b out (nth l i).To[k], ((k + 1 : Nat) : Int))) := by
      have hw : wi (n + lenOf l b out (nth l i).To[k]) = n + lenOf l b out (nth l i).To[k] := wi_id (by omega) (by omega)
      simp only [ref21_lengths_L2, idx_nth hi, some_bind, lt_t hk, cond_true, idx_nat hk, find21 hl, wi_succ (k := k) (by omega), dec19]
      rw [← hw]
      unfold lenOf fiI
      cases hf : fi l (nth l i).To[k] b with
      | none => rfl
      | some m =>
        obtain ⟨h3, _, _⟩ := fi_some hf
        have e : decide (0 ≤ ((m : Nat) : Int)) = true := by simp
        simp only [e, cond_true, idx_nth (show m < out.length by omega), some_bind]
    rw [loopM_next (body := fun (x : Int × Int) => ref21_lengths_L2 l (i : Int) b out x.1 x.2) (x := (n, (k : Int))) hb, ih (k + 1) _ (by omega) (by omega) (by omega) (by omega), List.drop_eq_getElem_cons hk, List.map_cons, List.sum_cons, Int.add_assoc]
theorem lens_eq (b : Bool) : ref21_lengths l b = some (rndF (updL l b) l.length l.length (List.replicate l.length 0)) := by
 unfold ref21_lengths
 rw [mkM_ok (by omega), some_bind]
 have h0 : InvL (List.replicate l.length 0) := fun x hx => by rw [(List.mem_replicate.1 hx).2]; omega
 have h1 : ∀ (out : List Int), out.length = l.length → InvL out → loopM (fun (x : Int × (List Int)) => ref21_lengths_L1 l b x.1 x.2) (0, out) = some (pasF (updL l b) l.length 0 out) := fun out ho hv =>
  pas_loop (upd := updL l b) (n := l.length) (Inv := InvL) (body := fun (x : Int × (List Int)) => ref21_lengths_L1 l b x.1 x.2) (fun i out => ((i : Int), out)) id (fun i out hi ho hv => by
   have := lens_in hl hto (b := b) ho hv hi _ 0 0 rfl (by omega) (by omega) (by omega)
   rw [List.drop_zero, Int.zero_add] at this
   have h' : loopM (fun (x : Int × Int) => ref21_lengths_L2 l (i : Int) b out x.1 x.2) (0, 0) = some (((nth l i).To.map (lenOf l b out)).sum) := this
   simp only [ref21_lengths_L1, lt_t hi, cond_true, h', some_bind, idx_nth (show i < out.length by omega), setM_nat (show i < out.length by omega), idx_nth hi, pv_bind, wi_succ (k := i) (by omega)]
   unfold updL
   cases b with
   | true => simp
   | false =>
    cases ht : ((nth l i).Tag == []) with
    | true => simp
    | false => simp [idx_nth (show i < (out.set i (min (max (List.map (lenOf l false out) (nth l i).To).sum 1) 65)).length by simp; omega), setM_nat (show i < (out.set i (min (max (List.map (lenOf l false out) (nth l i).To).sum 1) 65)).length by simp; omega)]) invL_step (fun out => by simp only [ref21_lengths_L1, lt_f (Nat.le_refl _), cond_false]; rfl) l.length 0 out (by omega) ho hv
 have h2 := rnd_loop (upd := updL l b) (n := l.length) (Inv := InvL) (body := fun (x : Int × (List Int)) => ref21_lengths_L0 l b x.1 x.2) (fun i out => ((i : Int), out)) id (N := l.length) (fun r out hr ho hv => by
  simp only [ref21_lengths_L0, lt_t hr, cond_true, h1 out ho hv, some_bind, wi_succ (k := r) (by omega)]) invL_step (fun out => by simp only [ref21_lengths_L0, lt_f (Nat.le_refl _), cond_false]; rfl) l.length 0 (List.replicate l.length 0) (by omega) (by simp) h0
 have h3 : loopM (fun (x : Int × (List Int)) => ref21_lengths_L0 l b x.1 x.2) (0, List.replicate l.length 0) = some (rndF (updL l b) l.length l.length (List.replicate l.length 0)) := h2
 rw [h3]
 rfl
end
end Go.M
namespace Go.M
open Go.AV
theorem rnd_len {β : Type} [Inhabited β] {upd : List β → Nat → β} {n k : Nat} {out : List β} (h : out.length = n) : (rndF upd n k out).length = n :=
 (rnd_inv (upd := upd) (n := n) (Inv := fun _ => True) (fun _ _ _ _ _ => trivial) k out h trivial).2
theorem frm_mono {l : List Mapping} (h : ∀ k, k + 1 < l.length → (nth l k).From < (nth l (k + 1)).From) : ∀ (d i : Nat), i + d + 1 < l.length → (nth l i).From < (nth l (i + d + 1)).From
 | 0, i, hi => h i hi
 | d + 1, i, hi => by
  have h1 := frm_mono h d i (by omega)
  have h3 := h (i + d + 1) (by omega)
  have : i + (d + 1) + 1 = i + d + 1 + 1 := by omega
  rw [this]
  omega
theorem twice_iff {l : List Mapping} (hlt : ∀ k, k + 1 < l.length → mlt (nth l k) (nth l (k + 1))) : (∀ k, k < l.length → ¬ fiI l (nth l k).From true < (k : Int)) ↔ ∀ k, k + 1 < l.length → (nth l (k + 1)).From ≠ (nth l k).From := by
 constructor
 ·
  intro h k hk e
  have hk' : k < l.length := by omega
  have hp : pM (nth l (k + 1)).From true (0 + k) l[k] ≠ none := by
   unfold pM
   rw [if_pos ⟨by rw [e, nth_eq hk'], rfl⟩]
   simp
  obtain ⟨i, hi, hik, hc⟩ := chk_first (p := pM (nth l (k + 1)).From true) (l := l) (k := 0) hk' hp
  have hfi : fi l (nth l (k + 1)).From true = some i := by
   unfold fi
   rw [hc]
   unfold pM
   split
   · simp
   ·
    rename_i hn
    exfalso
    have : chk (pM (nth l (k + 1)).From true) l 0 = none := by rw [hc]; unfold pM; rw [if_neg hn]
    exact hp (chk_none this k hk')
  refine h (k + 1) hk ?_
  unfold fiI
  rw [hfi]
  simp only []
  omega
 ·
  intro h k hk hlt'
  have hs : ∀ k, k + 1 < l.length → (nth l k).From < (nth l (k + 1)).From := fun k hk => by
   have a := hlt k hk
   have b := h k hk
   unfold mlt at a
   omega
  unfold fiI at hlt'
  cases hf : fi l (nth l k).From true with
  | none => exact absurd ⟨rfl, rfl⟩ (fi_none hf _ (nth_mem hk))
  | some i =>
   rw [hf] at hlt'
   simp only [] at hlt'
   obtain ⟨h1, h2, _⟩ := fi_some hf
   have := frm_mono hs (k - i - 1) i (by omega)
   rw [show i + (k - i - 1) + 1 = k by omega] at this
   omega
theorem refVer {n : Norm} (hs : NSm n) (hok : okNorm n) : Ver (ref21_Check n) (VD0 n) := by
 obtain ⟨e1, he1, p1⟩ := refOrd (l := n.Classes) (by have := hs.cl; omega)
 obtain ⟨e2, he2, p2⟩ := refMap (l := n.Decomp) (by have := hs.de; omega) (fun m hm => by have := hs.to m hm; omega) (fun m hm => by have := hs.tg m hm; unfold MX; omega)
 obtain ⟨e3, he3, p3⟩ := refSet (s := n.Excluded) hs.ex
 have hde := hs.de
 have hl : n.Decomp.length ≤ 1000 := by omega
 have hto : ∀ m ∈ n.Decomp, m.To.length ≤ 1000 := fun m hm => by have := hs.to m hm; omega
 unfold ref21_Check
 rw [he1, some_bind]
 by_cases h1 : e1 = 0
 case neg =>
  have : (!decide (e1 = 0)) = true := by simp [h1]
  rw [this, cond_true]
  exact ⟨e1, rfl, by simp only [h1, false_iff]; exact fun h => h1 (p1.2 h.cv)⟩
 rw [h1]
 simp only [decide_true, Bool.not_true, cond_false]
 have cv := p1.1 h1
 rw [he2, some_bind]
 by_cases h2 : e2 = 0
 case neg =>
  have : (!decide (e2 = 0)) = true := by simp [h2]
  rw [this, cond_true]
  exact ⟨e2, rfl, by simp only [h2, false_iff]; exact fun h => h2 (p2.2 h.mv)⟩
 rw [h2]
 simp only [decide_true, Bool.not_true, cond_false]
 have mv := p2.1 h2
 rw [he3, some_bind]
 cases e3 with
 | false => exact ⟨11, rfl, by simp only [show ((11 : Int) = 0) = False by simp, false_iff]; exact fun h => by have := p3.2 h.ca; cases this⟩
 | true =>
 have ca := p3.1 rfl
 simp only [Bool.not_true, cond_false]
 have l0 := loop_ver0 (body := fun (x : Int) => ref21_Check_L0 n x) n.Decomp.length (fun k => ¬ fiI n.Decomp (nth n.Decomp k).From true < (k : Int)) (fun y => y ≠ 0) (fun k hk => by
  simp only [ref21_Check_L0, lt_t hk, cond_true, idx_nth hk, some_bind, find21 hl, wi_succ (k := k) (by omega)]
  exact ver_if (by simp) (by decide)) (fun k hk => by simp only [ref21_Check_L0, lt_f hk, cond_false])
 rw [twice_iff mv.lt] at l0
 rcases l0 with ⟨l0, ne⟩ | ⟨y, hy, l0, ne⟩
 case inr => rw [l0]; exact ⟨y, rfl, by simp only [hy, false_iff]; exact fun h => ne h.ne⟩
 rw [l0]
 simp only [some_bind, Sum.elim_inl]
 have hbt : ∀ m : Mapping, (m.Tag == []) = decide (m.Tag = []) := fun m => by cases m.Tag <;> rfl
 have l1 := loop_ver0 (body := fun (x : Int) => ref21_Check_L1 n x) n.Decomp.length (fun k => (nth n.Decomp k).Tag = [] → (nth n.Decomp k).To.length = 1 ∨ (nth n.Decomp k).To.length = 2) (fun y => y ≠ 0) (fun k hk => by
  simp only [ref21_Check_L1, lt_t hk, cond_true, idx_nth hk, some_bind, pv_bind, wi_succ (k := k) (by omega), hbt]
  by_cases ht : (nth n.Decomp k).Tag = []
  ·
   simp only [ht, decide_true, gM_t, some_bind, Bool.true_and, true_implies]
   by_cases h5 : ((nth n.Decomp k).To.length : Int) = 1
   ·
    simp only [h5, decide_true, Bool.not_true, gM_f, some_bind, Bool.false_and, cond_false]
    exact .inl ⟨.inl (by omega), trivial⟩
   ·
    simp only [h5, decide_false, Bool.not_false, gM_t, some_bind, Bool.true_and]
    exact ver_if (by simp only [Bool.not_eq_true', decide_eq_false_iff_not]; omega) (by decide)
  ·
   simp only [ht, decide_false, gM_f, some_bind, Bool.false_and, cond_false, false_implies]
   exact .inl ⟨trivial, trivial⟩) (fun k hk => by simp only [ref21_Check_L1, lt_f hk, cond_false])
 rw [all_nth (p := fun m : Mapping => m.Tag = [] → m.To.length = 1 ∨ m.To.length = 2)] at l1
 rcases l1 with ⟨l1, kd⟩ | ⟨y, hy, l1, kd⟩
 case inr => rw [l1]; exact ⟨y, rfl, by simp only [hy, false_iff]; exact fun h => kd h.kd⟩
 rw [l1]
 simp only [some_bind, Sum.elim_inl]
 have l2 := loop_ver0 (body := fun (x : Int) => ref21_Check_L2 n x) n.Decomp.length (fun k => hkE (nth n.Decomp k).From = 0 ∧ ((nth n.Decomp k).Tag ≠ [] → clE n.Classes (nth n.Decomp k).From = 0)) (fun y => y ≠ 0) (fun k hk => by
  simp only [ref21_Check_L2, lt_t hk, cond_true, idx_nth hk, some_bind, pv_bind, kind19, wi_succ (k := k) (by omega), hbt]
  by_cases h5 : hkE (nth n.Decomp k).From = 0
  ·
   simp only [h5, decide_true, Bool.not_true, Bool.not_false, gM_t, some_bind, Bool.true_and, Bool.false_or, true_and]
   by_cases ht : (nth n.Decomp k).Tag = []
   ·
    simp only [ht, decide_true, Bool.not_true, gM_f, some_bind, Bool.false_and, cond_false]
    exact .inl ⟨fun h => absurd rfl h, trivial⟩
   ·
    simp only [ht, decide_false, Bool.not_false, gM_t, some_bind, Bool.true_and, refClass (show n.Classes.length ≤ 1000 by have := hs.cl; omega) cv]
    exact ver_if (by simp [ht]) (by decide)
  ·
   have : (!decide (hkE (nth n.Decomp k).From = 0)) = true := by simp [h5]
   simp only [this, Bool.not_true, gM_f, some_bind, Bool.false_and, Bool.true_or, cond_true]
   exact .inr ⟨fun h => h5 h.1, 11, by decide, rfl⟩) (fun k hk => by simp only [ref21_Check_L2, lt_f hk, cond_false])
 rw [all_nth (p := fun m : Mapping => hkE m.From = 0 ∧ (m.Tag ≠ [] → clE n.Classes m.From = 0))] at l2
 rcases l2 with ⟨l2, hk⟩ | ⟨y, hy, l2, hk⟩
 case inr => rw [l2]; exact ⟨y, rfl, by simp only [hy, false_iff]; exact fun h => hk fun m hm => ⟨h.hk m hm, h.tc m hm⟩⟩
 rw [l2]
 simp only [some_bind, Sum.elim_inl]
 have hds : DS n.Decomp := ⟨fun k hk' => by
  have a := mv.lt k hk'
  have b := ne k hk'
  unfold mlt at a
  omega, fun m hm => (hk m hm).1, fun m hm => by have := mv.sz m hm; omega⟩
 have hms := ms_iff hds (by omega)
 rw [ends_eq hl hto, some_bind]
 have l3 := loop_ver0 (body := fun (x : Int) => ref21_Check_L3 n (rndF (updE n.Decomp) n.Decomp.length n.Decomp.length (List.replicate n.Decomp.length false)) x) n.Decomp.length (fun k => nth (rndF (updE n.Decomp) n.Decomp.length n.Decomp.length (List.replicate n.Decomp.length false)) k = true) (fun y => y ≠ 0) (fun k hk => by
  simp only [ref21_Check_L3, lt_t hk, cond_true, idx_nth (show k < (rndF (updE n.Decomp) n.Decomp.length n.Decomp.length (List.replicate n.Decomp.length false)).length by rw [rnd_len (by simp)]; exact hk), some_bind, wi_succ (k := k) (by omega)]
  exact ver_if (by simp) (by decide)) (fun k hk => by simp only [ref21_Check_L3, lt_f hk, cond_false])
 rw [ends_iff hds] at l3
 rcases l3 with ⟨l3, H⟩ | ⟨y, hy, l3, H⟩
 case inr => rw [l3]; exact ⟨y, rfl, by simp only [hy, false_iff]; exact fun h => H (hms.1 h.ms).1⟩
 rw [l3]
 simp only [some_bind, Sum.elim_inl]
 have hD := all_dd hds H
 rw [lens_eq hl hto false, some_bind, lens_eq hl hto true, some_bind]
 have l4 := loop_ver0 (body := fun (x : Int) => ref21_Check_L4 n (rndF (updL n.Decomp false) n.Decomp.length n.Decomp.length (List.replicate n.Decomp.length 0)) (rndF (updL n.Decomp true) n.Decomp.length n.Decomp.length (List.replicate n.Decomp.length 0)) x) n.Decomp.length (fun k => wt n.Decomp true (nth n.Decomp k).From ≤ 64) (fun y => y ≠ 0) (fun k hk => by
  have hmo : wt n.Decomp false (nth n.Decomp k).From ≤ wt n.Decomp true (nth n.Decomp k).From := wt_mono hds _ _
  simp only [ref21_Check_L4, lt_t hk, cond_true, idx_nth (show k < (rndF (updL n.Decomp false) n.Decomp.length n.Decomp.length (List.replicate n.Decomp.length 0)).length by rw [rnd_len (by simp)]; exact hk), idx_nth (show k < (rndF (updL n.Decomp true) n.Decomp.length n.Decomp.length (List.replicate n.Decomp.length 0)).length by rw [rnd_len (by simp)]; exact hk), some_bind, pv_bind, lens_ok hds hD (b := false) k hk, lens_ok hds hD (b := true) k hk, wi_succ (k := k) (by omega)]
  by_cases h6 : 64 < wt n.Decomp false (nth n.Decomp k).From
  ·
   simp only [h6, decide_true, Bool.not_true, gM_f, some_bind, Bool.true_or, cond_true]
   exact .inr ⟨by omega, 13, by decide, rfl⟩
  ·
   simp only [h6, decide_false, Bool.not_false, gM_t, some_bind, Bool.false_or]
   exact ver_if (by simp) (by decide)) (fun k hk => by simp only [ref21_Check_L4, lt_f hk, cond_false])
 rw [all_nth (p := fun m : Mapping => wt n.Decomp true m.From ≤ 64)] at l4
 rcases l4 with ⟨l4, W⟩ | ⟨y, hy, l4, W⟩
 ·
  rw [l4]
  exact ⟨0, rfl, by simp only [true_iff]; exact ⟨cv, mv, ca, ne, kd, fun m hm => (hk m hm).1, fun m hm => (hk m hm).2, hms.2 ⟨H, W⟩⟩⟩
 · rw [l4]; exact ⟨y, rfl, by simp only [hy, false_iff]; exact fun h => W (hms.1 h.ms).2⟩
theorem data21 {n : Norm} (hs : NSm n) (hok : okNorm n) : ref21_Data n = some (usN n) := by
 obtain ⟨e, he, hv⟩ := refVer hs hok
 unfold ref21_Data usN
 rw [he, some_bind]
 by_cases hz : e = 0
 · rw [if_pos (hv.1 hz)]; simp [hz]
 · rw [if_neg (fun h => hz (hv.2 h))]; simp [hz]
section
variable {c : Collation} (hs : Sm c) {l : List Span} (hcv : CV l) (hl : l.length ≤ 1000)
include hs
theorem rfind (codes : List Int) : ref43_find (datE c) codes = some (finE (datE c).Entries codes) := reffind_eq (dat_vd hs) (dat_len hs) rfl codes
theorem rM0 {text : List Int} (ht : text.length ≤ 1000) : ∀ (d k : Nat), text.length - k = d → k ≤ text.length → loopM (fun (x : Int × Int) => ref43_Matched_L0 text (datE c) x.1 x.2) (((lastF (pfx (datE c).Entries text) k : Nat) : Int), ((k + 1 : Nat) : Int)) = some ((lonF (datE c).Entries text : Nat) : Int) := by
 intro d
 induction d with
 | zero =>
  intro k h1 h2
  have : k = text.length := by omega
  subst this
  refine loopM_done ?_
  have e : decide (((text.length + 1 : Nat) : Int) ≤ (text.length : Int)) = false := by simp; omega
  simp only [ref43_Matched_L0, e, cond_false]
  rfl
 | succ d ih =>
  intro k h1 h2
  have e : decide (((k + 1 : Nat) : Int) ≤ (text.length : Int)) = true := by simp; omega
  have hb : ref43_Matched_L0 text (datE c) ((lastF (pfx (datE c).Entries text) k : Nat) : Int) ((k + 1 : Nat) : Int) = some (.next (((lastF (pfx (datE c).Entries text) (k + 1) : Nat) : Int), ((k + 1 + 1 : Nat) : Int))) := by
   simp only [ref43_Matched_L0, e, cond_true, slc_take (show k + 1 ≤ text.length by omega), some_bind, rfind hs, wi_succ (k := k + 1) (by omega)]
   have el : lastF (pfx (datE c).Entries text) (k + 1) = if pfx (datE c).Entries text (k + 1) = true then k + 1 else lastF (pfx (datE c).Entries text) k := rfl
   have : (finE (datE c).Entries (text.take (k + 1))).2 = pfx (datE c).Entries text (k + 1) := rfl
   rw [this, el]
   cases pfx (datE c).Entries text (k + 1) <;> rfl
  rw [loopM_next (body := fun (x : Int × Int) => ref43_Matched_L0 text (datE c) x.1 x.2) hb]
  exact ih (k + 1) (by omega) (by omega)
include hcv hl
theorem rM1 {text : List Int} : ∀ (r p s : List Int) (h : Int) (k : Nat), text.drop k = r → k ≤ text.length → p.length + s.length + r.length ≤ 1000 → text.length ≤ 1000 →
    ∃ (m : Nat) (q : List Int), loopM (fun (x : (List Int) × Int × Int × (List Int)) => ref43_Matched_L1 text l (datE c) x.1 x.2.1 x.2.2.1 x.2.2.2) (p, h, (k : Int), s) = some ((mtch (fun q => (finE (datE c).Entries q).2) (clE l) r p s h).1, (m : Int), q) ∧ m ≤ text.length ∧ q ++ text.drop m = (mtch (fun q => (finE (datE c).Entries q).2) (clE l) r p s h).2
  | [], p, s, h, k, hd, hk, _, _ => by
    have hge : text.length ≤ k := by have := congrArg List.length hd; simp at this; omega
    refine ⟨k, s, loopM_done ?_, hk, ?_⟩
    · simp only [ref43_Matched_L1, lt_f hge, pv_bind, gM_f, some_bind, Bool.false_and, cond_false]
      rfl
    · rw [hd]; simp [mtch]
  | x :: r, p, s, h, k, hd, hk, hn, ht => by
    have hlt : k < text.length := by have := congrArg List.length hd; simp at this; omega
    obtain ⟨hx, hd'⟩ := List.cons_eq_cons.1 ((List.drop_eq_getElem_cons hlt).symm.trans hd)
    simp only [List.length_cons] at hn
    have hj : ref43_join p x = some (p ++ [x]) := by
      unfold ref43_join
      rw [app_ok (by simp; omega), some_bind, List.nil_append, app_ok (by simp; omega)]
      rfl
    by_cases h0 : clE l x = 0
    · refine ⟨k, s, loopM_done ?_, hk, ?_⟩
      · simp only [ref43_Matched_L1, lt_t hlt, pv_bind, gM_t, idx_nat hlt, some_bind, hx, refStarter hl hcv, h0, decide_true, Bool.not_true, Bool.and_false, cond_false]
        unfold mtch; rw [if_pos h0]
      · unfold mtch; rw [if_pos h0, hd]
    · unfold mtch
      rw [if_neg h0]
      cases hb : ((finE (datE c).Entries (p ++ [x])).2 && decide (h < clE l x)) with
      | true =>
        rw [if_pos rfl]
        obtain ⟨m, q, e1, e2, e3⟩ := rM1 r (p ++ [x]) s h (k + 1) hd' (by omega) (by simp; omega) ht
        refine ⟨m, q, ?_, e2, e3⟩
        rw [← e1]
        refine loopM_next ?_
        simp only [ref43_Matched_L1, lt_t hlt, pv_bind, gM_t, idx_nat hlt, some_bind, hx, refStarter hl hcv, h0, decide_false, Bool.not_false, Bool.and_true, cond_true, refClass hl hcv, hj, rfind hs, hb, wi_succ (k := k) (by omega)]
      | false =>
        rw [if_neg (by simp)]
        obtain ⟨m, q, e1, e2, e3⟩ := rM1 r p (s ++ [x]) (max h (clE l x)) (k + 1) hd' (by omega) (by simp; omega) ht
        refine ⟨m, q, ?_, e2, e3⟩
        rw [← e1]
        refine loopM_next ?_
        simp only [ref43_Matched_L1, lt_t hlt, pv_bind, gM_t, idx_nat hlt, some_bind, hx, refStarter hl hcv, h0, decide_false, Bool.not_false, Bool.and_true, cond_true, cond_false, refClass hl hcv, hj, rfind hs, hb, app_ok (show s.length + [x].length ≤ 4294967296 by simp; omega), wi_succ (k := k) (by omega)]
noncomputable def mtE (c : Collation) (l : List Span) (text : List Int) : List Int × List Int := mtch (fun q => (finE (datE c).Entries q).2) (clE l) (text.drop (lonF (datE c).Entries text)) (text.take (lonF (datE c).Entries text)) [] 0
theorem matched_eq {text : List Int} (ht : text.length ≤ 1000) (h0 : text ≠ []) : ref43_Matched l (datE c) text = some (if lonF (datE c).Entries text = 0 then (text.take 1, text.drop 1, false) else ((mtE c l text).1, (mtE c l text).2, true)) := by
 have hpos : 0 < text.length := List.length_pos_iff.2 h0
 unfold ref43_Matched
 have h1 := rM0 hs ht text.length 0 (by omega) (by omega)
 have h1' : loopM (fun (x : Int × Int) => ref43_Matched_L0 text (datE c) x.1 x.2) (0, 1) = some ((lonF (datE c).Entries text : Nat) : Int) := h1
 rw [h1', some_bind]
 by_cases hz : lonF (datE c).Entries text = 0
 ·
  have e1 : decide (((lonF (datE c).Entries text : Nat) : Int) = 0) = true := by simp [hz]
  have s1 : slc text 0 1 = some (text.take 1) := slc_take (b := 1) hpos
  have s2 : slc text 1 (text.length) = some (text.drop 1) := slc_drop (a := 1) hpos
  rw [e1, cond_true, s1, some_bind, s2, some_bind, if_pos hz]
 ·
  have e1 : decide (((lonF (datE c).Entries text : Nat) : Int) = 0) = false := by simp; omega
  have hle : lonF (datE c).Entries text ≤ text.length := lastF_le _ _
  rw [e1, cond_false, slc_take hle, some_bind, app0 (by simp; omega), some_bind, if_neg hz]
  obtain ⟨m, q, r1, r2, r3⟩ := rM1 hs hcv hl (text := text) (text.drop (lonF (datE c).Entries text)) (text.take (lonF (datE c).Entries text)) [] 0 (lonF (datE c).Entries text) rfl hle (by simp; omega) ht
  have hinv := mtch_inv (fd := fun q => (finE (datE c).Entries q).2) (cl := clE l) (text.drop (lonF (datE c).Entries text)) (text.take (lonF (datE c).Entries text)) [] 0
  have hq : q.length + (text.drop m).length ≤ 4294967296 := by
   have := congrArg List.length r3
   rw [List.length_append] at this
   have h2 := hinv.2.1
   simp only [List.length_take, List.length_drop, List.length_nil] at h2
   omega
  rw [r1, some_bind]
  simp only [slc_drop r2, some_bind, app_ok hq, r3]
  rfl
end
theorem refstep_eq {n : Norm} {c : Collation} (hn : NSm n) (hok : okNorm n) (hs : Sm c) (hg : ∀ g ∈ c.Groups, g.Name.length ≤ MX) {text : List Int} (ht : text.length ≤ 1000) (h0 : text ≠ []) : ref43_Step n c text = some (stE c (clsOf n) text) := by
 have hpos : 0 < text.length := List.length_pos_iff.2 h0
 have hl : (clsOf n).length ≤ 1000 := by have := clsOf_len hn; omega
 have e0 : decide ((text.length : Int) = 0) = false := by simp; exact h0
 unfold ref43_Step
 rw [e0, cond_false, refdata_eq hs hg, some_bind, data21 hn hok, some_bind, ← clsOf_us, matched_eq hs (clsOf_cv n) hl ht h0, some_bind]
 have hst : 1 ≤ (stE c (clsOf n) text).1 ∧ _ := st_len (c := c) (l := clsOf n) h0
 unfold stE at hst ⊢
 by_cases hz : lonF (datE c).Entries text = 0
 ·
  have i0 : idx text (0 : Int) = some (nth text 0) := idx_nth (k := 0) hpos
  simp only [hz, if_true, Bool.not_false, cond_true, app0 (show (text.drop 1).length ≤ 1000 by simp; omega), some_bind, i0, refimplicit_eq hs hg]
 ·
  simp only [hz, if_false, Bool.not_true, cond_false] at hst ⊢
  have hlen : (mtE c (clsOf n) text).2.length ≤ 1000 := by unfold mtE; omega
  rw [app0 hlen, some_bind, rfind hs, some_bind]
  rfl
theorem law43_ColltableSteps_true (x : Unicodetextlaw43_Case) (ok : okUnicodetextlaw43_Case x) : law43_ColltableSteps x = some true := by
 unfold law43_ColltableSteps
 obtain ⟨b, hb, hp⟩ := few_eq x
 rw [hb, some_bind, alive43g]
 cases b with
 | false => rfl
 | true =>
 obtain ⟨hN, hC, hT⟩ := hp rfl
 have hg := okNames ok.2.1
 by_cases h0 : x.Text = []
 ·
  have e1 : colltable_Step x.N x.C x.Text = some (0, [], []) := by rw [h0]; unfold colltable_Step; rfl
  have e2 : ref43_Step x.N x.C x.Text = some (0, [], []) := by rw [h0]; unfold ref43_Step; rfl
  simp only [Bool.not_true, cond_false, e1, e2, some_bind, pv_bind, decide_true, gM_t, equal_eq (show ([] : List Int).length ≤ 1000 by simp), Bool.and_self, same_eq (show ([] : List Element).length ≤ 1000 by simp)]
 ·
  have h1 := step_eq hN ok.1 hC hg (show x.Text.length ≤ 1000 by omega) h0
  have h2 := refstep_eq hN ok.1 hC hg (show x.Text.length ≤ 1000 by omega) h0
  have h3 := st_lt (c := x.C) (l := clsOf x.N) h0
  have h4 := st_el hC (l := clsOf x.N) x.Text
  simp only [Bool.not_true, cond_false, h1, h2, some_bind, pv_bind, decide_true, gM_t, equal_eq (show (stE x.C (clsOf x.N) x.Text).2.1.length ≤ 1000 by omega), Bool.and_self, same_eq h4]
end Go.M


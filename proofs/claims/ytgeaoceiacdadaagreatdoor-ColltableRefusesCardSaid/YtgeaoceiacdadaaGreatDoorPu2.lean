/- What the plain counterparts answer. Conditions: none. -/
import Derived.Test.YtgeaoceiacdadaaGreatDoorPu1
set_option linter.unusedSimpArgs false
set_option linter.unusedVariables false
set_option linter.unnecessarySimpa false
namespace Go.M
open Go.AV
open Classical in
noncomputable def clsOf (n : Norm) : List Span := if VD0 n then n.Classes else []
theorem CV_nil : CV [] := ⟨fun k h => (by cases h), fun k h => (by cases h), fun k h => (by cases h)⟩
theorem clsOf_cv (n : Norm) : CV (clsOf n) := by
 unfold clsOf
 split
 · rename_i h; exact h.cv
 · exact CV_nil
theorem clsOf_len {n : Norm} (hs : NSm n) : (clsOf n).length ≤ 16 := by
 unfold clsOf
 split
 · exact hs.cl
 · simp
def topE (l : List Span) (t : Int) : Int := l.foldl (fun t s => max t s.Value) t
def tbl2 (c : Collation) (l : List Span) : Colltable_table := { tblE c with classes := l, top := topE l 0 }
theorem top_loop {l : List Span} (hl : l.length ≤ 1000) : ∀ (d k : Nat) (t : Int), l.length - k = d → k ≤ l.length → loopM (fun (x : Int × Int) => colltable_table_with_L0 l x.1 x.2) ((k : Int), t) = some (topE (l.drop k) t) := by
 intro d
 induction d with
 | zero =>
  intro k t h1 h2
  rw [List.drop_of_length_le (by omega)]
  refine loopM_done ?_
  simp only [colltable_table_with_L0, lt_f (show l.length ≤ k by omega), cond_false]
  rfl
 | succ d ih =>
  intro k t h1 h2
  have hk : k < l.length := by omega
  rw [List.drop_eq_getElem_cons hk]
  rw [loopM_next (x' := (((k + 1 : Nat) : Int), max t l[k].Value)) (by simp only [colltable_table_with_L0, lt_t hk, cond_true, idx_nat hk, some_bind, wi_succ (k := k) (by omega)])]
  exact ih (k + 1) _ (by omega) (by omega)
theorem with_eq {c : Collation} {n : Norm} (hs : NSm n) (hok : okNorm n) : colltable_table_with (tblE c) n = some (tbl2 c (clsOf n)) := by
 obtain ⟨e, he, hp⟩ := decVer hs hok
 unfold colltable_table_with
 rw [he, some_bind]
 have h1 : (cond (decide (e = 0)) (some n.Classes) (some (tblE c).classes) : Option (List Span)) = some (clsOf n) := by
  unfold clsOf
  by_cases h : e = 0
  · rw [if_pos (hp.1 h)]; simp [h]
  · rw [if_neg (fun hh => h (hp.2 hh))]; simp [h, tblE]
 rw [h1, some_bind]
 have h2 := top_loop (l := clsOf n) (by have := clsOf_len hs; omega) (clsOf n).length 0 0 (by omega) (by omega)
 rw [List.drop_zero] at h2
 have h2' : loopM (fun (x : Int × Int) => colltable_table_with_L0 (clsOf n) x.1 x.2) (0, (tblE c).top) = some (topE (clsOf n) 0) := h2
 rw [h2']
 rfl
theorem find2_eq {c : Collation} (hs : Sm c) {l : List Span} {codes : List Int} : colltable_table_find (tbl2 c l) codes = some (finE (datE c).Entries codes) := find_eq hs (codes := codes)
theorem class2_eq {c : Collation} {l : List Span} (h : CV l) (hl : l.length ≤ 1000) (x : Int) : colltable_table_class (tbl2 c l) x = some (clE l x) := by
 obtain ⟨j, hj, hr, hlo, hhi⟩ := bs_loop (n := l.length) hl (body := fun (q : Int × Int) => sort_Search_L0 (fun x0 => colltable_table_class_1 x0 (tbl2 c l) x) q.1 q.2) (fun k => decide (x ≤ (nth l k).Hi))
  (fun k _ => by simp only [sort_Search_L0, lt_f (Nat.le_refl _), cond_false])
  (fun lo hi h1 h2 => by
   have hm : (lo + hi) / 2 < l.length := by omega
   have hi1 : idx (tbl2 c l).classes (((lo + hi) / 2 : Nat) : Int) = some (nth l ((lo + hi) / 2)) := idx_nth hm
   simp only [sort_Search_L0, lt_t h1, cond_true, bs_mid (show lo + hi ≤ 4611686018427387903 by omega), colltable_table_class_1, hi1, some_bind, wi_succ (k := (lo + hi) / 2) (by omega)]
   by_cases hc : x ≤ (nth l ((lo + hi) / 2)).Hi <;> simp [hc])
  (fun i j hij hj hi => by
   have := h.hi hij hj
   simp only [decide_eq_true_eq] at hi ⊢
   omega)
 simp only [decide_eq_false_iff_not, decide_eq_true_eq] at hlo hhi
 unfold colltable_table_class sort_Search
 have e0 : (tbl2 c l).classes = l := rfl
 rw [e0, hr, cl_at h hj (fun k hk => by have := hlo k hk; omega) hhi]
 simp only [some_bind, pv_bind]
 by_cases hn : j < l.length
 ·
  simp only [lt_t hn, gM_t, idx_nth hn, some_bind, Bool.true_and, hn, true_and]
  by_cases hc2 : (nth l j).Lo ≤ x <;> simp [hc2]
 · simp only [lt_f (show l.length ≤ j by omega), gM_f, some_bind, Bool.false_and, cond_false, hn, false_and, if_false]
theorem top_ge : ∀ (l : List Span) (t : Int), t ≤ topE l t ∧ ∀ s ∈ l, s.Value ≤ topE l t
 | [], t => ⟨Int.le_refl _, fun s h => by cases h⟩
 | x :: l, t => by
  have ih := top_ge l (max t x.Value)
  refine ⟨by show t ≤ topE l (max t x.Value); omega, fun s hs => ?_⟩
  show s.Value ≤ topE l (max t x.Value)
  rcases List.mem_cons.1 hs with rfl | hs
  · omega
  · exact ih.2 s hs
theorem cl_le {l : List Span} (x : Int) : clE l x ≤ topE l 0 := by
 unfold clE
 cases hf : l.find? (inSp x) with
 | none => exact (top_ge l 0).1
 | some s => exact (top_ge l 0).2 s (List.mem_of_find?_eq_some hf)
theorem cl_nn {l : List Span} (h : CV l) (x : Int) : 0 ≤ clE l x := by
 unfold clE
 cases hf : l.find? (inSp x) with
 | none => exact Int.le_refl _
 | some s =>
  have := List.mem_of_find?_eq_some hf
  obtain ⟨k, hk, rfl⟩ := List.getElem_of_mem this
  have := h.sp k hk
  rw [nth_eq hk] at this
  unfold spOk at this
  show 0 ≤ (l[k]).Value
  omega
def lastF (p : Nat → Bool) : Nat → Nat
 | 0 => 0
 | k + 1 => if p (k + 1) then k + 1 else lastF p k
theorem lastF_le (p : Nat → Bool) : ∀ k, lastF p k ≤ k
 | 0 => Nat.le_refl _
 | k + 1 => by unfold lastF; split; omega; have := lastF_le p k; omega
theorem lastF_cut {p : Nat → Bool} {m : Nat} : ∀ {k : Nat}, m ≤ k → (∀ j, m < j → j ≤ k → p j = false) → lastF p k = lastF p m
  | 0, h, _ => by have : m = 0 := by omega
                  rw [this]
  | k + 1, h, hp => by
    by_cases e : m = k + 1
    · rw [e]
    · unfold lastF
      rw [hp (k + 1) (by omega) (Nat.le_refl _)]
      simp only [Bool.false_eq_true, if_false]
      rw [lastF_cut (m := m) (by omega) fun j h1 h2 => hp j h1 (by omega)]
      cases m <;> rfl
def pfx (es : List Entry) (text : List Int) (k : Nat) : Bool := (finE es (text.take k)).2
def lonF (es : List Entry) (text : List Int) : Nat := lastF (pfx es text) text.length
def mtch (fd : List Int → Bool) (cl : Int → Int) : List Int → List Int → List Int → Int → List Int × List Int
 | [], p, s, _ => (p, s)
 | x :: r, p, s, h => if cl x = 0 then (p, s ++ x :: r) else if fd (p ++ [x]) && decide (h < cl x) then mtch fd cl r (p ++ [x]) s h else mtch fd cl r p (s ++ [x]) (max h (cl x))
theorem mtch_skip {fd : List Int → Bool} {cl : Int → Int} : ∀ (r p s : List Int) (h : Int), (∀ x, cl x ≤ h) → mtch fd cl r p s h = (p, s ++ r)
 | [], p, s, h, _ => by simp [mtch]
 | x :: r, p, s, h, hc => by
  have hx := hc x
  unfold mtch
  split
  · rfl
  ·
   have e : decide (h < cl x) = false := by simp; omega
   rw [e, Bool.and_false, if_neg (by simp), mtch_skip r p (s ++ [x]) (max h (cl x)) (fun y => by have := hc y; omega)]
   simp
theorem mtch_inv {fd : List Int → Bool} {cl : Int → Int} : ∀ (r p s : List Int) (h : Int), p.length ≤ (mtch fd cl r p s h).1.length ∧ (mtch fd cl r p s h).1.length + (mtch fd cl r p s h).2.length = p.length + s.length + r.length ∧ ((mtch fd cl r p s h).1.length = p.length → mtch fd cl r p s h = (p, s ++ r))
 | [], p, s, h => by simp [mtch]
 | x :: r, p, s, h => by
  unfold mtch
  split
  · refine ⟨Nat.le_refl _, by simp; omega, fun _ => rfl⟩
  ·
   split
   ·
    have ih := mtch_inv (fd := fd) (cl := cl) r (p ++ [x]) s h
    simp only [List.length_append, List.length_cons, List.length_nil] at ih ⊢
    exact ⟨by omega, by omega, fun e => by omega⟩
   ·
    have ih := mtch_inv (fd := fd) (cl := cl) r p (s ++ [x]) (max h (cl x))
    simp only [List.length_append, List.length_cons, List.length_nil] at ih ⊢
    refine ⟨ih.1, by omega, fun e => ?_⟩
    rw [ih.2.2 e]; simp
section
variable {c : Collation} (hs : Sm c) {l : List Span} (hcv : CV l) (hl : l.length ≤ 1000)
include hs
theorem mL0 {text : List Int} (ht : text.length ≤ 1000) : ∀ k, k ≤ text.length → loopM (fun (x : Int) => colltable_table_match_L0 text (tbl2 c l) x) (k : Int) = some ((lastF (pfx (datE c).Entries text) k : Nat) : Int)
 | 0, _ => by
  refine loopM_done ?_
  have : decide ((0 : Int) < ((0 : Nat) : Int)) = false := rfl
  simp only [colltable_table_match_L0, this, cond_false]
  rfl
 | k + 1, hk => by
  have hd : decide ((0 : Int) < ((k + 1 : Nat) : Int)) = true := by simp <;> omega
  have ih := mL0 ht k (by omega)
  unfold lastF
  cases hp : pfx (datE c).Entries text (k + 1) with
  | true =>
   rw [if_pos rfl]
   refine loopM_done ?_
   unfold pfx at hp
   simp only [colltable_table_match_L0, hd, cond_true, slc_take hk, some_bind, find2_eq hs, hp]
  | false =>
   rw [if_neg (by simp), ← ih]
   refine loopM_next ?_
   unfold pfx at hp
   simp only [colltable_table_match_L0, hd, cond_true, slc_take hk, some_bind, find2_eq hs, hp, cond_false, wi_pred (k := k) (by omega)]
omit hs in
theorem pfx_long {text : List Int} {k : Nat} (hk : k ≤ text.length) (h : lonE (datE c).Entries 0 < (k : Int)) : pfx (datE c).Entries text k = false := by
 have h1 := lon_le (datE c).Entries 0
 unfold pfx finE
 have : (datE c).Entries.find? (fun x => decide (x.Codes = text.take k)) = none := by
  rw [List.find?_eq_none]
  intro x hx
  simp only [decide_eq_true_eq]
  intro e
  have h2 := h1.2 x hx
  rw [e] at h2
  have : (text.take k).length = k := by simp; omega
  omega
 rw [this]
theorem mL0_eq {text : List Int} (ht : text.length ≤ 1000) : loopM (fun (x : Int) => colltable_table_match_L0 text (tbl2 c l) x) (min (tbl2 c l).longest (text.length : Int)) = some ((lonF (datE c).Entries text : Nat) : Int) := by
 have h1 := lon_le (datE c).Entries 0
 have e : (tbl2 c l).longest = lonE (datE c).Entries 0 := rfl
 rw [e]
 obtain ⟨m, hm⟩ : ∃ m : Nat, min (lonE (datE c).Entries 0) (text.length : Int) = (m : Int) := ⟨(min (lonE (datE c).Entries 0) (text.length : Int)).toNat, by omega⟩
 rw [hm, mL0 hs ht m (by omega)]
 unfold lonF
 rw [lastF_cut (p := pfx (datE c).Entries text) (m := m) (k := text.length) (by omega) fun j h2 h3 => pfx_long h3 (by omega)]
omit hs in
theorem cp_mid {p s r : List Int} {x : Int} : setM (cpM (p ++ s ++ x :: r) ((p.length + 1 : Nat) : Int) ((p.length + s.length + 1 : Nat) : Int) (p.length : Int) ((p.length + s.length : Nat) : Int)) (p.length : Int) x = some ((p ++ [x]) ++ s ++ r) := by
 have e1 : ((p ++ s ++ x :: r).drop p.length).take (p.length + s.length - p.length) = s := by
  rw [List.append_assoc, List.drop_left]
  have : p.length + s.length - p.length = s.length := by omega
  rw [this, List.take_left]
 have e2 : min (p.length + s.length - p.length) (p.length + s.length + 1 - (p.length + 1)) = s.length := by omega
 unfold cpM
 simp only [Int.toNat_natCast]
 rw [e1, e2, List.take_of_length_le (Nat.le_refl _)]
 cases s with
 | nil =>
  have hx : (p ++ [] ++ x :: r) = p ++ x :: r := by simp
  rw [hx]
  have e3 : (p ++ x :: r).take (p.length + 1) = p ++ [x] := by
   rw [List.take_append, List.take_of_length_le (by omega)]
   simp
  have e4 : (p ++ x :: r).drop (p.length + 1 + ([] : List Int).length) = r := by
   rw [List.drop_append, List.drop_of_length_le (by simp)]
   simp
  rw [e3, e4]
  have : p ++ [x] ++ [] ++ r = p ++ x :: r := by simp
  rw [this, setM_mid rfl]
 | cons y s =>
  have hx : (p ++ (y :: s) ++ x :: r) = p ++ y :: (s ++ x :: r) := by simp
  rw [hx]
  have e3 : (p ++ y :: (s ++ x :: r)).take (p.length + 1) = p ++ [y] := by
   rw [List.take_append, List.take_of_length_le (by omega)]
   simp
  have e4 : (p ++ y :: (s ++ x :: r)).drop (p.length + 1 + (y :: s).length) = r := by
   have : p ++ y :: (s ++ x :: r) = (p ++ y :: (s ++ [x])) ++ r := by simp
   rw [this, List.drop_left' (by simp; omega)]
  rw [e3, e4]
  have : p ++ [y] ++ (y :: s) ++ r = p ++ y :: ((y :: s) ++ r) := by simp
  rw [this, setM_mid rfl]
  simp
include hcv hl
theorem mL1 : ∀ (r p s : List Int) (h : Int), p.length + s.length + r.length ≤ 1000 →
    loopM (fun (x : Int × Int × Int × (List Int)) => colltable_table_match_L1 (tbl2 c l) x.1 x.2.1 x.2.2.1 x.2.2.2) ((p.length : Int), h, ((p.length + s.length : Nat) : Int), p ++ s ++ r) =
      some ((((mtch (fun q => (finE (datE c).Entries q).2) (clE l) r p s h).1.length : Nat) : Int), (mtch (fun q => (finE (datE c).Entries q).2) (clE l) r p s h).1 ++ (mtch (fun q => (finE (datE c).Entries q).2) (clE l) r p s h).2)
  | [], p, s, h, _ => by
    refine loopM_done ?_
    have : decide (((p.length + s.length : Nat) : Int) < ((p ++ s ++ []).length : Int)) = false := by simp
    simp only [colltable_table_match_L1, pv_bind, this, Bool.false_and, cond_false]
    simp [mtch]
  | x :: r, p, s, h, hn => by
    simp only [List.length_cons] at hn
    have hd : decide (((p.length + s.length : Nat) : Int) < ((p ++ s ++ x :: r).length : Int)) = true := by simp <;> omega
    have hi : idx (p ++ s ++ x :: r) ((p.length + s.length : Nat) : Int) = some x := idx_mid (by simp)
    have etop : (tbl2 c l).top = topE l 0 := rfl
    by_cases htop : h < topE l 0
    · have hd2 : decide (h < (tbl2 c l).top) = true := by rw [etop]; simpa using htop
      by_cases h0 : clE l x = 0
      · refine loopM_done ?_
        simp only [colltable_table_match_L1, pv_bind, hd, hd2, Bool.and_self, cond_true, hi, some_bind, class2_eq hcv hl, h0, decide_true, Sum.elim_inl]
        unfold mtch
        rw [if_pos h0]
        simp
      · unfold mtch
        rw [if_neg h0]
        by_cases hk : clE l x ≤ h
        · have e : decide (h < clE l x) = false := by simp; omega
          rw [e, Bool.and_false, if_neg (by simp)]
          rw [loopM_next (x' := ((p.length : Int), h, ((p.length + (s ++ [x]).length : Nat) : Int), p ++ (s ++ [x]) ++ r)) (by
            have e2 : p ++ (s ++ [x]) ++ r = p ++ s ++ x :: r := by simp
            have e3 : p.length + (s ++ [x]).length = p.length + s.length + 1 := by simp; omega
            rw [e2, e3]
            simp only [colltable_table_match_L1, pv_bind, hd, hd2, Bool.and_self, cond_true, hi, some_bind, class2_eq hcv hl, h0, hk, decide_true, decide_false, cond_false, Sum.elim_inr, wi_succ (k := p.length + s.length) (by omega)])]
          have := mL1 r p (s ++ [x]) h (by simp; omega)
          rw [show max h (clE l x) = h by omega]
          exact this
        · have e : decide (h < clE l x) = true := by simp; omega
          rw [e, Bool.and_true]
          have s1 : slc (p ++ s ++ x :: r) 0 (p.length : Int) = some p := by
            rw [slc_take (by simp)]
            simp
          have a1 : app p [x] = some (p ++ [x]) := app_ok (by simp; omega)
          cases hf : (finE (datE c).Entries (p ++ [x])).2 with
          | false =>
            rw [if_neg (by simp)]
            rw [loopM_next (x' := ((p.length : Int), clE l x, ((p.length + (s ++ [x]).length : Nat) : Int), p ++ (s ++ [x]) ++ r)) (by
              have e2 : p ++ (s ++ [x]) ++ r = p ++ s ++ x :: r := by simp
              have e3 : p.length + (s ++ [x]).length = p.length + s.length + 1 := by simp; omega
              rw [e2, e3]
              simp only [colltable_table_match_L1, pv_bind, hd, hd2, Bool.and_self, cond_true, hi, some_bind, class2_eq hcv hl, h0, hk, decide_false, cond_false, s1, a1, find2_eq hs, hf, Bool.not_false, Sum.elim_inr, wi_succ (k := p.length + s.length) (by omega)])]
            have := mL1 r p (s ++ [x]) (clE l x) (by simp; omega)
            rw [show max h (clE l x) = clE l x by omega]
            exact this
          | true =>
            rw [if_pos rfl]
            have sc1 : ∃ q, slc (p ++ s ++ x :: r) ((p.length + 1 : Nat) : Int) ((p.length + s.length + 1 : Nat) : Int) = some q := ⟨_, slc_ok (by omega) (by simp; omega)⟩
            have sc2 : ∃ q, slc (p ++ s ++ x :: r) (p.length : Int) ((p.length + s.length : Nat) : Int) = some q := ⟨_, slc_ok (by omega) (by simp)⟩
            obtain ⟨q1, hq1⟩ := sc1
            obtain ⟨q2, hq2⟩ := sc2
            have hcp := cp_mid (p := p) (s := s) (r := r) (x := x)
            obtain ⟨_, _, hlt⟩ := setM_some hcp
            have hix : ∃ q, idx (cpM (p ++ s ++ x :: r) ((p.length + 1 : Nat) : Int) ((p.length + s.length + 1 : Nat) : Int) (p.length : Int) ((p.length + s.length : Nat) : Int)) (p.length : Int) = some q := ⟨_, idx_nat (by simpa using hlt)⟩
            obtain ⟨q3, hq3⟩ := hix
            rw [loopM_next (x' := (((p ++ [x]).length : Int), h, (((p ++ [x]).length + s.length : Nat) : Int), (p ++ [x]) ++ s ++ r)) (by
              have e3 : (p ++ [x]).length + s.length = p.length + s.length + 1 := by simp; omega
              have e4 : (p ++ [x]).length = p.length + 1 := by simp
              rw [e3, e4]
              simp only [colltable_table_match_L1, pv_bind, hd, hd2, Bool.and_self, cond_true, hi, some_bind, class2_eq hcv hl, h0, hk, decide_false, cond_false, s1, a1, find2_eq hs, hf, Bool.not_true, wi_succ (k := p.length + s.length) (by omega), wi_succ (k := p.length) (by omega), hq1, hq2, hq3, hcp, Sum.elim_inr])]
            exact mL1 r (p ++ [x]) s h (by simp; omega)
    · have hd2 : decide (h < (tbl2 c l).top) = false := by rw [etop]; simpa using htop
      have hm := mtch_skip (fd := fun q => (finE (datE c).Entries q).2) (cl := clE l) (x :: r) p s h (fun y => by have := cl_le (l := l) y; omega)
      rw [hm]
      refine loopM_done ?_
      simp only [colltable_table_match_L1, pv_bind, hd, hd2, Bool.and_false, cond_false, List.append_assoc]
noncomputable def stE (c : Collation) (l : List Span) (text : List Int) : Int × List Int × List Element := if lonF (datE c).Entries text = 0 then (1, text.drop 1, impE (datE c) (nth text 0)) else
 ((((mtch (fun q => (finE (datE c).Entries q).2) (clE l) (text.drop (lonF (datE c).Entries text)) (text.take (lonF (datE c).Entries text)) [] 0).1.length : Nat) : Int), (mtch (fun q => (finE (datE c).Entries q).2) (clE l) (text.drop (lonF (datE c).Entries text)) (text.take (lonF (datE c).Entries text)) [] 0).2, (finE (datE c).Entries (mtch (fun q => (finE (datE c).Entries q).2) (clE l) (text.drop (lonF (datE c).Entries text)) (text.take (lonF (datE c).Entries text)) [] 0).1).1)
theorem match_eq {text : List Int} (ht : text.length ≤ 1000) (h0 : text ≠ []) : ∃ seq, colltable_table_match (tbl2 c l) text = some ((stE c l text).1, (stE c l text).2.2, decide (lonF (datE c).Entries text ≠ 0), seq) ∧ slc seq (stE c l text).1 (seq.length : Int) = some (stE c l text).2.1 := by
 unfold colltable_table_match
 rw [mL0_eq hs ht, some_bind]
 have hpos : 0 < text.length := List.length_pos_iff.2 h0
 by_cases hz : lonF (datE c).Entries text = 0
 ·
  have e1 : decide (((lonF (datE c).Entries text : Nat) : Int) = 0) = true := by simp [hz]
  have i0 : idx text (0 : Int) = some (nth text 0) := idx_nth (k := 0) hpos
  have hst : stE c l text = (1, text.drop 1, impE (datE c) (nth text 0)) := by unfold stE; rw [if_pos hz]
  have him : colltable_table_implicit (tbl2 c l) (nth text 0) = some (impE (datE c) (nth text 0)) := implicit_eq c (nth text 0)
  rw [e1, cond_true, i0, some_bind, him, some_bind, hst]
  refine ⟨text, ?_, ?_⟩
  · simp [hz]
  · exact slc_drop (l := text) (a := 1) (by omega)
 ·
  have e1 : decide (((lonF (datE c).Entries text : Nat) : Int) = 0) = false := by simp; omega
  rw [e1, cond_false]
  have hle : lonF (datE c).Entries text ≤ text.length := lastF_le _ _
  have h1 := mL1 hs hcv hl (text.drop (lonF (datE c).Entries text)) (text.take (lonF (datE c).Entries text)) [] 0 (by simp; omega)
  have e2 : (text.take (lonF (datE c).Entries text)).length = lonF (datE c).Entries text := by simp; omega
  have e3 : text.take (lonF (datE c).Entries text) ++ [] ++ text.drop (lonF (datE c).Entries text) = text := by simp
  rw [e3, e2] at h1
  simp only [List.length_nil, Nat.add_zero] at h1
  rw [h1, some_bind]
  have hst : stE c l text = ((((mtch (fun q => (finE (datE c).Entries q).2) (clE l) (text.drop (lonF (datE c).Entries text)) (text.take (lonF (datE c).Entries text)) [] 0).1.length : Nat) : Int), (mtch (fun q => (finE (datE c).Entries q).2) (clE l) (text.drop (lonF (datE c).Entries text)) (text.take (lonF (datE c).Entries text)) [] 0).2, (finE (datE c).Entries (mtch (fun q => (finE (datE c).Entries q).2) (clE l) (text.drop (lonF (datE c).Entries text)) (text.take (lonF (datE c).Entries text)) [] 0).1).1) := by unfold stE; rw [if_neg hz]
  rw [hst]
  generalize mtch (fun q => (finE (datE c).Entries q).2) (clE l) (text.drop (lonF (datE c).Entries text)) (text.take (lonF (datE c).Entries text)) [] 0 = q
  have s1 : slc (q.1 ++ q.2) 0 ((q.1.length : Nat) : Int) = some q.1 := by rw [slc_take (by simp)]; simp
  simp only [s1, some_bind, find2_eq hs]
  refine ⟨q.1 ++ q.2, ?_, ?_⟩
  · simp [hz]
  · rw [slc_drop (by simp)]; simp
end
theorem step_eq {n : Norm} {c : Collation} (hn : NSm n) (hok : okNorm n) (hs : Sm c) (hg : ∀ g ∈ c.Groups, g.Name.length ≤ MX) {text : List Int} (ht : text.length ≤ 1000) (h0 : text ≠ []) : colltable_Step n c text = some (stE c (clsOf n) text) := by
 have hpos : 0 < text.length := List.length_pos_iff.2 h0
 have hl : (clsOf n).length ≤ 1000 := by have := clsOf_len hn; omega
 obtain ⟨seq, h1, h2⟩ := match_eq hs (clsOf_cv n) hl ht h0
 unfold colltable_Step slices_Clone_int_int slices_Clone_api_Element_api_Element
 have e0 : decide ((text.length : Int) = 0) = false := by simp; omega
 rw [e0, cond_false, app0 ht, some_bind, made_eq hs hg, some_bind, with_eq hn hok, some_bind, h1, some_bind]
 simp only [h2, some_bind]
 have hlen : (stE c (clsOf n) text).2.2.length ≤ 1000 := by
  unfold stE
  split
  · exact imp_len _ _
  · exact fin_len (dat_vd hs) _
 rw [app0 hlen]
 rfl
end Go.M
namespace Go.M
open Go.AV
def n0 : Norm := { Classes := [{ Lo := 769, Hi := 769, Value := 230 }, { Lo := 803, Hi := 803, Value := 220 }], Decomp := [], Excluded := { Ranges := [] } }
def c0 : Collation := { Entries := [{ Codes := [97], Elements := [{ Primary := 7, Secondary := 1, Tertiary := 1, Variable := false }] }, { Codes := [97, 769], Elements := [{ Primary := 8, Secondary := 1, Tertiary := 1, Variable := false }] }], Groups := [], Base := 100, Second := 1, Third := 1 }
theorem n0_valid : VD0 n0 := by
 refine ⟨⟨fun k hk => ?_, fun k hk => ?_, fun k hk => ?_⟩, ⟨fun m hm => (by cases hm), fun m hm => (by cases hm), fun m hm => (by cases hm), fun k hk => (by cases hk)⟩, trivial, fun k hk => (by cases hk), fun m hm => (by cases hm), fun m hm => (by cases hm), fun m hm => (by cases hm), ?_⟩
 ·
  have hk' : k < 2 := hk
  match k, hk' with
  | 0, _ => unfold spOk nth n0; decide
  | 1, _ => unfold spOk nth n0; decide
 ·
  have hk' : k + 1 < 2 := hk
  match k, hk' with
  | 0, _ => unfold adOk nth n0; decide
 ·
  have hk' : k < 2 := hk
  match k, hk' with
  | 0, _ => unfold hgOk nth n0; decide
  | 1, _ => unfold hgOk nth n0; decide
 ·
  unfold decompose_measure
  rw [loopM_done (y := (false, false)) (by rfl)]
  rfl
theorem n0_small : NSm n0 := ⟨by decide, by decide, fun m hm => (by cases hm), fun m hm => (by cases hm), by decide⟩
theorem n0_ok : okNorm n0 := by unfold okNorm okSpan okSet n0; simp
theorem c0_small : Sm c0 := ⟨by decide, by decide, by decide, by decide⟩
theorem c0_st : stE c0 n0.Classes [97, 803, 769] = (2, [803], [{ Primary := 8, Secondary := 1, Tertiary := 1, Variable := false }]) := by decide
theorem c0_ck : ckE c0 = 0 := by decide
theorem alive43g : law43_alive = some true := by
  have hcl : clsOf n0 = n0.Classes := by unfold clsOf; rw [if_pos n0_valid]
  have h1 := step_eq (n := n0) (c := c0) n0_small n0_ok c0_small (fun g hg => by cases hg) (text := [97, 803, 769]) (by decide) (by simp)
  rw [hcl, c0_st] at h1
  have h2 : colltable_Check c0 = some 0 := by rw [check_eq c0_small (fun g hg => by cases hg), c0_ck]
  have e : law43_alive = (colltable_Step n0 c0 [97, 803, 769]).bind fun t28 =>
      (colltable_Check c0).bind fun t33 =>
      (pv (decide (t33 = 0))).bind fun b35 =>
      (pv (b35 && (decide (t28.1 = 2)))).bind fun b39 =>
      (gM b39 (ref01_Equal t28.2.1 [803])).bind fun t42 =>
      (pv (b39 && t42)).bind fun b44 =>
      (gM b44 (ref43_Same t28.2.2 [({ Primary := 8, Secondary := 1, Tertiary := 1, Variable := false } : Element)])).bind fun t47 =>
      some (b44 && t47) := rfl
  rw [e, h1, some_bind, h2, some_bind]
  simp only [pv_bind, decide_true, Bool.and_self, gM_t, equal_eq (a := [803]) (b := [803]) (by decide), some_bind, same_eq (a := [({ Primary := 8, Secondary := 1, Tertiary := 1, Variable := false } : Element)]) (by decide)]
theorem few_eq (x : Unicodetextlaw43_Case) : ∃ b, law43_few x = some b ∧ (b = true → NSm x.N ∧ Sm x.C ∧ x.Text.length ≤ 12) := by
 obtain ⟨b, hb, hp⟩ := small21 x.N
 unfold law43_few
 rw [hb]
 simp only [some_bind, pv_bind]
 cases b with
 | false => exact ⟨false, rfl, fun h => by cases h⟩
 | true =>
  simp only [gM_t, small_eq, some_bind, Bool.true_and]
  refine ⟨_, rfl, fun h => ?_⟩
  simp only [Bool.and_eq_true, decide_eq_true_eq] at h
  exact ⟨hp rfl, smB_sm h.1, by omega⟩
end Go.M
namespace Go.M
open Go.AV
theorem once_eqB {n : Norm} (h : DS n.Decomp) (hl : n.Decomp.length ≤ 1000) (c : Int) (b : Bool) : decompose_once n c b = some (if syl c = true then (hdE c, true) else ((fnB n.Decomp b c).getD [], (fnB n.Decomp b c).isSome)) := by
 unfold decompose_once
 rw [kind_eq, some_bind]
 by_cases hs : syl c = true
 ·
  have e : decide (4 ≤ hkE c) = true := by simpa using (syl_iff c).1 hs
  simp only [e, cond_true, hdec_eq hs, some_bind, hs, if_true]
 ·
  have e : decide (4 ≤ hkE c) = false := by simp only [decide_eq_false_iff_not]; exact fun hh => hs ((syl_iff c).2 hh)
  simp only [Bool.not_eq_true] at hs
  simp only [e, cond_false, hs, Bool.false_eq_true, if_false]
  obtain ⟨i, hb, hp⟩ := msearch h hl c
  rw [hb]
  simp only [some_bind, pv_bind]
  unfold fnB
  cases hf : n.Decomp.find? (isF c) with
  | none => simp [gM_f]
  | some m =>
   obtain ⟨h1, h2⟩ := hp m hf
   simp only [Option.isSome_some, Bool.not_true, Bool.not_false, gM_t, idx_nth h1, h2, some_bind, Bool.false_or]
   cases b <;> cases hm : (m.Tag == []) <;> simp [hm]
section
variable {n : Norm} {b : Bool} (hd : DS n.Decomp) (hl : n.Decomp.length ≤ 1000) (hD : ∀ c, DD n.Decomp n.Decomp.length c) (hw : ∀ c, (fu n.Decomp b c).length ≤ 64)
def XOk (l : List Mapping) (b : Bool) (m : List (Int × List Int)) : Prop := ∀ k v, mget m k = some v → v = fu l b k
def xneed (l : List Mapping) (f : Nat) (c : Int) : Prop := (∃ k, DD l k c ∧ k + 2 ≤ f) ∨ (l.find? (isF c) = none ∧ syl c = false ∧ 1 ≤ f)
include hw in
theorem x_loop {f : Nat} (ih : ∀ c m, XOk n.Decomp b m → xneed n.Decomp f c → ∃ m', decompose_expander_1 f c m n b = some (fu n.Decomp b c, m') ∧ XOk n.Decomp b m') (L : List Int) (hL : L.length ≤ 1000) (hn : ∀ e ∈ L, xneed n.Decomp f e) :
    ∀ (d i : Nat) (acc : List Int) (m : List (Int × List Int)), L.length - i = d → i ≤ L.length → acc.length ≤ 64 * i → XOk n.Decomp b m →
      ∃ m', loopM (fun (x : Int × (List Int) × (List (Int × (List Int)))) => decompose_expander_1_L0 (L, true) (decompose_expander_1 f) n b x.1 x.2.1 x.2.2) ((i : Int), acc, m) = some (acc ++ (L.drop i).flatMap (fu n.Decomp b), m') ∧ XOk n.Decomp b m' := by
  intro d
  induction d with
  | zero =>
    intro i acc m h1 h2 h3 h4
    refine ⟨m, ?_, h4⟩
    refine loopM_done ?_
    rw [List.drop_of_length_le (show L.length ≤ i by omega)]
    simp only [decompose_expander_1_L0, lt_f (show L.length ≤ i by omega), cond_false, List.flatMap_nil, List.append_nil]
  | succ d ihd =>
    intro i acc m h1 h2 h3 h4
    have hi : i < L.length := by omega
    obtain ⟨m1, hr, r1⟩ := ih L[i] m h4 (hn _ (List.getElem_mem hi))
    have hw1 := hw L[i]
    have ha : app acc (fu n.Decomp b L[i]) = some (acc ++ fu n.Decomp b L[i]) := app_ok (by omega)
    rw [loopM_next (x' := (((i + 1 : Nat) : Int), acc ++ fu n.Decomp b L[i], m1)) (by
      simp only [decompose_expander_1_L0, lt_t hi, cond_true, idx_nat hi, some_bind, hr, ha, wi_succ (k := i) (by omega)])]
    obtain ⟨m2, hq, q1⟩ := ihd (i + 1) (acc ++ fu n.Decomp b L[i]) m1 (by omega) (by omega) (by rw [List.length_append]; omega) r1
    refine ⟨m2, ?_, q1⟩
    rw [hq, List.drop_eq_getElem_cons hi, List.flatMap_cons, List.append_assoc]
include hd hl hD hw in
theorem ex_eq : ∀ (f : Nat) (c : Int) (m : List (Int × List Int)), XOk n.Decomp b m → xneed n.Decomp f c → ∃ m', decompose_expander_1 f c m n b = some (fu n.Decomp b c, m') ∧ XOk n.Decomp b m' := by
 intro f
 induction f with
 | zero => intro c m _ hn; exfalso; rcases hn with ⟨k, _, h⟩ | ⟨_, _, h⟩ <;> omega
 | succ f ih =>
  intro c m hm hn
  show ∃ m', decompose_expander_1_B (decompose_expander_1 f) c m n b = some _ ∧ _
  unfold decompose_expander_1_B
  cases hh : mhas m c with
  | true =>
   obtain ⟨v, hv⟩ := Option.isSome_iff_exists.1 hh
   have hg : mgetD m c [] = v := by unfold mgetD; rw [hv]; rfl
   rw [cond_true, hg, hm c v hv]
   exact ⟨m, rfl, hm⟩
  | false =>
   rw [cond_false, once_eqB hd hl, some_bind]
   have fin : ∀ (L : List Int), L.length ≤ 1000 → (∀ e ∈ L, xneed n.Decomp f e) → L.flatMap (fu n.Decomp b) = fu n.Decomp b c → ∃ m', (cond (!((L, true) : List Int × Bool).2) (some ([c], m)) ((loopM (fun (x : Int × (List Int) × (List (Int × (List Int)))) => decompose_expander_1_L0 (L, true) (decompose_expander_1 f) n b x.1 x.2.1 x.2.2) (0, [], m)).bind fun (y1 : (List Int) × (List (Int × (List Int)))) => some (y1.1, mput y1.2 c y1.1))) = some (fu n.Decomp b c, m') ∧ XOk n.Decomp b m' := by
    intro L hL hne hfl
    obtain ⟨m1, hq, q1⟩ := x_loop hw ih L hL hne L.length 0 [] m (by omega) (by omega) (by simp) hm
    rw [List.drop_zero, List.nil_append, hfl] at hq
    have hq' : loopM (fun (x : Int × (List Int) × (List (Int × (List Int)))) => decompose_expander_1_L0 (L, true) (decompose_expander_1 f) n b x.1 x.2.1 x.2.2) (0, [], m) = some (fu n.Decomp b c, m1) := hq
    simp only [Bool.not_true, cond_false]
    rw [hq']
    refine ⟨mput m1 c (fu n.Decomp b c), rfl, fun k v hk => ?_⟩
    rw [mget_mput] at hk
    split at hk
    · rename_i hx; cases hk; rw [hx]
    · exact q1 k v hk
   cases hs : syl c with
   | true =>
    simp only [if_true]
    have hnone := syl_none hd hs
    have hpt : ∀ e ∈ hdE c, n.Decomp.find? (isF e) = none ∧ syl e = false := by
     intro e he
     obtain ⟨p1, p2⟩ := hd_parts hs he
     refine ⟨?_, p1⟩
     cases hf2 : n.Decomp.find? (isF e) with
     | none => rfl
     | some m => obtain ⟨q1, rfl⟩ := fd_from hf2; exact absurd (hd.hk m q1) p2
    refine fin (hdE c) (by have := hd_len c; omega) (fun e he => ?_) ?_
    ·
     obtain ⟨p1, p2⟩ := hpt e he
     refine .inr ⟨p1, p2, ?_⟩
     rcases hn with ⟨k, _, h⟩ | ⟨_, h, _⟩
     · omega
     · rw [hs] at h; cases h
    ·
     have h1 : fu n.Decomp b c = hdE c := by rw [fu_eq hD, fnB_none hnone]
     rw [h1]
     have : ∀ L : List Int, (∀ e ∈ L, n.Decomp.find? (isF e) = none ∧ syl e = false) → L.flatMap (fu n.Decomp b) = L := by
      intro L
      induction L with
      | nil => intro _; rfl
      | cons x L ihL =>
       intro h
       obtain ⟨p1, p2⟩ := h x (by simp)
       have hx : fu n.Decomp b x = [x] := by rw [fu_eq hD, fnB_none p1]; show hdE x = [x]; unfold hdE; rw [if_neg (by simp [p2])]
       rw [List.flatMap_cons, hx, ihL fun e he => h e (by simp [he])]
       rfl
     exact this _ hpt
   | false =>
    simp only [Bool.false_eq_true, if_false]
    cases hf : fnB n.Decomp b c with
    | none =>
     simp only [Option.getD_none, Option.isSome_none, Bool.not_false, cond_true]
     refine ⟨m, ?_, hm⟩
     rw [fu_eq hD, hf]
     have : hdE c = [c] := by unfold hdE; rw [if_neg (by simp [hs])]
     simp only [this]
    | some to =>
     simp only [Option.getD_some, Option.isSome_some]
     obtain ⟨mm, h1, rfl, _⟩ := fnB_some hf
     obtain ⟨h2, _⟩ := fd_from h1
     refine fin mm.To (hd.len mm h2) (fun e he => ?_) (by rw [fu_eq hD c, hf])
     rcases hn with ⟨k, hk, h⟩ | ⟨h, _, _⟩
     ·
      cases k with
      | zero => have : n.Decomp.find? (isF c) = none := hk; rw [this] at h1; cases h1
      | succ k => exact .inl ⟨k, hk mm h1 e he, by omega⟩
     · rw [h] at h1; cases h1
end
noncomputable def usN (n : Norm) : Norm := open Classical in if VD0 n then n else { Classes := [], Decomp := [], Excluded := { Ranges := [] } }
structure GN (n : Norm) : Prop where
 ds : DS n.Decomp
 cv : CV n.Classes
 H : ∀ m ∈ n.Decomp, WW n.Decomp m.From
 w : ∀ m ∈ n.Decomp, wt n.Decomp true m.From ≤ 64
 cl : n.Classes.length ≤ 16
 de : n.Decomp.length ≤ 20
 ok : ∀ x ∈ n.Classes, okSpan x
theorem usN_gn {n : Norm} (hs : NSm n) (hok : okNorm n) : GN (usN n) := by
 unfold usN
 split
 ·
  rename_i h
  obtain ⟨h1, h2⟩ := (ms_iff h.ds (by have := hs.de; omega)).1 h.ms
  exact ⟨h.ds, h.cv, h1, h2, hs.cl, hs.de, hok.1.2⟩
 · exact ⟨⟨fun k hk => (by cases hk), fun m hm => (by cases hm), fun m hm => (by cases hm)⟩, CV_nil, fun m hm => (by cases hm), fun m hm => (by cases hm), by simp, by simp, fun x hx => by cases hx⟩
theorem GN.dd {n : Norm} (h : GN n) : ∀ c, DD n.Decomp n.Decomp.length c := all_dd h.ds h.H
theorem GN.len {n : Norm} (h : GN n) (b : Bool) (c : Int) : (fu n.Decomp b c).length ≤ 64 := fu_len h.ds (wt_all h.ds h.H h.w) b c
theorem GN.ex {n : Norm} (h : GN n) {b : Bool} (c : Int) (m : List (Int × List Int)) (hm : XOk n.Decomp b m) : ∃ m', decompose_expander_1 100 c m n b = some (fu n.Decomp b c, m') ∧ XOk n.Decomp b m' :=
 ex_eq h.ds (by have := h.de; omega) h.dd (h.len b) 100 c m hm (.inl ⟨_, h.dd c, by have := h.de; omega⟩)
theorem usableN {n : Norm} (hs : NSm n) (hok : okNorm n) : decompose_usable n = some (usN n) := by
 obtain ⟨e, he, hv⟩ := decVer hs hok
 unfold decompose_usable usN
 rw [he, some_bind]
 by_cases hz : e = 0
 · rw [if_pos (hv.1 hz)]; simp [hz]
 · rw [if_neg (fun h => hz (hv.2 h))]; simp [hz]
theorem flat_len {f : Int → List Int} {k : Nat} (h : ∀ e, (f e).length ≤ k) : ∀ L : List Int, (L.flatMap f).length ≤ k * L.length
 | [] => by simp
 | x :: L => by have := flat_len h L; have := h x; rw [List.flatMap_cons, List.length_append, List.length_cons, Nat.mul_succ]; omega
theorem text_loop {n : Norm} (h : GN n) {b : Bool} {text : List Int} (ht : text.length ≤ 1000) : ∀ (d i : Nat) (acc : List Int) (m : List (Int × List Int)), text.length - i = d → i ≤ text.length → acc.length ≤ 64 * i → XOk n.Decomp b m →
    loopM (fun (x : Int × (List Int) × (List (Int × (List Int)))) => decompose_Text_L0 text n b x.1 x.2.1 x.2.2) ((i : Int), acc, m) = some (acc ++ (text.drop i).flatMap (fu n.Decomp b)) := by
  intro d
  induction d with
  | zero =>
    intro i acc m h1 h2 h3 h4
    refine loopM_done ?_
    rw [List.drop_of_length_le (show text.length ≤ i by omega)]
    simp only [decompose_Text_L0, lt_f (show text.length ≤ i by omega), cond_false, List.flatMap_nil, List.append_nil]
  | succ d ih =>
    intro i acc m h1 h2 h3 h4
    have hi : i < text.length := by omega
    obtain ⟨m1, hr, r1⟩ := h.ex (b := b) text[i] m h4
    have hw1 := h.len b text[i]
    have ha : app acc (fu n.Decomp b text[i]) = some (acc ++ fu n.Decomp b text[i]) := app_ok (by omega)
    rw [loopM_next (x' := (((i + 1 : Nat) : Int), acc ++ fu n.Decomp b text[i], m1)) (by
      simp only [decompose_Text_L0, lt_t hi, cond_true, idx_nat hi, some_bind, hr, ha, wi_succ (k := i) (by omega)])]
    rw [ih (i + 1) (acc ++ fu n.Decomp b text[i]) m1 (by omega) (by omega) (by rw [List.length_append]; omega) r1, List.drop_eq_getElem_cons hi, List.flatMap_cons, List.append_assoc]
noncomputable def fullT (n : Norm) (b : Bool) (text : List Int) : List Int := text.flatMap (fu (usN n).Decomp b)
theorem Text_eq {n : Norm} (hs : NSm n) (hok : okNorm n) {text : List Int} (ht : text.length ≤ 1000) (b : Bool) : decompose_Text n text b = ordering_Sort (usN n).Classes (fullT n b text) := by
 have h := usN_gn hs hok
 unfold decompose_Text decompose_expander
 have hu : decompose_usable { Classes := n.Classes, Decomp := n.Decomp, Excluded := { Ranges := n.Excluded.Ranges } } = some (usN n) := usableN hs hok
 have hlp := text_loop h (b := b) ht text.length 0 [] [] (by omega) (by omega) (by simp) (fun k v h => by cases h)
 rw [List.drop_zero, List.nil_append] at hlp
 have hlp' : loopM (fun (x : Int × (List Int) × (List (Int × (List Int)))) => decompose_Text_L0 text (usN n) b x.1 x.2.1 x.2.2) (0, [], []) = some (fullT n b text) := hlp
 rw [hu, some_bind, some_bind, hlp', some_bind]
 cases ordering_Sort (usN n).Classes (fullT n b text) <;> rfl
end Go.M
namespace Go.M
open Go.AV
section
variable (key : Int → Int)
def ltK (a b : Int) : Bool := decide (key a < key b)
def ltC (a b : Int) : Bool := decide (0 < key a) && decide (key a < key b)
def srt (l : List Int) : List Int := iSort (ltK key) l []
def csE (l : List Int) : List Int := iSort (ltC key) l []
def rsE : List Int → List Int → List Int
 | [], run => srt key run
 | x :: t, run => if key x = 0 then srt key run ++ x :: rsE t [] else rsE t (run ++ [x])
end
section
variable {key : Int → Int}
theorem srt_snoc (l : List Int) (x : Int) : srt key (l ++ [x]) = insB (ltK key) (srt key l).reverse x [] := by
 unfold srt iSort
 rw [List.foldl_append]
 rfl
theorem srt_flt (l : List Int) : Flt key l (srt key l) := by
 have := iSort_flt (key := key) l []
 exact this
theorem srt_len (l : List Int) : (srt key l).length = l.length := (srt_flt l).len.symm
theorem ins_run {x : Int} (hx : 0 < key x) : ∀ (r q s : List Int), (∀ y, q.head? = some y → key y = 0) → insB (ltC key) (r ++ q) x s = q.reverse ++ insB (ltK key) r x s
 | [], q, s, hq => by
  cases q with
  | nil => rfl
  | cons y q =>
   have : ltC key x y = false := by unfold ltC; rw [hq y rfl]; simp; omega
   show insB (ltC key) (y :: q) x s = _
   simp only [insB, this, Bool.false_eq_true, if_false]
 | y :: r, q, s, hq => by
  have e : ltC key x y = ltK key x y := by unfold ltC ltK; simp [hx]
  show insB (ltC key) (y :: (r ++ q)) x s = q.reverse ++ insB (ltK key) (y :: r) x s
  simp only [insB, e]
  cases ltK key x y with
  | true => simp only [if_true]; exact ins_run hx r q (y :: s) hq
  | false => simp
theorem cs_rs (hnn : ∀ x, 0 ≤ key x) : ∀ (t run p : List Int), (∀ y, p.reverse.head? = some y → key y = 0) → iSort (ltC key) t (p ++ srt key run) = p ++ rsE key t run
  | [], run, p, _ => rfl
  | x :: t, run, p, hp => by
    show iSort (ltC key) t (insB (ltC key) (p ++ srt key run).reverse x []) = p ++ rsE key (x :: t) run
    by_cases h0 : key x = 0
    · have e : ∀ r : List Int, insB (ltC key) r x [] = r.reverse ++ [x] := by
        intro r
        cases r with
        | nil => rfl
        | cons y r =>
          have : ltC key x y = false := by unfold ltC; rw [h0]; simp
          simp [insB, this]
      have ih := cs_rs hnn t [] (p ++ srt key run ++ [x]) (fun y hy => by simp at hy; rw [← hy]; exact h0)
      have e2 : srt key [] = [] := rfl
      rw [e2, List.append_nil] at ih
      rw [e, List.reverse_reverse, ih]
      simp [rsE, h0]
    · have hx : 0 < key x := by have := hnn x; omega
      rw [List.reverse_append, ins_run hx _ _ _ hp, List.reverse_reverse, ← srt_snoc, cs_rs hnn t (run ++ [x]) p hp]
      simp [rsE, h0]
theorem csE_rs (hnn : ∀ x, 0 ≤ key x) (t : List Int) : csE key t = rsE key t [] := by
 have := cs_rs hnn t [] [] (fun y hy => by cases hy)
 exact this
theorem csE_perm (t : List Int) : (csE key t).Perm t := by
 have := iSort_perm (ltC key) t []
 rw [List.nil_append] at this
 exact this
theorem csE_len (t : List Int) : (csE key t).length = t.length := (csE_perm t).length_eq
theorem part_mid {f : List Int → Option (List Int)} {P run T r : List Int} (hpos : 0 < run.length) (hf : f run = some r) : partM f (P ++ run ++ T) (P.length : Int) ((P.length + run.length : Nat) : Int) = some (P ++ r ++ T) := by
 unfold partM
 have a1 : ((P.length : Int)).toNat = P.length := by simp
 have a2 : (((P.length + run.length : Nat) : Int)).toNat = P.length + run.length := by omega
 rw [a1, a2, if_pos ⟨by omega, by omega, by rw [List.length_append, List.length_append]; omega⟩]
 have e1 : ((P ++ run ++ T).drop P.length).take (P.length + run.length - P.length) = run := by
  rw [List.append_assoc, List.drop_left, show P.length + run.length - P.length = run.length by omega, List.take_left]
 have d1 : (P ++ run ++ T).take P.length = P := by rw [List.append_assoc, List.take_left]
 have d2 : (P ++ run ++ T).drop (P.length + run.length) = T := by rw [← List.length_append, List.drop_left]
 rw [e1, d1, d2, hf]
 rfl
theorem sr_eq {f : List Int → Option (List Int)} {st : Int → Bool} (hst : ∀ x, st x = decide (key x = 0)) (hf : ∀ l, l.length ≤ 1000 → f l = some (srt key l)) : ∀ (t run P : List Int) (s : Int), P.length + run.length + t.length ≤ 1000 → (run = [] ∧ s = -1 ∨ run ≠ [] ∧ s = (P.length : Int)) →
    sortRuns f Range.Lo Range.Hi (P ++ run ++ t) (runsOf st t ((P.length + run.length : Nat) : Int) s) = some (P ++ rsE key t run)
  | [], run, P, s, hl, hs => by
    rcases hs with ⟨rfl, rfl⟩ | ⟨hne, rfl⟩
    · simp only [runsOf, show ¬ (0 : Int) ≤ -1 by decide, if_false]
      show some (P ++ [] ++ []) = some (P ++ [])
      simp
    · have h0 : (0 : Int) ≤ (P.length : Int) := by omega
      simp only [runsOf, h0, if_true]
      have hpos : 0 < run.length := List.length_pos_iff.2 hne
      show (some (P ++ run ++ [])).bind (fun l => partM f l (P.length : Int) ((P.length + run.length : Nat) : Int)) = _
      rw [some_bind, part_mid hpos (hf run (by simp at hl; omega))]
      simp [rsE]
  | x :: t, run, P, s, hl, hs => by
    have hl' : P.length + run.length + t.length + 1 ≤ 1000 := by simp only [List.length_cons] at hl; omega
    by_cases h0 : key x = 0
    · have hsx : st x = true := by rw [hst]; simp [h0]
      rcases hs with ⟨rfl, rfl⟩ | ⟨hne, rfl⟩
      · have e : runsOf st (x :: t) ((P.length + ([] : List Int).length : Nat) : Int) (-1) = runsOf st t (((P ++ [x]).length + ([] : List Int).length : Nat) : Int) (-1) := by
          simp only [runsOf, hsx]
          simp
        have ih := sr_eq hst hf t [] (P ++ [x]) (-1) (by simp only [List.length_append, List.length_singleton, List.length_nil]; simp at hl'; omega) (.inl ⟨rfl, rfl⟩)
        rw [e, show P ++ [] ++ x :: t = P ++ [x] ++ [] ++ t by simp, ih]
        have e2 : srt key [] = [] := rfl
        simp [rsE, h0, e2]
      · have h00 : (0 : Int) ≤ (P.length : Int) := by omega
        have hpos : 0 < run.length := List.length_pos_iff.2 hne
        have e : runsOf st (x :: t) ((P.length + run.length : Nat) : Int) (P.length : Int) = { Lo := (P.length : Int), Hi := ((P.length + run.length : Nat) : Int) } :: runsOf st t (((P ++ srt key run ++ [x]).length + ([] : List Int).length : Nat) : Int) (-1) := by
          have e3 : (((P ++ srt key run ++ [x]).length + ([] : List Int).length : Nat) : Int) = ((P.length + run.length : Nat) : Int) + 1 := by simp [srt_len]; omega
          rw [e3]
          simp only [runsOf, hsx, Bool.not_true, Bool.false_and, Bool.false_eq_true, if_false, Bool.true_and, h00, decide_true, if_true]
        have ih := sr_eq hst hf t [] (P ++ srt key run ++ [x]) (-1) (by simp [srt_len]; omega) (.inl ⟨rfl, rfl⟩)
        have e4 : partM f (P ++ run ++ x :: t) (P.length : Int) ((P.length + run.length : Nat) : Int) = some (P ++ srt key run ++ [x] ++ [] ++ t) := by
          rw [part_mid hpos (hf run (by omega))]
          simp
        have e5 : sortRuns f Range.Lo Range.Hi (P ++ run ++ x :: t) ({ Lo := (P.length : Int), Hi := ((P.length + run.length : Nat) : Int) } :: runsOf st t (((P ++ srt key run ++ [x]).length + ([] : List Int).length : Nat) : Int) (-1)) = sortRuns f Range.Lo Range.Hi (P ++ srt key run ++ [x] ++ [] ++ t) (runsOf st t (((P ++ srt key run ++ [x]).length + ([] : List Int).length : Nat) : Int) (-1)) := by
          unfold sortRuns
          rw [List.foldl_cons, some_bind, e4]
        rw [e, e5, ih]
        simp [rsE, h0]
    · have hsx : st x = false := by rw [hst]; simp [h0]
      have e : runsOf st (x :: t) ((P.length + run.length : Nat) : Int) s = runsOf st t ((P.length + (run ++ [x]).length : Nat) : Int) (P.length : Int) := by
        have e3 : ((P.length + (run ++ [x]).length : Nat) : Int) = ((P.length + run.length : Nat) : Int) + 1 := by simp; omega
        rw [e3]
        rcases hs with ⟨rfl, rfl⟩ | ⟨hne, rfl⟩
        · simp [runsOf, hsx]
        · have : ¬ ((P.length : Int) < 0) := by omega
          simp only [runsOf, hsx, Bool.not_false, Bool.true_and, this, decide_false, Bool.false_eq_true, if_false, Bool.false_and]
      have ih := sr_eq hst hf t (run ++ [x]) P (P.length : Int) (by simp; omega) (.inr ⟨by simp, rfl⟩)
      rw [e, show P ++ run ++ x :: t = P ++ (run ++ [x]) ++ t by simp, ih]
      simp [rsE, h0]
end
theorem sort1_eq {l : List Span} (h : CV l) (hl : l.length ≤ 1000) (x y : Int) : ordering_Sort_1 x y l = some (sg (clE l x) (clE l y)) := by
 unfold ordering_Sort_1
 simp only [class_eq h hl, some_bind, cmpI]
 unfold sg
 rfl
theorem sort20 {l : List Span} (h : CV l) (hl : l.length ≤ 1000) (hok : ∀ x ∈ l, okSpan x) {text : List Int} (ht : text.length ≤ 1000) : ordering_Sort l text = some (csE (clE l) text) := by
 have hnn : ∀ x, 0 ≤ clE l x := cl_nn h
 unfold ordering_Sort slices_Clone_int_int
 have hst : ∀ x, (ordering_class l x == some 0) = decide (clE l x = 0) := fun x => by rw [class_eq h hl]; by_cases hx : clE l x = 0 <;> simp [hx]
 rw [usable_eq hl hok h, some_bind, app0 ht, some_bind, runs1_eq h hl ht hst rfl, some_bind]
 have := sr_eq (key := clE l) (f := fun p => slices_SortStableFunc_int_int p (fun x0 x1 => ordering_Sort_1 x0 x1 l)) (st := fun c => ordering_class l c == some 0) hst (fun p hp => by
  obtain ⟨r, r1, r2, r3⟩ := stable_eq (key := clE l) (f := fun x0 x1 => ordering_Sort_1 x0 x1 l) (fun x y => sort1_eq h hl x y) p hp
  rw [r1]
  have := srt_uniq (key := clE l) r2 (iSort_srt (key := clE l) p) (r3.symm.trans (srt_flt p))
  rw [this]
  rfl) text [] [] (-1) (by simpa using ht) (.inl ⟨rfl, rfl⟩)
 rw [csE_rs hnn]
 exact this
noncomputable def decT (n : Norm) (b : Bool) (text : List Int) : List Int := csE (clE (usN n).Classes) (fullT n b text)
theorem decT_len (n : Norm) (b : Bool) (text : List Int) : (decT n b text).length = (fullT n b text).length := csE_len _
theorem fullT_len {n : Norm} (hs : NSm n) (hok : okNorm n) (b : Bool) (text : List Int) : (fullT n b text).length ≤ 64 * text.length := flat_len ((usN_gn hs hok).len b) text
theorem Text_dec {n : Norm} (hs : NSm n) (hok : okNorm n) {text : List Int} {b : Bool} (ht : text.length ≤ 1000) (hf : (fullT n b text).length ≤ 1000) : decompose_Text n text b = some (decT n b text) := by
 have h := usN_gn hs hok
 rw [Text_eq hs hok ht, sort20 h.cv (by have := h.cl; omega) h.ok hf]
 rfl
end Go.M
namespace Go.M
open Go.AV
theorem same_eqL {a : List Element} (ha : a.length ≤ 1000000000) : ref43_Same a a = some true := by
 unfold ref43_Same
 have hl : loopM (fun (v : Int) => ref43_Same_L0 a a v) 0 = some (toS (chk (fun _ (_ : Element) => (none : Option Bool)) a 0)) := by
  refine loop_chk0 a _ (fun k h => ?_) (fun k h => ?_)
  · simp only [ref43_Same_L0, lt_t h, cond_true, idx_nat h, some_bind, decide_true, Bool.not_true, cond_false, wi_succ (k := k) (by omega), stp]
  · simp only [ref43_Same_L0, lt_f h, cond_false]
 have hn : ∀ (l : List Element) (k : Nat), chk (fun _ (_ : Element) => (none : Option Bool)) l k = none := by
  intro l
  induction l with
  | nil => intro k; rfl
  | cons x l ih => intro k; exact ih (k + 1)
 simp only [decide_true, Bool.not_true, cond_false, hl, some_bind, hn, toS]
 rfl
noncomputable def wkE (c : Collation) (l : List Span) : Nat → List Int → List Element × Bool
 | 0, _ => ([], true)
 | k + 1, text => if text = [] then ([], true) else ((stE c l text).2.2 ++ (wkE c l k (stE c l text).2.1).1, decide (lonF (datE c).Entries text ≠ 0) && (wkE c l k (stE c l text).2.1).2)
theorem st_len {c : Collation} {l : List Span} {text : List Int} (h0 : text ≠ []) : 1 ≤ (stE c l text).1 ∧ (stE c l text).1 + ((stE c l text).2.1.length : Int) = (text.length : Int) := by
 have hpos : 0 < text.length := List.length_pos_iff.2 h0
 unfold stE
 split
 ·
  refine ⟨by simp, ?_⟩
  show (1 : Int) + ((text.drop 1).length : Int) = _
  rw [List.length_drop]; omega
 ·
  rename_i hz
  have hle : lonF (datE c).Entries text ≤ text.length := lastF_le _ _
  have hinv := mtch_inv (fd := fun q => (finE (datE c).Entries q).2) (cl := clE l) (text.drop (lonF (datE c).Entries text)) (text.take (lonF (datE c).Entries text)) [] 0
  generalize mtch (fun q => (finE (datE c).Entries q).2) (clE l) (text.drop (lonF (datE c).Entries text)) (text.take (lonF (datE c).Entries text)) [] 0 = q at *
  obtain ⟨i1, i2, _⟩ := hinv
  rw [List.length_take, Nat.min_eq_left hle] at i1 i2
  rw [List.length_drop] at i2
  simp only [List.length_nil] at i2
  constructor
  · show (1 : Int) ≤ (q.1.length : Int); omega
  · show (q.1.length : Int) + (q.2.length : Int) = _; omega
theorem st_lt {c : Collation} {l : List Span} {text : List Int} (h0 : text ≠ []) : (stE c l text).2.1.length < text.length := by
 have := st_len (c := c) (l := l) h0
 omega
theorem st_el {c : Collation} (hs : Sm c) {l : List Span} (text : List Int) : (stE c l text).2.2.length ≤ 1000 := by
 unfold stE
 split
 · exact imp_len _ _
 · exact fin_len (dat_vd hs) _
theorem wk_fuel {c : Collation} {l : List Span} : ∀ (k j : Nat) (text : List Int), text.length ≤ k → text.length ≤ j → wkE c l k text = wkE c l j text
 | 0, j, text, h, _ => by
  have : text = [] := List.eq_nil_of_length_eq_zero (by omega)
  subst this
  cases j with
  | zero => rfl
  | succ j => simp [wkE]
 | k + 1, j, text, h, hj => by
  by_cases h0 : text = []
  ·
   subst h0
   cases j <;> simp [wkE]
  ·
   have hpos : 0 < text.length := List.length_pos_iff.2 h0
   cases j with
   | zero => omega
   | succ j =>
    have hlt := st_lt (c := c) (l := l) h0
    simp only [wkE, h0, if_false]
    rw [wk_fuel k j _ (by omega) (by omega)]
noncomputable def wk (c : Collation) (l : List Span) (text : List Int) : List Element × Bool := wkE c l text.length text
theorem wk_nil (c : Collation) (l : List Span) : wk c l [] = ([], true) := rfl
theorem wk_cons {c : Collation} {l : List Span} {text : List Int} (h0 : text ≠ []) : wk c l text = ((stE c l text).2.2 ++ (wk c l (stE c l text).2.1).1, decide (lonF (datE c).Entries text ≠ 0) && (wk c l (stE c l text).2.1).2) := by
 have hlt := st_lt (c := c) (l := l) h0
 unfold wk
 obtain ⟨k, hk⟩ : ∃ k, text.length = k + 1 := ⟨text.length - 1, by have := List.length_pos_iff.2 h0; omega⟩
 rw [hk]
 simp only [wkE, h0, if_false]
 rw [wk_fuel k (stE c l text).2.1.length _ (by omega) (by omega)]
theorem wk_len {c : Collation} (hs : Sm c) {l : List Span} : ∀ (k : Nat) (text : List Int), text.length ≤ k → (wk c l text).1.length ≤ 1000 * text.length := by
 intro k
 induction k with
 | zero =>
  intro text h
  have : text = [] := List.eq_nil_of_length_eq_zero (by omega)
  subst this; rw [wk_nil]; simp
 | succ k ih =>
  intro text h
  by_cases h0 : text = []
  · subst h0; rw [wk_nil]; simp
  ·
   have hlt := st_lt (c := c) (l := l) h0
   have h1 := ih _ (show (stE c l text).2.1.length ≤ k by omega)
   have h2 := st_el hs (l := l) text
   rw [wk_cons h0]
   show ((stE c l text).2.2 ++ (wk c l (stE c l text).2.1).1).length ≤ _
   rw [List.length_append]
   omega
section
variable {c : Collation} (hs : Sm c) {l : List Span} (hcv : CV l) (hl : l.length ≤ 1000)
include hs hcv hl
theorem el_loop : ∀ (k : Nat) (text : List Int) (acc : List Element), text.length ≤ k → text.length ≤ 1000 → acc.length + 1000 * text.length ≤ 100000000 → loopM (fun (x : (List Element) × (List Int)) => colltable_Elements_L0 (tbl2 c l) x.1 x.2) (acc, text) = some (acc ++ (wk c l text).1) := by
 intro k
 induction k with
 | zero =>
  intro text acc h _ _
  have : text = [] := List.eq_nil_of_length_eq_zero (by omega)
  subst this
  refine loopM_done ?_
  simp [colltable_Elements_L0, wk_nil]
 | succ k ih =>
  intro text acc h ht ha
  by_cases h0 : text = []
  ·
   subst h0
   refine loopM_done ?_
   simp [colltable_Elements_L0, wk_nil]
  ·
   have hpos : 0 < text.length := List.length_pos_iff.2 h0
   have hlt := st_lt (c := c) (l := l) h0
   have h2 := st_el hs (l := l) text
   obtain ⟨seq, m1, m2⟩ := match_eq hs hcv hl ht h0
   have e0 : decide ((0 : Int) < (text.length : Int)) = true := by simp; omega
   have ea : app acc (stE c l text).2.2 = some (acc ++ (stE c l text).2.2) := app_ok (by omega)
   rw [loopM_next (x' := (acc ++ (stE c l text).2.2, (stE c l text).2.1)) (by simp only [colltable_Elements_L0, e0, cond_true, m1, some_bind, ea, m2])]
   rw [ih _ _ (by omega) (by omega) (by rw [List.length_append]; omega), wk_cons h0, List.append_assoc]
end
section
variable {n : Norm} {c : Collation} (hn : NSm n) (hok : okNorm n) (hs : Sm c) (hg : ∀ g ∈ c.Groups, g.Name.length ≤ MX) {text : List Int} (ht : text.length ≤ 1000) (hf : (fullT n false text).length ≤ 1000)
include hn hok hs hg ht hf
theorem Elements_eq : colltable_Elements n c text = some (wk c (clsOf n) (decT n false text)).1 := by
 unfold colltable_Elements
 have hl : (clsOf n).length ≤ 1000 := by have := clsOf_len hn; omega
 have hd : (decT n false text).length ≤ 1000 := by rw [decT_len]; exact hf
 rw [made_eq hs hg, some_bind, with_eq hn hok, some_bind, Text_dec hn hok ht hf, some_bind, el_loop hs (clsOf_cv n) hl _ _ [] (Nat.le_refl _) hd (by simp; omega)]
 rfl
end
theorem el_len {n : Norm} {c : Collation} (hs : Sm c) {text : List Int} (hd : (decT n false text).length ≤ 1000) : (wk c (clsOf n) (decT n false text)).1.length ≤ 1000000000 := by
 have := wk_len hs (l := clsOf n) _ (decT n false text) (Nat.le_refl _)
 omega
theorem Find_eq {c : Collation} (hs : Sm c) (hn : ∀ g ∈ c.Groups, g.Name.length ≤ MX) (codes : List Int) : colltable_Find c codes = some (finE (datE c).Entries codes) := by
 unfold colltable_Find slices_Clone_api_Element_api_Element
 rw [made_eq hs hn, some_bind, find_eq hs, some_bind, app0 (fin_len (dat_vd hs) codes)]
 rfl
theorem Implicit_eq {c : Collation} (hs : Sm c) (hn : ∀ g ∈ c.Groups, g.Name.length ≤ MX) (code : Int) : colltable_Implicit c code = some (impE (datE c) code) := by
 unfold colltable_Implicit
 rw [made_eq hs hn, some_bind, implicit_eq]
 rfl
def cNo : Collation := { Entries := [], Groups := [], Base := 64448, Second := 32, Third := 2 }
theorem cNo_dat : datE cNo = cNo := by
 unfold datE
 have : ckE cNo = 0 := by decide
 rw [if_pos this]
theorem cNo_small : Sm cNo := ⟨by decide, by decide, by decide, by decide⟩
theorem st_dat {c c' : Collation} (h : datE c = datE c') (l : List Span) (text : List Int) : stE c l text = stE c' l text := by
 unfold stE; rw [h]
theorem wk_dat {c c' : Collation} (h : datE c = datE c') (l : List Span) : ∀ (k : Nat) (text : List Int), wkE c l k text = wkE c' l k text
 | 0, _ => rfl
 | k + 1, text => by simp only [wkE, st_dat h, h, wk_dat h l k]
theorem law43_ColltableRefuses_true (x : Unicodetextlaw43_Case) (code : Int) (ok : okUnicodetextlaw43_Case x) (_ok1 : -9223372036854775808 ≤ code ∧ code ≤ 9223372036854775807) : law43_ColltableRefuses x code = some true := by
 unfold law43_ColltableRefuses
 obtain ⟨b, hb, hp⟩ := few_eq x
 rw [hb, some_bind, pv_bind]
 cases b with
 | false => simp only [Bool.not_false, Bool.not_true, gM_f, some_bind, Bool.true_or, cond_true, alive43g]
 | true =>
 obtain ⟨hN, hC, hT⟩ := hp rfl
 have hg := okNames ok.2.1
 simp only [Bool.not_true, Bool.not_false, gM_t, refcheck_eq hC hg, some_bind, Bool.false_or]
 by_cases hz : ckE x.C = 0
 · simp only [hz, decide_true, cond_true, alive43g, some_bind]
 ·
  have hdat : datE x.C = datE cNo := by rw [cNo_dat]; unfold datE; rw [if_neg hz]; rfl
  have hF : finE (datE x.C).Entries [code] = ([], false) := by rw [hdat, cNo_dat]; rfl
  have hfl : (fullT x.N false x.Text).length ≤ 1000 := by have := fullT_len hN ok.1 false x.Text; omega
  have hE : colltable_Elements x.N x.C x.Text = some (wk x.C (clsOf x.N) (decT x.N false x.Text)).1 := Elements_eq hN ok.1 hC hg (by omega) hfl
  have hE2 : colltable_Elements x.N cNo x.Text = some (wk x.C (clsOf x.N) (decT x.N false x.Text)).1 := by
   rw [Elements_eq hN ok.1 cNo_small (fun g hg => by cases hg) (by omega) hfl]
   unfold wk
   rw [wk_dat hdat]
  have hI2 : colltable_Implicit cNo code = some (impE (datE x.C) code) := by
   rw [Implicit_eq cNo_small (fun g hg => by cases hg), hdat]
  have hlen := el_len (n := x.N) hC (text := x.Text) (by rw [decT_len]; exact hfl)
  have e0 : ({ Entries := [], Groups := [], Base := 64448, Second := 32, Third := 2 } : Collation) = cNo := rfl
  rw [e0]
  simp only [hz, decide_false, cond_false, Find_eq hC hg, hF, some_bind, pv_bind, Bool.not_false, gM_t, Implicit_eq hC hg, hI2, same_eq (imp_len _ _), Bool.and_self, hE, hE2, same_eqL hlen, alive43g]
end Go.M


/- What the plain counterparts answer. Conditions: none. -/
import Derived.Test.YtgeaoceiacdadaaGreatDoorPu1
set_option linter.unusedSimpArgs false
set_option linter.unusedVariables false
set_option linter.unnecessarySimpa false
namespace Go.M
open Go.AV
open Classical in
noncomputable def xB (n : Norm) : List Span := if VD0 n then n.Classes else []
theorem z7C : CV [] := ⟨fun k h => (by cases h), fun k h => (by cases h), fun k h => (by cases h)⟩
theorem zMO (n : Norm) : CV (xB n) := by
 unfold xB
 split
 · rename_i h; exact h.cv
 · exact z7C
theorem zHU {n : Norm} (hs : NSm n) : (xB n).length ≤ 16 := by
 unfold xB
 split
 · exact hs.cl
 · simp
def zRR (l : List Span) (t : Int) : Int := l.foldl (fun t s => max t s.Value) t
def zIW (c : Collation) (l : List Span) : Colltable_table := { zNK c with classes := l, top := zRR l 0 }
theorem z7D {l : List Span} (hl : l.length ≤ 1000) : ∀ (d k : Nat) (t : Int), l.length - k = d → k ≤ l.length → zE (fun (x : Int × Int) => jB l x.1 x.2) ((k : Int), t) = some (zRR (l.drop k) t) := by
 intro d
 induction d with
 | zero =>
  intro k t h1 h2
  rw [List.drop_of_length_le (by omega)]
  refine zL ?_
  simp only [jB, kN (show l.length ≤ k by omega), cond_false]
  rfl
 | succ d ih =>
  intro k t h1 h2
  have hk : k < l.length := by omega
  rw [List.drop_eq_getElem_cons hk]
  rw [zX (x' := (((k + 1 : Nat) : Int), max t l[k].Value)) (by simp only [jB, kA hk, cond_true, z1 hk, zA, zK (k := k) (by omega)])]
  exact ih (k + 1) _ (by omega) (by omega)
theorem zUH {c : Collation} {n : Norm} (hs : NSm n) (hok : zB5 n) : jU (zNK c) n = some (zIW c (xB n)) := by
 obtain ⟨e, he, hp⟩ := z64 hs hok
 unfold jU
 rw [he, zA]
 have h1 : (cond (decide (e = 0)) (some n.Classes) (some (zNK c).classes) : Option (List Span)) = some (xB n) := by
  unfold xB
  by_cases h : e = 0
  · rw [if_pos (hp.1 h)]; simp [h]
  · rw [if_neg (fun hh => h (hp.2 hh))]; simp [h, zNK]
 rw [h1, zA]
 have h2 := z7D (l := xB n) (by have := zHU hs; omega) (xB n).length 0 0 (by omega) (by omega)
 rw [List.drop_zero] at h2
 have h2' : zE (fun (x : Int × Int) => jB (xB n) x.1 x.2) (0, (zNK c).top) = some (zRR (xB n) 0) := h2
 rw [h2']
 rfl
theorem zJU {c : Collation} (hs : Sm c) {l : List Span} {codes : List Int} : jE (zIW c l) codes = some (zCJ (yG c).Entries codes) := yAC hs (codes := codes)
theorem zKE {c : Collation} {l : List Span} (h : CV l) (hl : l.length ≤ 1000) (x : Int) : xZ (zIW c l) x = some (clE l x) := by
 obtain ⟨j, hj, hr, hlo, hhi⟩ := zUB (n := l.length) hl (body := fun (q : Int × Int) => zAS (fun x0 => xL x0 (zIW c l) x) q.1 q.2) (fun k => decide (x ≤ (nth l k).Hi))
  (fun k _ => by simp only [zAS, kN (Nat.le_refl _), cond_false])
  (fun lo hi h1 h2 => by
   have hm : (lo + hi) / 2 < l.length := by omega
   have hi1 : yI (zIW c l).classes (((lo + hi) / 2 : Nat) : Int) = some (nth l ((lo + hi) / 2)) := zY hm
   simp only [zAS, kA h1, cond_true, zLD (show lo + hi ≤ 4611686018427387903 by omega), xL, hi1, zA, zK (k := (lo + hi) / 2) (by omega)]
   by_cases hc : x ≤ (nth l ((lo + hi) / 2)).Hi <;> simp [hc])
  (fun i j hij hj hi => by
   have := h.hi hij hj
   simp only [decide_eq_true_eq] at hi ⊢
   omega)
 simp only [decide_eq_false_iff_not, decide_eq_true_eq] at hlo hhi
 unfold xZ zGV
 have e0 : (zIW c l).classes = l := rfl
 rw [e0, hr, yCD h hj (fun k hk => by have := hlo k hk; omega) hhi]
 simp only [zA, zO]
 by_cases hn : j < l.length
 ·
  simp only [kA hn, xH, zY hn, zA, Bool.true_and, hn, true_and]
  by_cases hc2 : (nth l j).Lo ≤ x <;> simp [hc2]
 · simp only [kN (show l.length ≤ j by omega), vK, zA, Bool.false_and, cond_false, hn, false_and, if_false]
theorem zZS : ∀ (l : List Span) (t : Int), t ≤ zRR l t ∧ ∀ s ∈ l, s.Value ≤ zRR l t
 | [], t => ⟨Int.le_refl _, fun s h => by cases h⟩
 | x :: l, t => by
  have ih := zZS l (max t x.Value)
  refine ⟨by show t ≤ zRR l (max t x.Value); omega, fun s hs => ?_⟩
  show s.Value ≤ zRR l (max t x.Value)
  rcases List.mem_cons.1 hs with rfl | hs
  · omega
  · exact ih.2 s hs
theorem yFX {l : List Span} (x : Int) : clE l x ≤ zRR l 0 := by
 unfold clE
 cases hf : l.find? (zOP x) with
 | none => exact (zZS l 0).1
 | some s => exact (zZS l 0).2 s (List.mem_of_find?_eq_some hf)
theorem yFY {l : List Span} (h : CV l) (x : Int) : 0 ≤ clE l x := by
 unfold clE
 cases hf : l.find? (zOP x) with
 | none => exact Int.le_refl _
 | some s =>
  have := List.mem_of_find?_eq_some hf
  obtain ⟨k, hk, rfl⟩ := List.getElem_of_mem this
  have := h.sp k hk
  rw [zA9 hk] at this
  unfold spOk at this
  show 0 ≤ (l[k]).Value
  omega
def zG5 (p : Nat → Bool) : Nat → Nat
 | 0 => 0
 | k + 1 => if p (k + 1) then k + 1 else zG5 p k
theorem zMP (p : Nat → Bool) : ∀ k, zG5 p k ≤ k
 | 0 => Nat.le_refl _
 | k + 1 => by unfold zG5; split; omega; have := zMP p k; omega
theorem zS1 {p : Nat → Bool} {m : Nat} : ∀ {k : Nat}, m ≤ k → (∀ j, m < j → j ≤ k → p j = false) → zG5 p k = zG5 p m
  | 0, h, _ => by have : m = 0 := by omega
                  rw [this]
  | k + 1, h, hp => by
    by_cases e : m = k + 1
    · rw [e]
    · unfold zG5
      rw [hp (k + 1) (by omega) (Nat.le_refl _)]
      simp only [Bool.false_eq_true, if_false]
      rw [zS1 (m := m) (by omega) fun j h1 h2 => hp j h1 (by omega)]
      cases m <;> rfl
def pfx (es : List Entry) (text : List Int) (k : Nat) : Bool := (zCJ es (text.take k)).2
def x9 (es : List Entry) (text : List Int) : Nat := zG5 (pfx es text) text.length
def zCL (fd : List Int → Bool) (cl : Int → Int) : List Int → List Int → List Int → Int → List Int × List Int
 | [], p, s, _ => (p, s)
 | x :: r, p, s, h => if cl x = 0 then (p, s ++ x :: r) else if fd (p ++ [x]) && decide (h < cl x) then zCL fd cl r (p ++ [x]) s h else zCL fd cl r p (s ++ [x]) (max h (cl x))
theorem zS2 {fd : List Int → Bool} {cl : Int → Int} : ∀ (r p s : List Int) (h : Int), (∀ x, cl x ≤ h) → zCL fd cl r p s h = (p, s ++ r)
 | [], p, s, h, _ => by simp [zCL]
 | x :: r, p, s, h, hc => by
  have hx := hc x
  unfold zCL
  split
  · rfl
  ·
   have e : decide (h < cl x) = false := by simp; omega
   rw [e, Bool.and_false, if_neg (by simp), zS2 r p (s ++ [x]) (max h (cl x)) (fun y => by have := hc y; omega)]
   simp
theorem zMQ {fd : List Int → Bool} {cl : Int → Int} : ∀ (r p s : List Int) (h : Int), p.length ≤ (zCL fd cl r p s h).1.length ∧ (zCL fd cl r p s h).1.length + (zCL fd cl r p s h).2.length = p.length + s.length + r.length ∧ ((zCL fd cl r p s h).1.length = p.length → zCL fd cl r p s h = (p, s ++ r))
 | [], p, s, h => by simp [zCL]
 | x :: r, p, s, h => by
  unfold zCL
  split
  · refine ⟨Nat.le_refl _, by simp; omega, fun _ => rfl⟩
  ·
   split
   ·
    have ih := zMQ (fd := fd) (cl := cl) r (p ++ [x]) s h
    simp only [List.length_append, List.length_cons, List.length_nil] at ih ⊢
    exact ⟨by omega, by omega, fun e => by omega⟩
   ·
    have ih := zMQ (fd := fd) (cl := cl) r p (s ++ [x]) (max h (cl x))
    simp only [List.length_append, List.length_cons, List.length_nil] at ih ⊢
    refine ⟨ih.1, by omega, fun e => ?_⟩
    rw [ih.2.2 e]; simp
section
variable {c : Collation} (hs : Sm c) {l : List Span} (hcv : CV l) (hl : l.length ≤ 1000)
include hs
theorem mL0 {text : List Int} (ht : text.length ≤ 1000) : ∀ k, k ≤ text.length → zE (fun (x : Int) => kT text (zIW c l) x) (k : Int) = some ((zG5 (pfx (yG c).Entries text) k : Nat) : Int)
 | 0, _ => by
  refine zL ?_
  have : decide ((0 : Int) < ((0 : Nat) : Int)) = false := rfl
  simp only [kT, this, cond_false]
  rfl
 | k + 1, hk => by
  have hd : decide ((0 : Int) < ((k + 1 : Nat) : Int)) = true := by simp <;> omega
  have ih := mL0 ht k (by omega)
  unfold zG5
  cases hp : pfx (yG c).Entries text (k + 1) with
  | true =>
   rw [if_pos rfl]
   refine zL ?_
   unfold pfx at hp
   simp only [kT, hd, cond_true, zGB hk, zA, zJU hs, hp]
  | false =>
   rw [if_neg (by simp), ← ih]
   refine zX ?_
   unfold pfx at hp
   simp only [kT, hd, cond_true, zGB hk, zA, zJU hs, hp, cond_false, zB0 (k := k) (by omega)]
omit hs in
theorem z7E {text : List Int} {k : Nat} (hk : k ≤ text.length) (h : zML (yG c).Entries 0 < (k : Int)) : pfx (yG c).Entries text k = false := by
 have h1 := zT8 (yG c).Entries 0
 unfold pfx zCJ
 have : (yG c).Entries.find? (fun x => decide (x.Codes = text.take k)) = none := by
  rw [List.find?_eq_none]
  intro x hx
  simp only [decide_eq_true_eq]
  intro e
  have h2 := h1.2 x hx
  rw [e] at h2
  have : (text.take k).length = k := by simp; omega
  omega
 rw [this]
theorem yD5 {text : List Int} (ht : text.length ≤ 1000) : zE (fun (x : Int) => kT text (zIW c l) x) (min (zIW c l).longest (text.length : Int)) = some ((x9 (yG c).Entries text : Nat) : Int) := by
 have h1 := zT8 (yG c).Entries 0
 have e : (zIW c l).longest = zML (yG c).Entries 0 := rfl
 rw [e]
 obtain ⟨m, hm⟩ : ∃ m : Nat, min (zML (yG c).Entries 0) (text.length : Int) = (m : Int) := ⟨(min (zML (yG c).Entries 0) (text.length : Int)).toNat, by omega⟩
 rw [hm, mL0 hs ht m (by omega)]
 unfold x9
 rw [zS1 (p := pfx (yG c).Entries text) (m := m) (k := text.length) (by omega) fun j h2 h3 => z7E h3 (by omega)]
omit hs in
theorem yD6 {p s r : List Int} {x : Int} : zAI (cpM (p ++ s ++ x :: r) ((p.length + 1 : Nat) : Int) ((p.length + s.length + 1 : Nat) : Int) (p.length : Int) ((p.length + s.length : Nat) : Int)) (p.length : Int) x = some ((p ++ [x]) ++ s ++ r) := by
 have e1 : ((p ++ s ++ x :: r).drop p.length).take (p.length + s.length - p.length) = s := by
  rw [List.append_assoc, List.drop_left]
  have : p.length + s.length - p.length = s.length := by omega
  rw [this, List.take_left]
 have e2 : min (p.length + s.length - p.length) (p.length + s.length + 1 - (p.length + 1)) = s.length := by omega
 unfold cpM
 simp only [Int.toNat_natCast]
 rw [e1, e2, List.take_of_length_le (Nat.le_refl _)]
 cases s with
 | nil =>
  have hx : (p ++ [] ++ x :: r) = p ++ x :: r := by simp
  rw [hx]
  have e3 : (p ++ x :: r).take (p.length + 1) = p ++ [x] := by
   rw [List.take_append, List.take_of_length_le (by omega)]
   simp
  have e4 : (p ++ x :: r).drop (p.length + 1 + ([] : List Int).length) = r := by
   rw [List.drop_append, List.drop_of_length_le (by simp)]
   simp
  rw [e3, e4]
  have : p ++ [x] ++ [] ++ r = p ++ x :: r := by simp
  rw [this, vL rfl]
 | cons y s =>
  have hx : (p ++ (y :: s) ++ x :: r) = p ++ y :: (s ++ x :: r) := by simp
  rw [hx]
  have e3 : (p ++ y :: (s ++ x :: r)).take (p.length + 1) = p ++ [y] := by
   rw [List.take_append, List.take_of_length_le (by omega)]
   simp
  have e4 : (p ++ y :: (s ++ x :: r)).drop (p.length + 1 + (y :: s).length) = r := by
   have : p ++ y :: (s ++ x :: r) = (p ++ y :: (s ++ [x])) ++ r := by simp
   rw [this, List.drop_left' (by simp; omega)]
  rw [e3, e4]
  have : p ++ [y] ++ (y :: s) ++ r = p ++ y :: ((y :: s) ++ r) := by simp
  rw [this, vL rfl]
  simp
include hcv hl
theorem mL1 : ∀ (r p s : List Int) (h : Int), p.length + s.length + r.length ≤ 1000 →
    zE (fun (x : Int × Int × Int × (List Int)) => yS (zIW c l) x.1 x.2.1 x.2.2.1 x.2.2.2) ((p.length : Int), h, ((p.length + s.length : Nat) : Int), p ++ s ++ r) =
      some ((((zCL (fun q => (zCJ (yG c).Entries q).2) (clE l) r p s h).1.length : Nat) : Int), (zCL (fun q => (zCJ (yG c).Entries q).2) (clE l) r p s h).1 ++ (zCL (fun q => (zCJ (yG c).Entries q).2) (clE l) r p s h).2)
  | [], p, s, h, _ => by
    refine zL ?_
    have : decide (((p.length + s.length : Nat) : Int) < ((p ++ s ++ []).length : Int)) = false := by simp
    simp only [yS, zO, this, Bool.false_and, cond_false]
    simp [zCL]
  | x :: r, p, s, h, hn => by
    simp only [List.length_cons] at hn
    have hd : decide (((p.length + s.length : Nat) : Int) < ((p ++ s ++ x :: r).length : Int)) = true := by simp <;> omega
    have hi : yI (p ++ s ++ x :: r) ((p.length + s.length : Nat) : Int) = some x := xT (by simp)
    have etop : (zIW c l).top = zRR l 0 := rfl
    by_cases htop : h < zRR l 0
    · have hd2 : decide (h < (zIW c l).top) = true := by rw [etop]; simpa using htop
      by_cases h0 : clE l x = 0
      · refine zL ?_
        simp only [yS, zO, hd, hd2, Bool.and_self, cond_true, hi, zA, zKE hcv hl, h0, decide_true, Sum.elim_inl]
        unfold zCL
        rw [if_pos h0]
        simp
      · unfold zCL
        rw [if_neg h0]
        by_cases hk : clE l x ≤ h
        · have e : decide (h < clE l x) = false := by simp; omega
          rw [e, Bool.and_false, if_neg (by simp)]
          rw [zX (x' := ((p.length : Int), h, ((p.length + (s ++ [x]).length : Nat) : Int), p ++ (s ++ [x]) ++ r)) (by
            have e2 : p ++ (s ++ [x]) ++ r = p ++ s ++ x :: r := by simp
            have e3 : p.length + (s ++ [x]).length = p.length + s.length + 1 := by simp; omega
            rw [e2, e3]
            simp only [yS, zO, hd, hd2, Bool.and_self, cond_true, hi, zA, zKE hcv hl, h0, hk, decide_true, decide_false, cond_false, Sum.elim_inr, zK (k := p.length + s.length) (by omega)])]
          have := mL1 r p (s ++ [x]) h (by simp; omega)
          rw [show max h (clE l x) = h by omega]
          exact this
        · have e : decide (h < clE l x) = true := by simp; omega
          rw [e, Bool.and_true]
          have s1 : slc (p ++ s ++ x :: r) 0 (p.length : Int) = some p := by
            rw [zGB (by simp)]
            simp
          have a1 : app p [x] = some (p ++ [x]) := zA8 (by simp; omega)
          cases hf : (zCJ (yG c).Entries (p ++ [x])).2 with
          | false =>
            rw [if_neg (by simp)]
            rw [zX (x' := ((p.length : Int), clE l x, ((p.length + (s ++ [x]).length : Nat) : Int), p ++ (s ++ [x]) ++ r)) (by
              have e2 : p ++ (s ++ [x]) ++ r = p ++ s ++ x :: r := by simp
              have e3 : p.length + (s ++ [x]).length = p.length + s.length + 1 := by simp; omega
              rw [e2, e3]
              simp only [yS, zO, hd, hd2, Bool.and_self, cond_true, hi, zA, zKE hcv hl, h0, hk, decide_false, cond_false, s1, a1, zJU hs, hf, Bool.not_false, Sum.elim_inr, zK (k := p.length + s.length) (by omega)])]
            have := mL1 r p (s ++ [x]) (clE l x) (by simp; omega)
            rw [show max h (clE l x) = clE l x by omega]
            exact this
          | true =>
            rw [if_pos rfl]
            have sc1 : ∃ q, slc (p ++ s ++ x :: r) ((p.length + 1 : Nat) : Int) ((p.length + s.length + 1 : Nat) : Int) = some q := ⟨_, zT2 (by omega) (by simp; omega)⟩
            have sc2 : ∃ q, slc (p ++ s ++ x :: r) (p.length : Int) ((p.length + s.length : Nat) : Int) = some q := ⟨_, zT2 (by omega) (by simp)⟩
            obtain ⟨q1, hq1⟩ := sc1
            obtain ⟨q2, hq2⟩ := sc2
            have hcp := yD6 (p := p) (s := s) (r := r) (x := x)
            obtain ⟨_, _, hlt⟩ := zJ1 hcp
            have hix : ∃ q, yI (cpM (p ++ s ++ x :: r) ((p.length + 1 : Nat) : Int) ((p.length + s.length + 1 : Nat) : Int) (p.length : Int) ((p.length + s.length : Nat) : Int)) (p.length : Int) = some q := ⟨_, z1 (by simpa using hlt)⟩
            obtain ⟨q3, hq3⟩ := hix
            rw [zX (x' := (((p ++ [x]).length : Int), h, (((p ++ [x]).length + s.length : Nat) : Int), (p ++ [x]) ++ s ++ r)) (by
              have e3 : (p ++ [x]).length + s.length = p.length + s.length + 1 := by simp; omega
              have e4 : (p ++ [x]).length = p.length + 1 := by simp
              rw [e3, e4]
              simp only [yS, zO, hd, hd2, Bool.and_self, cond_true, hi, zA, zKE hcv hl, h0, hk, decide_false, cond_false, s1, a1, zJU hs, hf, Bool.not_true, zK (k := p.length + s.length) (by omega), zK (k := p.length) (by omega), hq1, hq2, hq3, hcp, Sum.elim_inr])]
            exact mL1 r (p ++ [x]) s h (by simp; omega)
    · have hd2 : decide (h < (zIW c l).top) = false := by rw [etop]; simpa using htop
      have hm := zS2 (fd := fun q => (zCJ (yG c).Entries q).2) (cl := clE l) (x :: r) p s h (fun y => by have := yFX (l := l) y; omega)
      rw [hm]
      refine zL ?_
      simp only [yS, zO, hd, hd2, Bool.and_false, cond_false, List.append_assoc]
noncomputable def stE (c : Collation) (l : List Span) (text : List Int) : Int × List Int × List Element := if x9 (yG c).Entries text = 0 then (1, text.drop 1, zRP (yG c) (nth text 0)) else
 ((((zCL (fun q => (zCJ (yG c).Entries q).2) (clE l) (text.drop (x9 (yG c).Entries text)) (text.take (x9 (yG c).Entries text)) [] 0).1.length : Nat) : Int), (zCL (fun q => (zCJ (yG c).Entries q).2) (clE l) (text.drop (x9 (yG c).Entries text)) (text.take (x9 (yG c).Entries text)) [] 0).2, (zCJ (yG c).Entries (zCL (fun q => (zCJ (yG c).Entries q).2) (clE l) (text.drop (x9 (yG c).Entries text)) (text.take (x9 (yG c).Entries text)) [] 0).1).1)
theorem zQN {text : List Int} (ht : text.length ≤ 1000) (h0 : text ≠ []) : ∃ seq, jP (zIW c l) text = some ((stE c l text).1, (stE c l text).2.2, decide (x9 (yG c).Entries text ≠ 0), seq) ∧ slc seq (stE c l text).1 (seq.length : Int) = some (stE c l text).2.1 := by
 unfold jP
 rw [yD5 hs ht, zA]
 have hpos : 0 < text.length := List.length_pos_iff.2 h0
 by_cases hz : x9 (yG c).Entries text = 0
 ·
  have e1 : decide (((x9 (yG c).Entries text : Nat) : Int) = 0) = true := by simp [hz]
  have i0 : yI text (0 : Int) = some (nth text 0) := zY (k := 0) hpos
  have hst : stE c l text = (1, text.drop 1, zRP (yG c) (nth text 0)) := by unfold stE; rw [if_pos hz]
  have him : jM (zIW c l) (nth text 0) = some (zRP (yG c) (nth text 0)) := zW8 c (nth text 0)
  rw [e1, cond_true, i0, zA, him, zA, hst]
  refine ⟨text, ?_, ?_⟩
  · simp [hz]
  · exact zMJ (l := text) (a := 1) (by omega)
 ·
  have e1 : decide (((x9 (yG c).Entries text : Nat) : Int) = 0) = false := by simp; omega
  rw [e1, cond_false]
  have hle : x9 (yG c).Entries text ≤ text.length := zMP _ _
  have h1 := mL1 hs hcv hl (text.drop (x9 (yG c).Entries text)) (text.take (x9 (yG c).Entries text)) [] 0 (by simp; omega)
  have e2 : (text.take (x9 (yG c).Entries text)).length = x9 (yG c).Entries text := by simp; omega
  have e3 : text.take (x9 (yG c).Entries text) ++ [] ++ text.drop (x9 (yG c).Entries text) = text := by simp
  rw [e3, e2] at h1
  simp only [List.length_nil, Nat.add_zero] at h1
  rw [h1, zA]
  have hst : stE c l text = ((((zCL (fun q => (zCJ (yG c).Entries q).2) (clE l) (text.drop (x9 (yG c).Entries text)) (text.take (x9 (yG c).Entries text)) [] 0).1.length : Nat) : Int), (zCL (fun q => (zCJ (yG c).Entries q).2) (clE l) (text.drop (x9 (yG c).Entries text)) (text.take (x9 (yG c).Entries text)) [] 0).2, (zCJ (yG c).Entries (zCL (fun q => (zCJ (yG c).Entries q).2) (clE l) (text.drop (x9 (yG c).Entries text)) (text.take (x9 (yG c).Entries text)) [] 0).1).1) := by unfold stE; rw [if_neg hz]
  rw [hst]
  generalize zCL (fun q => (zCJ (yG c).Entries q).2) (clE l) (text.drop (x9 (yG c).Entries text)) (text.take (x9 (yG c).Entries text)) [] 0 = q
  have s1 : slc (q.1 ++ q.2) 0 ((q.1.length : Nat) : Int) = some q.1 := by rw [zGB (by simp)]; simp
  simp only [s1, zA, zJU hs]
  refine ⟨q.1 ++ q.2, ?_, ?_⟩
  · simp [hz]
  · rw [zMJ (by simp)]; simp
end
theorem yAV {n : Norm} {c : Collation} (hn : NSm n) (hok : zB5 n) (hs : Sm c) (hg : ∀ g ∈ c.Groups, g.Name.length ≤ MX) {text : List Int} (ht : text.length ≤ 1000) (h0 : text ≠ []) : zAT n c text = some (stE c (xB n) text) := by
 have hpos : 0 < text.length := List.length_pos_iff.2 h0
 have hl : (xB n).length ≤ 1000 := by have := zHU hn; omega
 obtain ⟨seq, h1, h2⟩ := zQN hs (zMO n) hl ht h0
 unfold zAT xJ k8
 have e0 : decide ((text.length : Int) = 0) = false := by simp; omega
 rw [e0, cond_false, z6R ht, zA, zT6 hs hg, zA, zUH hn hok, zA, h1, zA]
 simp only [h2, zA]
 have hlen : (stE c (xB n) text).2.2.length ≤ 1000 := by
  unfold stE
  split
  · exact z0P _ _
  · exact z0O (zT7 hs) _
 rw [z6R hlen]
 rfl
end Go.M
namespace Go.M
open Go.AV
def n0 : Norm := { Classes := [{ Lo := 769, Hi := 769, Value := 230 }, { Lo := 803, Hi := 803, Value := 220 }], Decomp := [], Excluded := { Ranges := [] } }
def c0 : Collation := { Entries := [{ Codes := [97], Elements := [{ Primary := 7, Secondary := 1, Tertiary := 1, Variable := false }] }, { Codes := [97, 769], Elements := [{ Primary := 8, Secondary := 1, Tertiary := 1, Variable := false }] }], Groups := [], Base := 100, Second := 1, Third := 1 }
theorem z7F : VD0 n0 := by
 refine ⟨⟨fun k hk => ?_, fun k hk => ?_, fun k hk => ?_⟩, ⟨fun m hm => (by cases hm), fun m hm => (by cases hm), fun m hm => (by cases hm), fun k hk => (by cases hk)⟩, trivial, fun k hk => (by cases hk), fun m hm => (by cases hm), fun m hm => (by cases hm), fun m hm => (by cases hm), ?_⟩
 ·
  have hk' : k < 2 := hk
  match k, hk' with
  | 0, _ => unfold spOk nth n0; decide
  | 1, _ => unfold spOk nth n0; decide
 ·
  have hk' : k + 1 < 2 := hk
  match k, hk' with
  | 0, _ => unfold adOk nth n0; decide
 ·
  have hk' : k < 2 := hk
  match k, hk' with
  | 0, _ => unfold hgOk nth n0; decide
  | 1, _ => unfold hgOk nth n0; decide
 ·
  unfold decompose_measure
  rw [zL (y := (false, false)) (by rfl)]
  rfl
theorem z7G : NSm n0 := ⟨by decide, by decide, fun m hm => (by cases hm), fun m hm => (by cases hm), by decide⟩
theorem yFZ : zB5 n0 := by unfold zB5 okSpan z5S n0; simp
theorem zXO : Sm c0 := ⟨by decide, by decide, by decide, by decide⟩
theorem yF0 : stE c0 n0.Classes [97, 803, 769] = (2, [803], [{ Primary := 8, Secondary := 1, Tertiary := 1, Variable := false }]) := by decide
theorem yF1 : ckE c0 = 0 := by decide
theorem z7H : zC8 = some true := by
  have hcl : xB n0 = n0.Classes := by unfold xB; rw [if_pos z7F]
  have h1 := yAV (n := n0) (c := c0) z7G yFZ zXO (fun g hg => by cases hg) (text := [97, 803, 769]) (by decide) (by simp)
  rw [hcl, yF0] at h1
  have h2 : xF c0 = some 0 := by rw [zW2 zXO (fun g hg => by cases hg), yF1]
  have e : zC8 = (zAT n0 c0 [97, 803, 769]).bind fun t28 =>
      (xF c0).bind fun t33 =>
      (pv (decide (t33 = 0))).bind fun b35 =>
      (pv (b35 && (decide (t28.1 = 2)))).bind fun b39 =>
      (gM b39 (zB8 t28.2.1 [803])).bind fun t42 =>
      (pv (b39 && t42)).bind fun b44 =>
      (gM b44 (zBE t28.2.2 [({ Primary := 8, Secondary := 1, Tertiary := 1, Variable := false } : Element)])).bind fun t47 =>
      some (b44 && t47) := rfl
  rw [e, h1, zA, h2, zA]
  simp only [zO, decide_true, Bool.and_self, xH, zW6 (a := [803]) (b := [803]) (by decide), zA, yAE (a := [({ Primary := 8, Secondary := 1, Tertiary := 1, Variable := false } : Element)]) (by decide)]
theorem yD7 (x : Unicodetextlaw43_Case) : ∃ b, zHH x = some b ∧ (b = true → NSm x.N ∧ Sm x.C ∧ x.Text.length ≤ 12) := by
 obtain ⟨b, hb, hp⟩ := yAR x.N
 unfold zHH
 rw [hb]
 simp only [zA, zO]
 cases b with
 | false => exact ⟨false, rfl, fun h => by cases h⟩
 | true =>
  simp only [xH, z6N, zA, Bool.true_and]
  refine ⟨_, rfl, fun h => ?_⟩
  simp only [Bool.and_eq_true, decide_eq_true_eq] at h
  exact ⟨hp rfl, yDQ h.1, by omega⟩
end Go.M
namespace Go.M
open Go.AV
theorem z7I {n : Norm} (h : DS n.Decomp) (hl : n.Decomp.length ≤ 1000) (c : Int) (b : Bool) : wW n c b = some (if syl c = true then (hdE c, true) else ((fnB n.Decomp b c).getD [], (fnB n.Decomp b c).isSome)) := by
 unfold wW
 rw [zKA, zA]
 by_cases hs : syl c = true
 ·
  have e : decide (4 ≤ hkE c) = true := by simpa using (zFK c).1 hs
  simp only [e, cond_true, z0R hs, zA, hs, if_true]
 ·
  have e : decide (4 ≤ hkE c) = false := by simp only [decide_eq_false_iff_not]; exact fun hh => hs ((zFK c).2 hh)
  simp only [Bool.not_eq_true] at hs
  simp only [e, cond_false, hs, Bool.false_eq_true, if_false]
  obtain ⟨i, hb, hp⟩ := z0T h hl c
  rw [hb]
  simp only [zA, zO]
  unfold fnB
  cases hf : n.Decomp.find? (isF c) with
  | none => simp [vK]
  | some m =>
   obtain ⟨h1, h2⟩ := hp m hf
   simp only [Option.isSome_some, Bool.not_true, Bool.not_false, xH, zY h1, h2, zA, Bool.false_or]
   cases b <;> cases hm : (m.Tag == []) <;> simp [hm]
section
variable {n : Norm} {b : Bool} (hd : DS n.Decomp) (hl : n.Decomp.length ≤ 1000) (hD : ∀ c, DD n.Decomp n.Decomp.length c) (hw : ∀ c, (fu n.Decomp b c).length ≤ 64)
def XOk (l : List Mapping) (b : Bool) (m : List (Int × List Int)) : Prop := ∀ k v, mget m k = some v → v = fu l b k
def z03 (l : List Mapping) (f : Nat) (c : Int) : Prop := (∃ k, DD l k c ∧ k + 2 ≤ f) ∨ (l.find? (isF c) = none ∧ syl c = false ∧ 1 ≤ f)
include hw in
theorem yD8 {f : Nat} (ih : ∀ c m, XOk n.Decomp b m → z03 n.Decomp f c → ∃ m', yV f c m n b = some (fu n.Decomp b c, m') ∧ XOk n.Decomp b m') (L : List Int) (hL : L.length ≤ 1000) (hn : ∀ e ∈ L, z03 n.Decomp f e) :
    ∀ (d i : Nat) (acc : List Int) (m : List (Int × List Int)), L.length - i = d → i ≤ L.length → acc.length ≤ 64 * i → XOk n.Decomp b m →
      ∃ m', zE (fun (x : Int × (List Int) × (List (Int × (List Int)))) => kV (L, true) (yV f) n b x.1 x.2.1 x.2.2) ((i : Int), acc, m) = some (acc ++ (L.drop i).flatMap (fu n.Decomp b), m') ∧ XOk n.Decomp b m' := by
  intro d
  induction d with
  | zero =>
    intro i acc m h1 h2 h3 h4
    refine ⟨m, ?_, h4⟩
    refine zL ?_
    rw [List.drop_of_length_le (show L.length ≤ i by omega)]
    simp only [kV, kN (show L.length ≤ i by omega), cond_false, List.flatMap_nil, List.append_nil]
  | succ d ihd =>
    intro i acc m h1 h2 h3 h4
    have hi : i < L.length := by omega
    obtain ⟨m1, hr, r1⟩ := ih L[i] m h4 (hn _ (List.getElem_mem hi))
    have hw1 := hw L[i]
    have ha : app acc (fu n.Decomp b L[i]) = some (acc ++ fu n.Decomp b L[i]) := zA8 (by omega)
    rw [zX (x' := (((i + 1 : Nat) : Int), acc ++ fu n.Decomp b L[i], m1)) (by
      simp only [kV, kA hi, cond_true, z1 hi, zA, hr, ha, zK (k := i) (by omega)])]
    obtain ⟨m2, hq, q1⟩ := ihd (i + 1) (acc ++ fu n.Decomp b L[i]) m1 (by omega) (by omega) (by rw [List.length_append]; omega) r1
    refine ⟨m2, ?_, q1⟩
    rw [hq, List.drop_eq_getElem_cons hi, List.flatMap_cons, List.append_assoc]
include hd hl hD hw in
theorem yF2 : ∀ (f : Nat) (c : Int) (m : List (Int × List Int)), XOk n.Decomp b m → z03 n.Decomp f c → ∃ m', yV f c m n b = some (fu n.Decomp b c, m') ∧ XOk n.Decomp b m' := by
 intro f
 induction f with
 | zero => intro c m _ hn; exfalso; rcases hn with ⟨k, _, h⟩ | ⟨_, _, h⟩ <;> omega
 | succ f ih =>
  intro c m hm hn
  show ∃ m', xQ (yV f) c m n b = some _ ∧ _
  unfold xQ
  cases hh : zBK m c with
  | true =>
   obtain ⟨v, hv⟩ := Option.isSome_iff_exists.1 hh
   have hg : uQ m c [] = v := by unfold uQ; rw [hv]; rfl
   rw [cond_true, hg, hm c v hv]
   exact ⟨m, rfl, hm⟩
  | false =>
   rw [cond_false, z7I hd hl, zA]
   have fin : ∀ (L : List Int), L.length ≤ 1000 → (∀ e ∈ L, z03 n.Decomp f e) → L.flatMap (fu n.Decomp b) = fu n.Decomp b c → ∃ m', (cond (!((L, true) : List Int × Bool).2) (some ([c], m)) ((zE (fun (x : Int × (List Int) × (List (Int × (List Int)))) => kV (L, true) (yV f) n b x.1 x.2.1 x.2.2) (0, [], m)).bind fun (y1 : (List Int) × (List (Int × (List Int)))) => some (y1.1, uS y1.2 c y1.1))) = some (fu n.Decomp b c, m') ∧ XOk n.Decomp b m' := by
    intro L hL hne hfl
    obtain ⟨m1, hq, q1⟩ := yD8 hw ih L hL hne L.length 0 [] m (by omega) (by omega) (by simp) hm
    rw [List.drop_zero, List.nil_append, hfl] at hq
    have hq' : zE (fun (x : Int × (List Int) × (List (Int × (List Int)))) => kV (L, true) (yV f) n b x.1 x.2.1 x.2.2) (0, [], m) = some (fu n.Decomp b c, m1) := hq
    simp only [Bool.not_true, cond_false]
    rw [hq']
    refine ⟨uS m1 c (fu n.Decomp b c), rfl, fun k v hk => ?_⟩
    rw [xO] at hk
    split at hk
    · rename_i hx; cases hk; rw [hx]
    · exact q1 k v hk
   cases hs : syl c with
   | true =>
    simp only [if_true]
    have hnone := zXJ hd hs
    have hpt : ∀ e ∈ hdE c, n.Decomp.find? (isF e) = none ∧ syl e = false := by
     intro e he
     obtain ⟨p1, p2⟩ := zQH hs he
     refine ⟨?_, p1⟩
     cases hf2 : n.Decomp.find? (isF e) with
     | none => rfl
     | some m => obtain ⟨q1, rfl⟩ := zEN hf2; exact absurd (hd.hk m q1) p2
    refine fin (hdE c) (by have := zLC c; omega) (fun e he => ?_) ?_
    ·
     obtain ⟨p1, p2⟩ := hpt e he
     refine .inr ⟨p1, p2, ?_⟩
     rcases hn with ⟨k, _, h⟩ | ⟨_, h, _⟩
     · omega
     · rw [hs] at h; cases h
    ·
     have h1 : fu n.Decomp b c = hdE c := by rw [zN7 hD, zGE hnone]
     rw [h1]
     have : ∀ L : List Int, (∀ e ∈ L, n.Decomp.find? (isF e) = none ∧ syl e = false) → L.flatMap (fu n.Decomp b) = L := by
      intro L
      induction L with
      | nil => intro _; rfl
      | cons x L ihL =>
       intro h
       obtain ⟨p1, p2⟩ := h x (by simp)
       have hx : fu n.Decomp b x = [x] := by rw [zN7 hD, zGE p1]; show hdE x = [x]; unfold hdE; rw [if_neg (by simp [p2])]
       rw [List.flatMap_cons, hx, ihL fun e he => h e (by simp [he])]
       rfl
     exact this _ hpt
   | false =>
    simp only [Bool.false_eq_true, if_false]
    cases hf : fnB n.Decomp b c with
    | none =>
     simp only [Option.getD_none, Option.isSome_none, Bool.not_false, cond_true]
     refine ⟨m, ?_, hm⟩
     rw [zN7 hD, hf]
     have : hdE c = [c] := by unfold hdE; rw [if_neg (by simp [hs])]
     simp only [this]
    | some to =>
     simp only [Option.getD_some, Option.isSome_some]
     obtain ⟨mm, h1, rfl, _⟩ := zHT hf
     obtain ⟨h2, _⟩ := zEN h1
     refine fin mm.To (hd.len mm h2) (fun e he => ?_) (by rw [zN7 hD c, hf])
     rcases hn with ⟨k, hk, h⟩ | ⟨h, _, _⟩
     ·
      cases k with
      | zero => have : n.Decomp.find? (isF c) = none := hk; rw [this] at h1; cases h1
      | succ k => exact .inl ⟨k, hk mm h1 e he, by omega⟩
     · rw [h] at h1; cases h1
end
noncomputable def usN (n : Norm) : Norm := open Classical in if VD0 n then n else { Classes := [], Decomp := [], Excluded := { Ranges := [] } }
structure GN (n : Norm) : Prop where
 ds : DS n.Decomp
 cv : CV n.Classes
 H : ∀ m ∈ n.Decomp, WW n.Decomp m.From
 w : ∀ m ∈ n.Decomp, wt n.Decomp true m.From ≤ 64
 cl : n.Classes.length ≤ 16
 de : n.Decomp.length ≤ 20
 ok : ∀ x ∈ n.Classes, okSpan x
theorem zUJ {n : Norm} (hs : NSm n) (hok : zB5 n) : GN (usN n) := by
 unfold usN
 split
 ·
  rename_i h
  obtain ⟨h1, h2⟩ := (z69 h.ds (by have := hs.de; omega)).1 h.ms
  exact ⟨h.ds, h.cv, h1, h2, hs.cl, hs.de, hok.1.2⟩
 · exact ⟨⟨fun k hk => (by cases hk), fun m hm => (by cases hm), fun m hm => (by cases hm)⟩, z7C, fun m hm => (by cases hm), fun m hm => (by cases hm), by simp, by simp, fun x hx => by cases hx⟩
theorem GN.dd {n : Norm} (h : GN n) : ∀ c, DD n.Decomp n.Decomp.length c := zQK h.ds h.H
theorem GN.len {n : Norm} (h : GN n) (b : Bool) (c : Int) : (fu n.Decomp b c).length ≤ 64 := yD1 h.ds (yD2 h.ds h.H h.w) b c
theorem GN.ex {n : Norm} (h : GN n) {b : Bool} (c : Int) (m : List (Int × List Int)) (hm : XOk n.Decomp b m) : ∃ m', yV 100 c m n b = some (fu n.Decomp b c, m') ∧ XOk n.Decomp b m' :=
 yF2 h.ds (by have := h.de; omega) h.dd (h.len b) 100 c m hm (.inl ⟨_, h.dd c, by have := h.de; omega⟩)
theorem yAW {n : Norm} (hs : NSm n) (hok : zB5 n) : uB n = some (usN n) := by
 obtain ⟨e, he, hv⟩ := z64 hs hok
 unfold uB usN
 rw [he, zA]
 by_cases hz : e = 0
 · rw [if_pos (hv.1 hz)]; simp [hz]
 · rw [if_neg (fun h => hz (hv.2 h))]; simp [hz]
theorem zXP {f : Int → List Int} {k : Nat} (h : ∀ e, (f e).length ≤ k) : ∀ L : List Int, (L.flatMap f).length ≤ k * L.length
 | [] => by simp
 | x :: L => by have := zXP h L; have := h x; rw [List.flatMap_cons, List.length_append, List.length_cons, Nat.mul_succ]; omega
theorem z3M {n : Norm} (h : GN n) {b : Bool} {text : List Int} (ht : text.length ≤ 1000) : ∀ (d i : Nat) (acc : List Int) (m : List (Int × List Int)), text.length - i = d → i ≤ text.length → acc.length ≤ 64 * i → XOk n.Decomp b m →
    zE (fun (x : Int × (List Int) × (List (Int × (List Int)))) => xR text n b x.1 x.2.1 x.2.2) ((i : Int), acc, m) = some (acc ++ (text.drop i).flatMap (fu n.Decomp b)) := by
  intro d
  induction d with
  | zero =>
    intro i acc m h1 h2 h3 h4
    refine zL ?_
    rw [List.drop_of_length_le (show text.length ≤ i by omega)]
    simp only [xR, kN (show text.length ≤ i by omega), cond_false, List.flatMap_nil, List.append_nil]
  | succ d ih =>
    intro i acc m h1 h2 h3 h4
    have hi : i < text.length := by omega
    obtain ⟨m1, hr, r1⟩ := h.ex (b := b) text[i] m h4
    have hw1 := h.len b text[i]
    have ha : app acc (fu n.Decomp b text[i]) = some (acc ++ fu n.Decomp b text[i]) := zA8 (by omega)
    rw [zX (x' := (((i + 1 : Nat) : Int), acc ++ fu n.Decomp b text[i], m1)) (by
      simp only [xR, kA hi, cond_true, z1 hi, zA, hr, ha, zK (k := i) (by omega)])]
    rw [ih (i + 1) (acc ++ fu n.Decomp b text[i]) m1 (by omega) (by omega) (by rw [List.length_append]; omega) r1, List.drop_eq_getElem_cons hi, List.flatMap_cons, List.append_assoc]
noncomputable def zJV (n : Norm) (b : Bool) (text : List Int) : List Int := text.flatMap (fu (usN n).Decomp b)
theorem yAX {n : Norm} (hs : NSm n) (hok : zB5 n) {text : List Int} (ht : text.length ≤ 1000) (b : Bool) : uI n text b = zAH (usN n).Classes (zJV n b text) := by
 have h := zUJ hs hok
 unfold uI zBF
 have hu : uB { Classes := n.Classes, Decomp := n.Decomp, Excluded := { Ranges := n.Excluded.Ranges } } = some (usN n) := yAW hs hok
 have hlp := z3M h (b := b) ht text.length 0 [] [] (by omega) (by omega) (by simp) (fun k v h => by cases h)
 rw [List.drop_zero, List.nil_append] at hlp
 have hlp' : zE (fun (x : Int × (List Int) × (List (Int × (List Int)))) => xR text (usN n) b x.1 x.2.1 x.2.2) (0, [], []) = some (zJV n b text) := hlp
 rw [hu, zA, zA, hlp', zA]
 cases zAH (usN n).Classes (zJV n b text) <;> rfl
end Go.M
namespace Go.M
open Go.AV
section
variable (key : Int → Int)
def ltK (a b : Int) : Bool := decide (key a < key b)
def ltC (a b : Int) : Bool := decide (0 < key a) && decide (key a < key b)
def srt (l : List Int) : List Int := uO (ltK key) l []
def csE (l : List Int) : List Int := uO (ltC key) l []
def rsE : List Int → List Int → List Int
 | [], run => srt key run
 | x :: t, run => if key x = 0 then srt key run ++ x :: rsE t [] else rsE t (run ++ [x])
end
section
variable {key : Int → Int}
theorem z7J (l : List Int) (x : Int) : srt key (l ++ [x]) = vQ (ltK key) (srt key l).reverse x [] := by
 unfold srt uO
 rw [List.foldl_append]
 rfl
theorem z04 (l : List Int) : Flt key l (srt key l) := by
 have := zKD (key := key) l []
 exact this
theorem z05 (l : List Int) : (srt key l).length = l.length := (z04 l).len.symm
theorem z06 {x : Int} (hx : 0 < key x) : ∀ (r q s : List Int), (∀ y, q.head? = some y → key y = 0) → vQ (ltC key) (r ++ q) x s = q.reverse ++ vQ (ltK key) r x s
 | [], q, s, hq => by
  cases q with
  | nil => rfl
  | cons y q =>
   have : ltC key x y = false := by unfold ltC; rw [hq y rfl]; simp; omega
   show vQ (ltC key) (y :: q) x s = _
   simp only [vQ, this, Bool.false_eq_true, if_false]
 | y :: r, q, s, hq => by
  have e : ltC key x y = ltK key x y := by unfold ltC ltK; simp [hx]
  show vQ (ltC key) (y :: (r ++ q)) x s = q.reverse ++ vQ (ltK key) (y :: r) x s
  simp only [vQ, e]
  cases ltK key x y with
  | true => simp only [if_true]; exact z06 hx r q (y :: s) hq
  | false => simp
theorem z7K (hnn : ∀ x, 0 ≤ key x) : ∀ (t run p : List Int), (∀ y, p.reverse.head? = some y → key y = 0) → uO (ltC key) t (p ++ srt key run) = p ++ rsE key t run
  | [], run, p, _ => rfl
  | x :: t, run, p, hp => by
    show uO (ltC key) t (vQ (ltC key) (p ++ srt key run).reverse x []) = p ++ rsE key (x :: t) run
    by_cases h0 : key x = 0
    · have e : ∀ r : List Int, vQ (ltC key) r x [] = r.reverse ++ [x] := by
        intro r
        cases r with
        | nil => rfl
        | cons y r =>
          have : ltC key x y = false := by unfold ltC; rw [h0]; simp
          simp [vQ, this]
      have ih := z7K hnn t [] (p ++ srt key run ++ [x]) (fun y hy => by simp at hy; rw [← hy]; exact h0)
      have e2 : srt key [] = [] := rfl
      rw [e2, List.append_nil] at ih
      rw [e, List.reverse_reverse, ih]
      simp [rsE, h0]
    · have hx : 0 < key x := by have := hnn x; omega
      rw [List.reverse_append, z06 hx _ _ _ hp, List.reverse_reverse, ← z7J, z7K hnn t (run ++ [x]) p hp]
      simp [rsE, h0]
theorem yEB (hnn : ∀ x, 0 ≤ key x) (t : List Int) : csE key t = rsE key t [] := by
 have := z7K hnn t [] [] (fun y hy => by cases hy)
 exact this
theorem z7L (t : List Int) : (csE key t).Perm t := by
 have := zIC (ltC key) t []
 rw [List.nil_append] at this
 exact this
theorem yAY (t : List Int) : (csE key t).length = t.length := (z7L t).length_eq
theorem zXQ {f : List Int → Option (List Int)} {P run T r : List Int} (hpos : 0 < run.length) (hf : f run = some r) : zIJ f (P ++ run ++ T) (P.length : Int) ((P.length + run.length : Nat) : Int) = some (P ++ r ++ T) := by
 unfold zIJ
 have a1 : ((P.length : Int)).toNat = P.length := by simp
 have a2 : (((P.length + run.length : Nat) : Int)).toNat = P.length + run.length := by omega
 rw [a1, a2, if_pos ⟨by omega, by omega, by rw [List.length_append, List.length_append]; omega⟩]
 have e1 : ((P ++ run ++ T).drop P.length).take (P.length + run.length - P.length) = run := by
  rw [List.append_assoc, List.drop_left, show P.length + run.length - P.length = run.length by omega, List.take_left]
 have d1 : (P ++ run ++ T).take P.length = P := by rw [List.append_assoc, List.take_left]
 have d2 : (P ++ run ++ T).drop (P.length + run.length) = T := by rw [← List.length_append, List.drop_left]
 rw [e1, d1, d2, hf]
 rfl
theorem z07 {f : List Int → Option (List Int)} {st : Int → Bool} (hst : ∀ x, st x = decide (key x = 0)) (hf : ∀ l, l.length ≤ 1000 → f l = some (srt key l)) : ∀ (t run P : List Int) (s : Int), P.length + run.length + t.length ≤ 1000 → (run = [] ∧ s = -1 ∨ run ≠ [] ∧ s = (P.length : Int)) →
    uE f Range.Lo Range.Hi (P ++ run ++ t) (jR st t ((P.length + run.length : Nat) : Int) s) = some (P ++ rsE key t run)
  | [], run, P, s, hl, hs => by
    rcases hs with ⟨rfl, rfl⟩ | ⟨hne, rfl⟩
    · simp only [jR, show ¬ (0 : Int) ≤ -1 by decide, if_false]
      show some (P ++ [] ++ []) = some (P ++ [])
      simp
    · have h0 : (0 : Int) ≤ (P.length : Int) := by omega
      simp only [jR, h0, if_true]
      have hpos : 0 < run.length := List.length_pos_iff.2 hne
      show (some (P ++ run ++ [])).bind (fun l => zIJ f l (P.length : Int) ((P.length + run.length : Nat) : Int)) = _
      rw [zA, zXQ hpos (hf run (by simp at hl; omega))]
      simp [rsE]
  | x :: t, run, P, s, hl, hs => by
    have hl' : P.length + run.length + t.length + 1 ≤ 1000 := by simp only [List.length_cons] at hl; omega
    by_cases h0 : key x = 0
    · have hsx : st x = true := by rw [hst]; simp [h0]
      rcases hs with ⟨rfl, rfl⟩ | ⟨hne, rfl⟩
      · have e : jR st (x :: t) ((P.length + ([] : List Int).length : Nat) : Int) (-1) = jR st t (((P ++ [x]).length + ([] : List Int).length : Nat) : Int) (-1) := by
          simp only [jR, hsx]
          simp
        have ih := z07 hst hf t [] (P ++ [x]) (-1) (by simp only [List.length_append, List.length_singleton, List.length_nil]; simp at hl'; omega) (.inl ⟨rfl, rfl⟩)
        rw [e, show P ++ [] ++ x :: t = P ++ [x] ++ [] ++ t by simp, ih]
        have e2 : srt key [] = [] := rfl
        simp [rsE, h0, e2]
      · have h00 : (0 : Int) ≤ (P.length : Int) := by omega
        have hpos : 0 < run.length := List.length_pos_iff.2 hne
        have e : jR st (x :: t) ((P.length + run.length : Nat) : Int) (P.length : Int) = { Lo := (P.length : Int), Hi := ((P.length + run.length : Nat) : Int) } :: jR st t (((P ++ srt key run ++ [x]).length + ([] : List Int).length : Nat) : Int) (-1) := by
          have e3 : (((P ++ srt key run ++ [x]).length + ([] : List Int).length : Nat) : Int) = ((P.length + run.length : Nat) : Int) + 1 := by simp [z05]; omega
          rw [e3]
          simp only [jR, hsx, Bool.not_true, Bool.false_and, Bool.false_eq_true, if_false, Bool.true_and, h00, decide_true, if_true]
        have ih := z07 hst hf t [] (P ++ srt key run ++ [x]) (-1) (by simp [z05]; omega) (.inl ⟨rfl, rfl⟩)
        have e4 : zIJ f (P ++ run ++ x :: t) (P.length : Int) ((P.length + run.length : Nat) : Int) = some (P ++ srt key run ++ [x] ++ [] ++ t) := by
          rw [zXQ hpos (hf run (by omega))]
          simp
        have e5 : uE f Range.Lo Range.Hi (P ++ run ++ x :: t) ({ Lo := (P.length : Int), Hi := ((P.length + run.length : Nat) : Int) } :: jR st t (((P ++ srt key run ++ [x]).length + ([] : List Int).length : Nat) : Int) (-1)) = uE f Range.Lo Range.Hi (P ++ srt key run ++ [x] ++ [] ++ t) (jR st t (((P ++ srt key run ++ [x]).length + ([] : List Int).length : Nat) : Int) (-1)) := by
          unfold uE
          rw [List.foldl_cons, zA, e4]
        rw [e, e5, ih]
        simp [rsE, h0]
    · have hsx : st x = false := by rw [hst]; simp [h0]
      have e : jR st (x :: t) ((P.length + run.length : Nat) : Int) s = jR st t ((P.length + (run ++ [x]).length : Nat) : Int) (P.length : Int) := by
        have e3 : ((P.length + (run ++ [x]).length : Nat) : Int) = ((P.length + run.length : Nat) : Int) + 1 := by simp; omega
        rw [e3]
        rcases hs with ⟨rfl, rfl⟩ | ⟨hne, rfl⟩
        · simp [jR, hsx]
        · have : ¬ ((P.length : Int) < 0) := by omega
          simp only [jR, hsx, Bool.not_false, Bool.true_and, this, decide_false, Bool.false_eq_true, if_false, Bool.false_and]
      have ih := z07 hst hf t (run ++ [x]) P (P.length : Int) (by simp; omega) (.inr ⟨by simp, rfl⟩)
      rw [e, show P ++ run ++ x :: t = P ++ (run ++ [x]) ++ t by simp, ih]
      simp [rsE, h0]
end
theorem z7M {l : List Span} (h : CV l) (hl : l.length ≤ 1000) (x y : Int) : xW x y l = some (sg (clE l x) (clE l y)) := by
 unfold xW
 simp only [zGD h hl, zA, z3F]
 unfold sg
 rfl
theorem yEC {l : List Span} (h : CV l) (hl : l.length ≤ 1000) (hok : ∀ x ∈ l, okSpan x) {text : List Int} (ht : text.length ≤ 1000) : zAH l text = some (csE (clE l) text) := by
 have hnn : ∀ x, 0 ≤ clE l x := yFY h
 unfold zAH xJ
 have hst : ∀ x, (kK l x == some 0) = decide (clE l x = 0) := fun x => by rw [zGD h hl]; by_cases hx : clE l x = 0 <;> simp [hx]
 rw [zSY hl hok h, zA, z6R ht, zA, zXG h hl ht hst rfl, zA]
 have := z07 (key := clE l) (f := fun p => kD p (fun x0 x1 => xW x0 x1 l)) (st := fun c => kK l c == some 0) hst (fun p hp => by
  obtain ⟨r, r1, r2, r3⟩ := z3L (key := clE l) (f := fun x0 x1 => xW x0 x1 l) (fun x y => z7M h hl x y) p hp
  rw [r1]
  have := zXM (key := clE l) r2 (zNO (key := clE l) p) (r3.symm.trans (z04 p))
  rw [this]
  rfl) text [] [] (-1) (by simpa using ht) (.inl ⟨rfl, rfl⟩)
 rw [yEB hnn]
 exact this
noncomputable def zLF (n : Norm) (b : Bool) (text : List Int) : List Int := csE (clE (usN n).Classes) (zJV n b text)
theorem zMR (n : Norm) (b : Bool) (text : List Int) : (zLF n b text).length = (zJV n b text).length := yAY _
theorem z3N {n : Norm} (hs : NSm n) (hok : zB5 n) (b : Bool) (text : List Int) : (zJV n b text).length ≤ 64 * text.length := zXP ((zUJ hs hok).len b) text
theorem zXR {n : Norm} (hs : NSm n) (hok : zB5 n) {text : List Int} {b : Bool} (ht : text.length ≤ 1000) (hf : (zJV n b text).length ≤ 1000) : uI n text b = some (zLF n b text) := by
 have h := zUJ hs hok
 rw [yAX hs hok ht, yEC h.cv (by have := h.cl; omega) h.ok hf]
 rfl
end Go.M
namespace Go.M
open Go.AV
theorem z7N {a : List Element} (ha : a.length ≤ 1000000000) : zBE a a = some true := by
 unfold zBE
 have hl : zE (fun (v : Int) => wN a a v) 0 = some (toS (vM (fun _ (_ : Element) => (none : Option Bool)) a 0)) := by
  refine jD a _ (fun k h => ?_) (fun k h => ?_)
  · simp only [wN, kA h, cond_true, z1 h, zA, decide_true, Bool.not_true, cond_false, zK (k := k) (by omega), stp]
  · simp only [wN, kN h, cond_false]
 have hn : ∀ (l : List Element) (k : Nat), vM (fun _ (_ : Element) => (none : Option Bool)) l k = none := by
  intro l
  induction l with
  | nil => intro k; rfl
  | cons x l ih => intro k; exact ih (k + 1)
 simp only [decide_true, Bool.not_true, cond_false, hl, zA, hn, toS]
 rfl
noncomputable def wkE (c : Collation) (l : List Span) : Nat → List Int → List Element × Bool
 | 0, _ => ([], true)
 | k + 1, text => if text = [] then ([], true) else ((stE c l text).2.2 ++ (wkE c l k (stE c l text).2.1).1, decide (x9 (yG c).Entries text ≠ 0) && (wkE c l k (stE c l text).2.1).2)
theorem z7O {c : Collation} {l : List Span} {text : List Int} (h0 : text ≠ []) : 1 ≤ (stE c l text).1 ∧ (stE c l text).1 + ((stE c l text).2.1.length : Int) = (text.length : Int) := by
 have hpos : 0 < text.length := List.length_pos_iff.2 h0
 unfold stE
 split
 ·
  refine ⟨by simp, ?_⟩
  show (1 : Int) + ((text.drop 1).length : Int) = _
  rw [List.length_drop]; omega
 ·
  rename_i hz
  have hle : x9 (yG c).Entries text ≤ text.length := zMP _ _
  have hinv := zMQ (fd := fun q => (zCJ (yG c).Entries q).2) (cl := clE l) (text.drop (x9 (yG c).Entries text)) (text.take (x9 (yG c).Entries text)) [] 0
  generalize zCL (fun q => (zCJ (yG c).Entries q).2) (clE l) (text.drop (x9 (yG c).Entries text)) (text.take (x9 (yG c).Entries text)) [] 0 = q at *
  obtain ⟨i1, i2, _⟩ := hinv
  rw [List.length_take, Nat.min_eq_left hle] at i1 i2
  rw [List.length_drop] at i2
  simp only [List.length_nil] at i2
  constructor
  · show (1 : Int) ≤ (q.1.length : Int); omega
  · show (q.1.length : Int) + (q.2.length : Int) = _; omega
theorem zS4 {c : Collation} {l : List Span} {text : List Int} (h0 : text ≠ []) : (stE c l text).2.1.length < text.length := by
 have := z7O (c := c) (l := l) h0
 omega
theorem z7P {c : Collation} (hs : Sm c) {l : List Span} (text : List Int) : (stE c l text).2.2.length ≤ 1000 := by
 unfold stE
 split
 · exact z0P _ _
 · exact z0O (zT7 hs) _
theorem z08 {c : Collation} {l : List Span} : ∀ (k j : Nat) (text : List Int), text.length ≤ k → text.length ≤ j → wkE c l k text = wkE c l j text
 | 0, j, text, h, _ => by
  have : text = [] := List.eq_nil_of_length_eq_zero (by omega)
  subst this
  cases j with
  | zero => rfl
  | succ j => simp [wkE]
 | k + 1, j, text, h, hj => by
  by_cases h0 : text = []
  ·
   subst h0
   cases j <;> simp [wkE]
  ·
   have hpos : 0 < text.length := List.length_pos_iff.2 h0
   cases j with
   | zero => omega
   | succ j =>
    have hlt := zS4 (c := c) (l := l) h0
    simp only [wkE, h0, if_false]
    rw [z08 k j _ (by omega) (by omega)]
noncomputable def wk (c : Collation) (l : List Span) (text : List Int) : List Element × Bool := wkE c l text.length text
theorem zNP (c : Collation) (l : List Span) : wk c l [] = ([], true) := rfl
theorem zMS {c : Collation} {l : List Span} {text : List Int} (h0 : text ≠ []) : wk c l text = ((stE c l text).2.2 ++ (wk c l (stE c l text).2.1).1, decide (x9 (yG c).Entries text ≠ 0) && (wk c l (stE c l text).2.1).2) := by
 have hlt := zS4 (c := c) (l := l) h0
 unfold wk
 obtain ⟨k, hk⟩ : ∃ k, text.length = k + 1 := ⟨text.length - 1, by have := List.length_pos_iff.2 h0; omega⟩
 rw [hk]
 simp only [wkE, h0, if_false]
 rw [z08 k (stE c l text).2.1.length _ (by omega) (by omega)]
theorem yED {c : Collation} (hs : Sm c) {l : List Span} : ∀ (k : Nat) (text : List Int), text.length ≤ k → (wk c l text).1.length ≤ 1000 * text.length := by
 intro k
 induction k with
 | zero =>
  intro text h
  have : text = [] := List.eq_nil_of_length_eq_zero (by omega)
  subst this; rw [zNP]; simp
 | succ k ih =>
  intro text h
  by_cases h0 : text = []
  · subst h0; rw [zNP]; simp
  ·
   have hlt := zS4 (c := c) (l := l) h0
   have h1 := ih _ (show (stE c l text).2.1.length ≤ k by omega)
   have h2 := z7P hs (l := l) text
   rw [zMS h0]
   show ((stE c l text).2.2 ++ (wk c l (stE c l text).2.1).1).length ≤ _
   rw [List.length_append]
   omega
section
variable {c : Collation} (hs : Sm c) {l : List Span} (hcv : CV l) (hl : l.length ≤ 1000)
include hs hcv hl
theorem yA0 : ∀ (k : Nat) (text : List Int) (acc : List Element), text.length ≤ k → text.length ≤ 1000 → acc.length + 1000 * text.length ≤ 100000000 → zE (fun (x : (List Element) × (List Int)) => jQ (zIW c l) x.1 x.2) (acc, text) = some (acc ++ (wk c l text).1) := by
 intro k
 induction k with
 | zero =>
  intro text acc h _ _
  have : text = [] := List.eq_nil_of_length_eq_zero (by omega)
  subst this
  refine zL ?_
  simp [jQ, zNP]
 | succ k ih =>
  intro text acc h ht ha
  by_cases h0 : text = []
  ·
   subst h0
   refine zL ?_
   simp [jQ, zNP]
  ·
   have hpos : 0 < text.length := List.length_pos_iff.2 h0
   have hlt := zS4 (c := c) (l := l) h0
   have h2 := z7P hs (l := l) text
   obtain ⟨seq, m1, m2⟩ := zQN hs hcv hl ht h0
   have e0 : decide ((0 : Int) < (text.length : Int)) = true := by simp; omega
   have ea : app acc (stE c l text).2.2 = some (acc ++ (stE c l text).2.2) := zA8 (by omega)
   rw [zX (x' := (acc ++ (stE c l text).2.2, (stE c l text).2.1)) (by simp only [jQ, e0, cond_true, m1, zA, ea, m2])]
   rw [ih _ _ (by omega) (by omega) (by rw [List.length_append]; omega), zMS h0, List.append_assoc]
theorem yA1 : ∀ (k : Nat) (text : List Int), text.length ≤ k → text.length ≤ 1000 → ∃ y, zE (fun (x : (List Int)) => jV (zIW c l) x) text = some y ∧ (y = .inl () ∧ (wk c l text).2 = true ∨ y = .inr false ∧ (wk c l text).2 = false) := by
 intro k
 induction k with
 | zero =>
  intro text h _
  have : text = [] := List.eq_nil_of_length_eq_zero (by omega)
  subst this
  exact ⟨.inl (), zL (by simp [jV]), .inl ⟨rfl, rfl⟩⟩
 | succ k ih =>
  intro text h ht
  by_cases h0 : text = []
  ·
   subst h0
   exact ⟨.inl (), zL (by simp [jV]), .inl ⟨rfl, rfl⟩⟩
  ·
   have hpos : 0 < text.length := List.length_pos_iff.2 h0
   have hlt := zS4 (c := c) (l := l) h0
   obtain ⟨seq, m1, m2⟩ := zQN hs hcv hl ht h0
   have e0 : decide ((0 : Int) < (text.length : Int)) = true := by simp; omega
   by_cases hz : x9 (yG c).Entries text = 0
   ·
    refine ⟨.inr false, zL ?_, .inr ⟨rfl, ?_⟩⟩
    ·
     have e1 : decide (x9 (yG c).Entries text ≠ 0) = false := by simpa using hz
     simp only [jV, e0, cond_true, m1, zA, e1, Bool.not_false]
    · rw [zMS h0]; simp [hz]
   ·
    have e1 : decide (x9 (yG c).Entries text ≠ 0) = true := by simpa using hz
    rw [zX (x' := (stE c l text).2.1) (by simp only [jV, e0, cond_true, m1, zA, e1, Bool.not_true, cond_false, m2])]
    obtain ⟨y, y1, y2⟩ := ih _ (show (stE c l text).2.1.length ≤ k by omega) (by omega)
    refine ⟨y, y1, ?_⟩
    rw [zMS h0]
    show _ ∧ (decide (x9 (yG c).Entries text ≠ 0) && _) = true ∨ _ ∧ (decide (x9 (yG c).Entries text ≠ 0) && _) = false
    rw [e1, Bool.true_and]
    exact y2
end
theorem zXS (n : Norm) : xB n = (usN n).Classes := by
 unfold xB usN
 split <;> rfl
section
variable {n : Norm} {c : Collation} (hn : NSm n) (hok : zB5 n) (hs : Sm c) (hg : ∀ g ∈ c.Groups, g.Name.length ≤ MX) {text : List Int} (ht : text.length ≤ 1000) (hf : (zJV n false text).length ≤ 1000)
include hn hok hs hg ht hf
theorem zXT : uJ n c text = some (wk c (xB n) (zLF n false text)).1 := by
 unfold uJ
 have hl : (xB n).length ≤ 1000 := by have := zHU hn; omega
 have hd : (zLF n false text).length ≤ 1000 := by rw [zMR]; exact hf
 rw [zT6 hs hg, zA, zUH hn hok, zA, zXR hn hok ht hf, zA, yA0 hs (zMO n) hl _ _ [] (Nat.le_refl _) hd (by simp; omega)]
 rfl
theorem z7Q : zBO n c text = some (wk c (xB n) (zLF n false text)).2 := by
 unfold zBO
 have hl : (xB n).length ≤ 1000 := by have := zHU hn; omega
 have hd : (zLF n false text).length ≤ 1000 := by rw [zMR]; exact hf
 obtain ⟨y, y1, y2⟩ := yA1 hs (zMO n) hl _ (zLF n false text) (Nat.le_refl _) hd
 rw [zT6 hs hg, zA, zUH hn hok, zA, zXR hn hok ht hf, zA, y1, zA]
 rcases y2 with ⟨rfl, h⟩ | ⟨rfl, h⟩
 · rw [h]; rfl
 · rw [h]; rfl
end
theorem yEE {n : Norm} {c : Collation} (hs : Sm c) {text : List Int} (hd : (zLF n false text).length ≤ 1000) : (wk c (xB n) (zLF n false text)).1.length ≤ 1000000000 := by
 have := yED hs (l := xB n) _ (zLF n false text) (Nat.le_refl _)
 omega
end Go.M
namespace Go.M
open Go.AV
end Go.M
namespace Go.M
open Go.AV
theorem yF3 (a0 : List Span) (v6 : Nat) (hv : v6 < a0.length) (H : List Range) (hH : H = [{ Lo := 4352, Hi := 4370 }, { Lo := 4449, Hi := 4469 }, { Lo := 4520, Hi := 4546 }, { Lo := 44032, Hi := 55203 }]) :
    (zE (fun (x : Int) => wY H a0 (v6 : Int) x) 0 = some (.inl ()) ∧ hgOk (nth a0 v6)) ∨ (zE (fun (x : Int) => wY H a0 (v6 : Int) x) 0 = some (.inr 11) ∧ ¬ hgOk (nth a0 v6)) := by
  have h := kW (body := fun (x : Int) => wY H a0 (v6 : Int) x) H.length (fun k => ¬ ((nth a0 v6).Lo ≤ (nth H k).Hi ∧ (nth H k).Lo ≤ (nth a0 v6).Hi)) (fun y => y = 11) (fun k hk => by
    have hl : H.length = 4 := by rw [hH]; rfl
    simp only [wY, kA hk, cond_true, zY hv, zY hk, zA, zO, zK (k := k) (by omega)]
    by_cases h1 : (nth a0 v6).Lo ≤ (nth H k).Hi
    · simp only [h1, decide_true, xH, zA, Bool.true_and, true_and]
      exact uN (by simp) rfl
    · simp only [h1, decide_false, vK, zA, Bool.false_and, cond_false, false_and]
      exact .inl ⟨by simp, trivial⟩) (fun k hk => by simp only [wY, kN hk, cond_false])
  have e : (∀ j, j < H.length → ¬ ((nth a0 v6).Lo ≤ (nth H j).Hi ∧ (nth H j).Lo ≤ (nth a0 v6).Hi)) ↔ hgOk (nth a0 v6) := by
    subst hH
    unfold hgOk
    constructor
    · intro h; exact ⟨h 0 (by decide), h 1 (by decide), h 2 (by decide), h 3 (by decide)⟩
    · rintro ⟨h0, h1, h2, h3⟩ j hj
      have hj' : j < 4 := hj
      match j, hj' with
      | 0, _ => exact h0
      | 1, _ => exact h1
      | 2, _ => exact h2
      | 3, _ => exact h3
  rw [e] at h
  rcases h with h | ⟨y, rfl, h⟩
  · exact .inl h
  · exact .inr h
theorem z7R {l : List Span} (hl : l.length ≤ 1000) : Ver (zC9 l) (CV l) := by
 have h0 := kW (body := fun (x : Int) => zAW l x) l.length (fun k => spOk (nth l k)) (fun y => y ≠ 0) (fun k hk => by
  simp only [zAW, kA hk, cond_true, zY hk, zA, zO, zDA, zK (k := k) (by omega), spOk, vld]
  generalize nth l k = q
  by_cases h1 : 0 ≤ q.Lo <;> by_cases h2 : q.Lo ≤ 1114111 <;> by_cases h3 : 0 ≤ q.Hi <;> by_cases h4 : q.Hi ≤ 1114111 <;> by_cases h5 : q.Hi < q.Lo <;> by_cases h6 : q.Value < 1 <;> by_cases h7 : 254 < q.Value <;> simp [h1, h2, h3, h4, h5, h6, h7, xH, vK, zA] <;> omega) (fun k hk => by simp only [zAW, kN hk, cond_false])
 unfold zC9 Ver
 rcases h0 with ⟨h0, p0⟩ | ⟨y, hy, h0, p0⟩
 ·
  rw [h0]
  simp only [zA, Sum.elim_inl]
  have h1 := zJ9 (body := fun (x : Int) => zAX l x) l.length (fun k => adOk (nth l k) (nth l (k + 1))) (fun y => y ≠ 0) (fun k hk => by
   have hk' : k < l.length := by omega
   have w := (p0 k hk').2.1
   have w0 := (p0 k hk').1
   have w1 := (p0 k hk').2.2.1
   simp only [zAX, kA hk, cond_true, zY hk, zA, zO, zK (k := k + 1) (by omega), zB0 (k := k) (by omega), zY hk']
   by_cases a1 : (nth l (k + 1)).Lo ≤ (nth l k).Hi
   ·
    simp only [a1, decide_true, Bool.not_true, vK, zA, Bool.false_and, Bool.true_or, cond_true]
    exact .inr ⟨by unfold adOk; omega, 4, by decide, rfl⟩
   ·
    simp only [a1, decide_false, Bool.not_false, xH, zA, Bool.true_and, Bool.false_or]
    rw [wM (n := (nth l k).Hi + 1) (by omega) (by omega)]
    by_cases a2 : (nth l (k + 1)).Lo = (nth l k).Hi + 1
    ·
     simp only [a2, decide_true, xH, zA, Bool.true_and]
     exact uN (by unfold adOk; simp only [decide_eq_true_eq]; omega) (by decide)
    ·
     simp only [a2, decide_false, vK, zA, Bool.false_and, cond_false]
     exact .inl ⟨by unfold adOk; omega, trivial⟩) (fun k hk => by simp only [zAX, kN hk, cond_false])
  rcases h1 with ⟨h1, p1⟩ | ⟨y, hy, h1, p1⟩
  ·
   rw [h1]
   simp only [zA, Sum.elim_inl, zFI]
   have h2 := kW (body := fun (x : Int) => zAY l [{ Lo := 4352, Hi := 4370 }, { Lo := 4449, Hi := 4469 }, { Lo := 4520, Hi := 4546 }, { Lo := 44032, Hi := 55203 }] x) l.length (fun k => hgOk (nth l k)) (fun y => y ≠ 0) (fun k hk => by
    simp only [zAY, kA hk, cond_true, zK (k := k) (by omega)]
    rcases yF3 l k hk _ rfl with ⟨h, p⟩ | ⟨h, p⟩
    · rw [h]; exact .inl ⟨p, rfl⟩
    · rw [h]; exact .inr ⟨p, 11, by decide, rfl⟩) (fun k hk => by simp only [zAY, kN hk, cond_false])
   rcases h2 with ⟨h2, p2⟩ | ⟨y, hy, h2, p2⟩
   · rw [h2]; exact ⟨0, rfl, by simp only [true_iff]; exact ⟨p0, p1, p2⟩⟩
   · rw [h2]; exact ⟨y, rfl, by simp only [hy, false_iff]; exact fun h => p2 h.hg⟩
  · rw [h1]; exact ⟨y, rfl, by simp only [hy, false_iff]; exact fun h => p1 h.ad⟩
 · rw [h0]; exact ⟨y, rfl, by simp only [hy, false_iff]; exact fun h => p0 h.sp⟩
theorem zGF {l : List Span} (hl : l.length ≤ 1000) (h : CV l) (c : Int) : u9 l c = some (clE l c) := by
 obtain ⟨e, he, hp⟩ := z7R hl
 unfold u9
 rw [he, zA, hp.2 h]
 simp only [decide_true, Bool.not_true, cond_false]
 have hb : ∀ k, k < l.length → xP l c (k : Int) = if zOP c (nth l k) then some (.done (.inr (nth l k).Value)) else some (.next ((k + 1 : Nat) : Int)) := fun k hk => by
  simp only [xP, kA hk, cond_true, zY hk, zA, zO, zK (k := k) (by omega), zOP]
  by_cases h1 : (nth l k).Lo ≤ c
  · by_cases h2 : c ≤ (nth l k).Hi <;> simp [h1, h2, xH]
  · simp [h1, vK]
 have key : ∀ (d k : Nat), l.length - k = d → k ≤ l.length → (∀ j, j < k → zOP c (nth l j) = false) → (zE (fun (x : Int) => xP l c x) (k : Int)).bind (fun y => y.elim (fun _ => some 0) fun y => some y) = some (clE l c) := by
  intro d
  induction d with
  | zero =>
   intro k h1 h2 h3
   have : k = l.length := by omega
   subst this
   rw [zL (y := .inl ()) (by simp only [xP, kN (Nat.le_refl _), cond_false])]
   unfold clE
   rw [zUC h3]
   rfl
  | succ d ih =>
   intro k h1 h2 h3
   have hk : k < l.length := by omega
   cases hi : zOP c (nth l k) with
   | true =>
    rw [zL (y := .inr (nth l k).Value) (by show xP l c (k : Int) = _; rw [hb k hk, hi]; rfl)]
    unfold clE
    rw [zMM hk h3 hi]
    rfl
   | false =>
    rw [zX (x' := ((k + 1 : Nat) : Int)) (by show xP l c (k : Int) = _; rw [hb k hk, hi]; rfl)]
    refine ih (k + 1) (by omega) (by omega) fun j hj => ?_
    by_cases e : j = k
    · subst e; exact hi
    · exact h3 j (by omega)
 exact key l.length 0 (by omega) (by omega) (fun j hj => by omega)
theorem zLG {l : List Span} (hl : l.length ≤ 1000) (h : CV l) (c : Int) : zCW l c = some (decide (clE l c = 0)) := by
 unfold zCW
 rw [zGF hl h]
 rfl
end Go.M
namespace Go.M
open Go.AV
theorem yEF {a b c : Mapping} (h1 : mlt a b) (h2 : mlt b c) : mlt a c := by
 unfold mlt at *
 rcases h1 with h1 | ⟨h1, t1⟩
 ·
  rcases h2 with h2 | ⟨h2, t2⟩
  · exact .inl (by omega)
  · exact .inl (by omega)
 ·
  rcases h2 with h2 | ⟨h2, t2⟩
  · exact .inl (by omega)
  · exact .inr ⟨by omega, List.lt_trans t1 t2⟩
theorem yA2 {a b : Mapping} (h : mlt a b) : ¬ (a.From = b.From ∧ a.Tag = b.Tag) := by
 rintro ⟨h1, h2⟩
 unfold mlt at h
 rcases h with h | ⟨_, h⟩
 · omega
 · rw [h2] at h; exact List.lt_irrefl _ h
theorem z09 {l : List Mapping} (h : ∀ k, k + 1 < l.length → mlt (nth l k) (nth l (k + 1))) : ∀ (d i : Nat), i + d + 1 < l.length → mlt (nth l i) (nth l (i + d + 1))
 | 0, i, hi => h i hi
 | d + 1, i, hi => by
  have h1 := z09 h d i (by omega)
  have h3 := h (i + d + 1) (by omega)
  have : i + (d + 1) + 1 = i + d + 1 + 1 := by omega
  rw [this]
  exact yEF h1 h3
theorem yF4 (x y : Str) : (x == y) = decide (x = y) := by
 rw [Bool.eq_iff_iff]; simp
section
variable {l : List Mapping} (hl : l.length ≤ 1000) (hto : ∀ m ∈ l, m.To.length ≤ 1000) (htg : ∀ m ∈ l, m.Tag.length ≤ MX)
include hl hto htg
omit hl hto htg in
theorem z7S {m : Mapping} (hm : m.To.length ≤ 1000) : ∃ b, zEZ m = some b ∧ (b = true ↔ codesOk m) := by
 unfold zEZ
 have h := kW (body := fun (x : Int) => zAZ m x) m.To.length (fun j => vld (nth m.To j) = true) (fun y => y = false) (fun j hj => by
  simp only [zAZ, kA hj, cond_true, zY hj, zA, zDA, zK (k := j) (by omega)]
  exact uN (by simp) rfl) (fun j hj => by simp only [zAZ, kN hj, cond_false])
 rw [zBH (p := fun c => vld c = true)] at h
 rcases h with ⟨h, p⟩ | ⟨y, rfl, h, p⟩
 ·
  rw [h]
  simp only [zA, Sum.elim_inl, zDA]
  exact ⟨_, rfl, ⟨fun a => ⟨a, p⟩, fun a => a.1⟩⟩
 · rw [h]; exact ⟨false, rfl, by simp only [Bool.false_eq_true, false_iff]; exact fun a => p a.2⟩
omit hto htg in
theorem z7T : ∃ b, zE0 l = some b ∧ (b = true → ¬ ∀ k, k + 1 < l.length → mlt (nth l k) (nth l (k + 1))) ∧ (b = false → True) := by
 unfold zE0
 have inner : ∀ i, i < l.length → (zE (fun (x : Int) => wZ (i : Int) l x) 0 = some (.inl ()) ∧ ∀ j, j < i → ¬ ((nth l i).From = (nth l j).From ∧ (nth l i).Tag = (nth l j).Tag)) ∨ (∃ y, y = true ∧ zE (fun (x : Int) => wZ (i : Int) l x) 0 = some (.inr y) ∧ ¬ ∀ j, j < i → ¬ ((nth l i).From = (nth l j).From ∧ (nth l i).Tag = (nth l j).Tag)) := by
  intro i hi
  refine kW (body := fun (x : Int) => wZ (i : Int) l x) i _ (fun y => y = true) (fun j hj => ?_) (fun j hj => by simp only [wZ, kN hj, cond_false])
  have hj' : j < l.length := by omega
  simp only [wZ, kA hj, cond_true, zY hi, zY hj', zA, zO, zK (k := j) (by omega), yF4]
  by_cases a : (nth l i).From = (nth l j).From
  ·
   simp only [a, decide_true, xH, zA, Bool.true_and, true_and]
   exact uN (by simp) rfl
  ·
   simp only [a, decide_false, vK, zA, Bool.false_and, cond_false, false_and]
   exact .inl ⟨by simp, trivial⟩
 have h := kW (body := fun (x : Int) => zA0 l x) l.length (fun i => ∀ j, j < i → ¬ ((nth l i).From = (nth l j).From ∧ (nth l i).Tag = (nth l j).Tag)) (fun y => y = true) (fun k hk => by
  simp only [zA0, kA hk, cond_true, zK (k := k) (by omega)]
  rcases inner k hk with ⟨h, p⟩ | ⟨y, hy, h, p⟩
  · rw [h]; exact .inl ⟨p, rfl⟩
  · rw [h]; exact .inr ⟨p, y, hy, rfl⟩) (fun j hj => by simp only [zA0, kN hj, cond_false])
 rcases h with ⟨h, p⟩ | ⟨y, rfl, h, p⟩
 · rw [h]; exact ⟨false, rfl, fun h => (by cases h), fun _ => trivial⟩
 ·
  rw [h]
  refine ⟨true, rfl, fun _ hh => p fun i hi j hj => ?_, fun _ => trivial⟩
  have := z09 hh (i - j - 1) j (by omega)
  rw [show j + (i - j - 1) + 1 = i by omega] at this
  have := yA2 this
  exact fun ⟨a, b⟩ => this ⟨a.symm, b.symm⟩
theorem yEG : ∃ e, zB9 l = some e ∧ (e = 0 → (∀ m ∈ l, codesOk m) ∧ (∀ m ∈ l, m.To.length ≤ 64) ∧ ∀ m ∈ l, tagOk m) ∧ (e ≠ 0 → ¬ MV l) := by
 unfold zB9
 have h0 := kW (body := fun (x : Int) => vD l x) l.length (fun k => codesOk (nth l k)) (fun y => y ≠ 0) (fun k hk => by
  obtain ⟨b, hb, hp⟩ := z7S (hto _ (xX hk))
  simp only [vD, kA hk, cond_true, zY hk, zA, hb, zK (k := k) (by omega)]
  exact uN (by rw [← hp]; simp) (by decide)) (fun k hk => by simp only [vD, kN hk, cond_false])
 rw [zBH (p := codesOk)] at h0
 rcases h0 with ⟨h0, p0⟩ | ⟨y, hy, h0, p0⟩
 case inr => rw [h0]; exact ⟨y, rfl, fun h => absurd h hy, fun _ h => p0 h.co⟩
 rw [h0]
 simp only [zA, Sum.elim_inl]
 have h1 := kW (body := fun (x : Int) => vE l x) l.length (fun k => (nth l k).To.length ≤ 64) (fun y => y ≠ 0) (fun k hk => by
  simp only [vE, kA hk, cond_true, zY hk, zA, zK (k := k) (by omega)]
  exact uN (by simp only [decide_eq_true_eq]; omega) (by decide)) (fun k hk => by simp only [vE, kN hk, cond_false])
 rw [zBH (p := fun (m : Mapping) => m.To.length ≤ 64)] at h1
 rcases h1 with ⟨h1, p1⟩ | ⟨y, hy, h1, p1⟩
 case inr => rw [h1]; exact ⟨y, rfl, fun h => absurd h hy, fun _ h => p1 h.sz⟩
 rw [h1]
 simp only [zA, Sum.elim_inl]
 have h2 := kW (body := fun (x : Int) => vF l x) l.length (fun k => tagOk (nth l k)) (fun y => y ≠ 0) (fun k hk => by
  simp only [vF, kA hk, cond_true, zY hk, zA, zO, zK (k := k) (by omega), tagOk, yF4]
  by_cases ht : (nth l k).Tag = []
  ·
   simp only [ht, decide_true, Bool.not_true, vK, zA, Bool.false_and, cond_false]
   exact .inl ⟨.inl trivial, trivial⟩
  ·
   simp only [ht, decide_false, Bool.not_false, xH, zA, z0L (htg _ (xX hk)), Bool.true_and, false_or]
   exact uN (by simp) (by decide)) (fun k hk => by simp only [vF, kN hk, cond_false])
 rw [zBH (p := tagOk)] at h2
 rcases h2 with ⟨h2, p2⟩ | ⟨y, hy, h2, p2⟩
 case inr => rw [h2]; exact ⟨y, rfl, fun h => absurd h hy, fun _ h => p2 h.tg⟩
 rw [h2]
 simp only [zA, Sum.elim_inl]
 obtain ⟨b, hb, hp, _⟩ := z7T hl
 rw [hb, zA]
 cases b with
 | true => exact ⟨5, rfl, fun h => absurd h (by decide), fun _ h => hp rfl h.lt⟩
 | false => exact ⟨0, rfl, fun _ => ⟨p0, p1, p2⟩, fun h => absurd rfl h⟩
theorem yEH : Ver (zE1 l) (MV l) := by
 obtain ⟨e, he, h0, h1⟩ := yEG hl hto htg
 unfold zE1
 rw [he, zA]
 by_cases hz : e = 0
 case neg =>
  have : (!decide (e = 0)) = true := by simp [hz]
  rw [this, cond_true]
  exact ⟨e, rfl, by simp only [hz, false_iff]; exact h1 hz⟩
 obtain ⟨p0, p1, p2⟩ := h0 hz
 rw [hz]
 simp only [decide_true, Bool.not_true, cond_false]
 have h3 := zJ9 (body := fun (x : Int) => zA1 l x) l.length (fun k => mlt (nth l k) (nth l (k + 1))) (fun y => y ≠ 0) (fun k hk => by
  have hk' : k < l.length := by omega
  simp only [zA1, kA hk, cond_true, zY hk, zA, zK (k := k + 1) (by omega), zB0 (k := k) (by omega), zY hk', zFJ, zO, z6T]
  exact uN (by unfold mlt; simp only [Bool.not_eq_true', Bool.or_eq_false_iff, Bool.and_eq_false_iff, decide_eq_false_iff_not, not_or, Classical.not_and_iff_not_or_not]) (by decide)) (fun k hk => by simp only [zA1, kN hk, cond_false])
 rcases h3 with ⟨h3, p3⟩ | ⟨y, hy, h3, p3⟩
 · rw [h3]; exact ⟨0, rfl, by simp only [true_iff]; exact ⟨p0, p1, p2, p3⟩⟩
 · rw [h3]; exact ⟨y, rfl, by simp only [hy, false_iff]; exact fun h => p3 h.lt⟩
end
end Go.M
namespace Go.M
open Go.AV
section
variable {β : Type} [Inhabited β] (upd : List β → Nat → β)
def zMT : Nat → Nat → List β → List β
 | 0, _, out => out
 | d + 1, i, out => zMT d (i + 1) (out.set i (upd out i))
def zGG (n : Nat) : Nat → List β → List β
 | 0, out => out
 | k + 1, out => zGG n k (zMT upd n 0 out)
end
section
variable {β : Type} [Inhabited β] {upd : List β → Nat → β} {n : Nat} {Inv : List β → Prop}
theorem zO0 {out : List β} {i j : Nat} {x : β} (hi : i < out.length) : nth (out.set i x) j = if j = i then x else nth out j := by
 unfold nth
 rw [List.getD_eq_getElem?_getD, List.getD_eq_getElem?_getD, List.getElem?_set]
 by_cases h : i = j
 · subst h; simp [hi]
 · rw [if_neg h, if_neg (fun e => h e.symm)]
theorem yA3 {out : List β} {i : Nat} (hi : i < out.length) : out.set i (nth out i) = out := by
 rw [zA9 hi]; simp
omit [Inhabited β] in
theorem zO1 : ∀ (d i : Nat) (out : List β), (zMT upd d i out).length = out.length
 | 0, _, _ => rfl
 | d + 1, i, out => by rw [zMT, zO1 d]; simp
omit [Inhabited β] in
theorem zO2 (hi : ∀ i out, i < n → out.length = n → Inv out → Inv (out.set i (upd out i))) : ∀ (d i : Nat) (out : List β), i + d = n → out.length = n → Inv out → Inv (zMT upd d i out)
 | 0, _, _, _, _, h => h
 | d + 1, i, out, hd, hl, h => by
  rw [zMT]
  exact zO2 hi d (i + 1) _ (by omega) (by simp [hl]) (hi i out (by omega) hl h)
omit [Inhabited β] in
theorem zUK (hi : ∀ i out, i < n → out.length = n → Inv out → Inv (out.set i (upd out i))) : ∀ (k : Nat) (out : List β), out.length = n → Inv out → Inv (zGG upd n k out) ∧ (zGG upd n k out).length = n
 | 0, _, hl, h => ⟨h, hl⟩
 | k + 1, out, hl, h => by
  rw [zGG]
  exact zUK hi k _ (by rw [zO1, hl]) (zO2 hi n 0 out (by omega) hl h)
theorem z7U {R R' : Nat → Prop} {t : Nat → β} (hm : ∀ j, R j → R' j) (hi : ∀ i out, i < n → out.length = n → Inv out → Inv (out.set i (upd out i)))
    (hs : ∀ out i, i < n → out.length = n → Inv out → (∀ j, j < n → R j → nth out j = t j) → R' i → upd out i = t i) :
    ∀ (d i : Nat) (out : List β), i + d = n → out.length = n → Inv out → (∀ j, j < n → R j → nth out j = t j) → (∀ j, j < i → R' j → nth out j = t j) → ∀ j, j < n → R' j → nth (zMT upd d i out) j = t j
  | 0, i, out, hd, hl, h, h1, h2, j, hj, hr => h2 j (by omega) hr
  | d + 1, i, out, hd, hl, h, h1, h2, j, hj, hr => by
    have hin : i < n := by omega
    have hu : R' i → upd out i = t i := hs out i hin hl h h1
    rw [zMT]
    refine z7U hm hi hs d (i + 1) _ (by omega) (by simp [hl]) (hi i out hin hl h) (fun j hj hr => ?_) (fun j hj hr => ?_) j hj hr
    · rw [zO0 (by omega)]
      split
      · rename_i e; subst e; exact hu (hm _ hr)
      · exact h1 j hj hr
    · rw [zO0 (by omega)]
      split
      · rename_i e; subst e; exact hu hr
      · exact h2 j (by omega) hr
theorem zUL {R : Nat → Nat → Prop} {t : Nat → β} (hm : ∀ r j, R r j → R (r + 1) j) (hi : ∀ i out, i < n → out.length = n → Inv out → Inv (out.set i (upd out i)))
    (hs : ∀ r out i, i < n → out.length = n → Inv out → (∀ j, j < n → R r j → nth out j = t j) → R (r + 1) i → upd out i = t i) :
    ∀ (k r : Nat) (out : List β), out.length = n → Inv out → (∀ j, j < n → R r j → nth out j = t j) → ∀ j, j < n → R (r + k) j → nth (zGG upd n k out) j = t j
  | 0, _, _, _, _, h, j, hj, hr => h j hj hr
  | k + 1, r, out, hl, h, h1, j, hj, hr => by
    rw [zGG]
    have := z7U (R := R r) (R' := R (r + 1)) (hm r) hi (hs r) n 0 out (by omega) hl h h1 (fun j hj => by omega)
    refine zUL hm hi hs k (r + 1) _ (by rw [zO1, hl]) (zO2 hi n 0 out (by omega) hl h) this j hj ?_
    rw [show r + 1 + k = r + (k + 1) by omega]; exact hr
omit [Inhabited β] in
theorem zMU {X Y : Type} (mk : Nat → List β → X) {body : X → Option (Stp X Y)} (fin : List β → Y)
    (hb : ∀ i out, i < n → out.length = n → Inv out → body (mk i out) = some (.next (mk (i + 1) (out.set i (upd out i)))))
    (hi : ∀ i out, i < n → out.length = n → Inv out → Inv (out.set i (upd out i)))
    (he : ∀ out, body (mk n out) = some (.done (fin out))) : ∀ (d i : Nat) (out : List β), i + d = n → out.length = n → Inv out → zE body (mk i out) = some (fin (zMT upd d i out))
  | 0, i, out, hd, hl, h => by
    have : i = n := by omega
    subst this
    exact zL (he out)
  | d + 1, i, out, hd, hl, h => by
    rw [zX (hb i out (by omega) hl h), zMT]
    exact zMU mk fin hb hi he d (i + 1) _ (by omega) (by simp [hl]) (hi i out (by omega) hl h)
omit [Inhabited β] in
theorem zMV {X Y : Type} (mk : Nat → List β → X) {body : X → Option (Stp X Y)} (fin : List β → Y) {N : Nat}
    (hb : ∀ r out, r < N → out.length = n → Inv out → body (mk r out) = some (.next (mk (r + 1) (zMT upd n 0 out))))
    (hi : ∀ i out, i < n → out.length = n → Inv out → Inv (out.set i (upd out i)))
    (he : ∀ out, body (mk N out) = some (.done (fin out))) : ∀ (k r : Nat) (out : List β), r + k = N → out.length = n → Inv out → zE body (mk r out) = some (fin (zGG upd n k out))
  | 0, r, out, hd, hl, h => by
    have : r = N := by omega
    subst this
    exact zL (he out)
  | k + 1, r, out, hd, hl, h => by
    rw [zX (hb r out (by omega) hl h), zGG]
    exact zMV mk fin hb hi he k (r + 1) _ (by omega) (by rw [zO1, hl]) (zO2 hi n 0 out (by omega) hl h)
end
theorem zXU {A Y : Type} {p : Nat → A → Option Y} : ∀ {l : List A} {k : Nat} {y : Y}, vM p l k = some y → ∃ j, ∃ h : j < l.length, p (k + j) l[j] = some y
 | [], _, _, h => by cases h
 | x :: l, k, y, h => by
  unfold vM at h
  cases hp : p k x with
  | some z =>
   rw [hp] at h
   exact ⟨0, by simp, by simpa [hp] using h⟩
  | none =>
   rw [hp] at h
   obtain ⟨j, hj, e⟩ := zXU h
   exact ⟨j + 1, by simpa using hj, by rw [show k + (j + 1) = k + 1 + j by omega]; simpa using e⟩
theorem zS5 {A Y : Type} {p : Nat → A → Option Y} : ∀ {l : List A} {k j : Nat} (h : j < l.length), p (k + j) l[j] ≠ none → ∃ i, ∃ hi : i < l.length, i ≤ j ∧ vM p l k = p (k + i) l[i]
 | [], _, _, h, _ => by cases h
 | x :: l, k, j, h, hp => by
  unfold vM
  cases hx : p k x with
  | some z => exact ⟨0, by simp, Nat.zero_le _, by simp [hx]⟩
  | none =>
   cases j with
   | zero => exact absurd (by simpa using hx) hp
   | succ j =>
    obtain ⟨i, hi, hij, e⟩ := zS5 (p := p) (l := l) (k := k + 1) (j := j) (by simpa using h) (by rw [show k + 1 + j = k + (j + 1) by omega]; simpa using hp)
    exact ⟨i + 1, by simpa using hi, by omega, by rw [show k + (i + 1) = k + 1 + i by omega]; simpa using e⟩
def pM (c : Int) (b : Bool) (k : Nat) (m : Mapping) : Option Nat := if m.From = c ∧ (b || (m.Tag == [])) = true then some k else none
def fi (l : List Mapping) (c : Int) (b : Bool) : Option Nat := vM (pM c b) l 0
theorem zG6 {l : List Mapping} {c : Int} {b : Bool} {i : Nat} (h : fi l c b = some i) : i < l.length ∧ (nth l i).From = c ∧ (b || ((nth l i).Tag == [])) = true := by
 obtain ⟨j, hj, e⟩ := zXU h
 unfold pM at e
 split at e
 ·
  rename_i hp
  injection e with e
  have : i = j := by omega
  subst this
  rw [zA9 hj]
  exact ⟨hj, hp⟩
 · cases e
theorem z1A {l : List Mapping} {c : Int} {b : Bool} (h : fi l c b = none) : ∀ m ∈ l, ¬ (m.From = c ∧ (b || (m.Tag == [])) = true) := by
 intro m hm hp
 obtain ⟨j, hj, rfl⟩ := List.getElem_of_mem hm
 have := zJS h j hj
 unfold pM at this
 rw [if_pos hp] at this
 cases this
theorem zS6 {l : List Mapping} (hd : DS l) (c : Int) (b : Bool) : (∃ i, fi l c b = some i ∧ i < l.length ∧ (nth l i).From = c ∧ fnB l b c = some (nth l i).To) ∨ (fi l c b = none ∧ fnB l b c = none) := by
 cases hf : fi l c b with
 | some i =>
  obtain ⟨h1, h2, h3⟩ := zG6 hf
  refine .inl ⟨i, rfl, h1, h2, ?_⟩
  have := zCK hd (xX h1)
  rw [h2] at this
  unfold fnB
  rw [this]
  simp only [h3, if_true]
 | none =>
  refine .inr ⟨rfl, ?_⟩
  cases hn : fnB l b c with
  | none => rfl
  | some to =>
   obtain ⟨m, h1, _, h3⟩ := zHT hn
   obtain ⟨h4, h5⟩ := zEN h1
   exact absurd ⟨h5, h3⟩ (z1A hf m h4)
def fiI (l : List Mapping) (c : Int) (b : Bool) : Int := match fi l c b with
 | some i => (i : Int)
 | none => -1
end Go.M
namespace Go.M
open Go.AV
section
variable {l : List Mapping} (hd : DS l)
def zLH (l : List Mapping) (out : List Bool) (i : Nat) : Bool := (nth l i).To.all fun e => match fi l e true with
 | some m => nth out m
 | none => true
def z3O (l : List Mapping) (out : List Bool) : Prop := ∀ j, j < l.length → nth out j = true → WW l (nth l j).From
include hd
theorem yA5 {out : List Bool} (h : z3O l out) {i : Nat} (hi : i < l.length) (hu : zLH l out i = true) : WW l (nth l i).From := by
 refine zXI fun e he => ?_
 rw [zXH hd (xX hi)] at he
 have := List.all_eq_true.1 hu e he
 rcases zS6 hd e true with ⟨m, h1, h2, h3, _⟩ | ⟨h1, h2⟩
 ·
  rw [h1] at this
  have := h m h2 this
  rw [h3] at this; exact this
 ·
  cases hs : syl e with
  | true => exact yDW hd hs
  | false =>
   refine zUE ?_
   unfold dep
   rw [if_neg (by simp [hs])]
   rw [zQL] at h2
   cases hf : l.find? (isF e) with
   | none => rfl
   | some m => rw [hf] at h2; cases h2
theorem zS7 (i : Nat) (out : List Bool) (hi : i < l.length) (hl : out.length = l.length) (h : z3O l out) : z3O l (out.set i (zLH l out i)) := by
 intro j hj hn
 rw [zO0 (by omega)] at hn
 split at hn
 · rename_i e; subst e; exact yA5 hd h hi hn
 · exact h j hj hn
theorem yA6 (r : Nat) (out : List Bool) (i : Nat) (hi : i < l.length) (_hl : out.length = l.length) (h1 : ∀ j, j < l.length → DD l r (nth l j).From → nth out j = true) (hr : DD l (r + 1) (nth l i).From) : zLH l out i = true := by
 refine List.all_eq_true.2 fun e he => ?_
 have := hr (nth l i) (zCK hd (xX hi)) e he
 rcases zS6 hd e true with ⟨m, e1, e2, e3, _⟩ | ⟨e1, _⟩
 ·
  rw [e1]
  exact h1 m e2 (by rw [e3]; exact this)
 · rw [e1]
theorem z7V : (∀ j, j < l.length → nth (zGG (zLH l) l.length l.length (List.replicate l.length false)) j = true) ↔ ∀ m ∈ l, WW l m.From := by
 have h0 : z3O l (List.replicate l.length false) := by
  intro j hj hn
  rw [zA9 (by simpa using hj)] at hn
  simp at hn
 constructor
 ·
  intro h
  have hv := (zUK (upd := zLH l) (n := l.length) (Inv := z3O l) (zS7 hd) l.length _ (by simp) h0).1
  rw [← zBH (p := fun m : Mapping => WW l m.From)]
  exact fun k hk => hv k hk (h k hk)
 ·
  intro H j hj
  have hp := z65 hd H
  refine zUL (upd := zLH l) (n := l.length) (Inv := z3O l) (R := fun r j => j < l.length ∧ DD l r (nth l j).From) (t := fun _ => true) (fun r j h => ⟨h.1, zIG h.2⟩) (zS7 hd) (fun r out i hi hl _ h1 hr => yA6 hd r out i hi hl (fun j hj hr => h1 j hj ⟨hj, hr⟩) hr.2) l.length 0 _ (by simp) h0 (fun j hj hr => ?_) j hj ⟨hj, by rw [Nat.zero_add]; exact hp _ (xX hj)⟩
  have : l.find? (isF (nth l j).From) = none := hr.2
  rw [zCK hd (xX hj)] at this
  cases this
end
section
variable {l : List Mapping} (hd : DS l) (hD : ∀ c, DD l l.length c) {b : Bool}
def lenOf (l : List Mapping) (b : Bool) (out : List Int) (e : Int) : Int := match fi l e b with
 | some m => nth out m
 | none => ((hdE e).length : Int)
def updL (l : List Mapping) (b : Bool) (out : List Int) (i : Nat) : Int := if (b || ((nth l i).Tag == [])) = true then min (max (((nth l i).To.map (lenOf l b out)).sum) 1) 65 else 1
def zUM (out : List Int) : Prop := ∀ x ∈ out, 0 ≤ x ∧ x ≤ 65
theorem yA7 (out : List Int) (i : Nat) : 0 ≤ updL l b out i ∧ updL l b out i ≤ 65 := by
 unfold updL; split <;> omega
theorem zNQ (i : Nat) (out : List Int) (_hi : i < l.length) (_hl : out.length = l.length) (h : zUM out) : zUM (out.set i (updL l b out i)) := by
 intro x hx
 rcases List.mem_or_eq_of_mem_set hx with hx | rfl
 · exact h x hx
 · exact yA7 out i
include hd hD
theorem yA8 {i : Nat} (hi : i < l.length) : wt l b (nth l i).From = if (b || ((nth l i).Tag == [])) = true then min (max (((nth l i).To.map (wt l b)).sum) 1) 65 else 1 := by
 rw [zS0 hD]
 unfold fnB
 rw [zCK hd (xX hi)]
 by_cases ht : (b || ((nth l i).Tag == [])) = true
 · simp only [ht, if_true]
 ·
  have hs := zQJ hd (xX hi)
  have e1 : hdE (nth l i).From = [(nth l i).From] := by unfold hdE; rw [if_neg (by simp [hs])]
  rw [if_neg ht]
  simp only [e1]
  rw [if_neg ht]
  rfl
omit hD in
theorem z7W {out : List Int} {e : Int} (hD' : fnB l b e = none → wt l b e = ((hdE e).length : Int)) (h : ∀ m, m < l.length → (nth l m).From = e → nth out m = wt l b e) : lenOf l b out e = wt l b e := by
 unfold lenOf
 rcases zS6 hd e b with ⟨m, e1, e2, e3, _⟩ | ⟨e1, e2⟩
 · rw [e1]; exact h m e2 e3
 · rw [e1, hD' e2]
theorem yA9 (r : Nat) (out : List Int) (i : Nat) (hi : i < l.length) (h1 : ∀ j, j < l.length → DD l r (nth l j).From → nth out j = wt l b (nth l j).From) (hr : DD l (r + 1) (nth l i).From) : updL l b out i = wt l b (nth l i).From := by
  rw [yA8 hd hD hi]
  unfold updL
  split
  · have : (nth l i).To.map (lenOf l b out) = (nth l i).To.map (wt l b) := List.map_congr_left fun e he => by
      have hde := hr (nth l i) (zCK hd (xX hi)) e he
      exact z7W hd (fun hn => by rw [zS0 hD, hn]) fun m hm hf => by rw [← hf]; exact h1 m hm (by rw [hf]; exact hde)
    rw [this]
  · rfl
theorem z1B (j : Nat) (hj : j < l.length) : nth (zGG (updL l b) l.length l.length (List.replicate l.length 0)) j = wt l b (nth l j).From := by
 have h0 : zUM (List.replicate l.length 0) := fun x hx => by rw [(List.mem_replicate.1 hx).2]; omega
 refine zUL (upd := updL l b) (n := l.length) (Inv := zUM) (R := fun r j => j < l.length ∧ DD l r (nth l j).From) (t := fun j => wt l b (nth l j).From) (fun r j h => ⟨h.1, zIG h.2⟩) zNQ (fun r out i hi hl _ h1 hr => yA9 hd hD r out i hi (fun j hj hr => h1 j hj ⟨hj, hr⟩) hr.2) l.length 0 _ (by simp) h0 (fun j hj hr => ?_) j hj ⟨hj, by rw [Nat.zero_add]; exact hD _⟩
 have : l.find? (isF (nth l j).From) = none := hr.2
 rw [zCK hd (xX hj)] at this
 cases this
end
section
variable {l : List Mapping} (hd : DS l) (hD : ∀ c, DD l l.length c) {b : Bool}
def zE8 (l : List Mapping) (b : Bool) (out : List (List Int)) (e : Int) : List Int := match fi l e b with
 | some m => nth out m
 | none => hdE e
def zQO (l : List Mapping) (b : Bool) (out : List (List Int)) (i : Nat) : List Int := if (b || ((nth l i).Tag == [])) = true then (nth l i).To.flatMap (zE8 l b out) else nth out i
def zRS (l : List Mapping) (b : Bool) (out : List (List Int)) : Prop := ∀ j, j < l.length → (nth out j).length ≤ (fu l b (nth l j).From).length
include hd hD
theorem z1C {i : Nat} (hi : i < l.length) (ht : (b || ((nth l i).Tag == [])) = true) : fu l b (nth l i).From = (nth l i).To.flatMap (fu l b) := by
 rw [zN7 hD]
 unfold fnB
 rw [zCK hd (xX hi)]
 simp only [ht, if_true]
theorem z1D {out : List (List Int)} (h : zRS l b out) (e : Int) : (zE8 l b out e).length ≤ (fu l b e).length := by
 unfold zE8
 rcases zS6 hd e b with ⟨m, e1, e2, e3, _⟩ | ⟨e1, e2⟩
 · rw [e1]; have := h m e2; rw [e3] at this; exact this
 · rw [e1, zN7 hD, e2]; exact Nat.le_refl _
omit hd hD in
theorem zXV {f g : Int → List Int} (h : ∀ e, (f e).length ≤ (g e).length) : ∀ L : List Int, (L.flatMap f).length ≤ (L.flatMap g).length
 | [] => Nat.le_refl _
 | x :: L => by have := zXV h L; have := h x; simp only [List.flatMap_cons, List.length_append]; omega
theorem z7X {out : List (List Int)} (h : zRS l b out) {i : Nat} (hi : i < l.length) : (zQO l b out i).length ≤ (fu l b (nth l i).From).length := by
 unfold zQO
 split
 ·
  rename_i ht
  rw [z1C hd hD hi ht]
  exact zXV (z1D hd hD h) _
 · exact h i hi
theorem zNR (i : Nat) (out : List (List Int)) (hi : i < l.length) (hl : out.length = l.length) (h : zRS l b out) : zRS l b (out.set i (zQO l b out i)) := by
 intro j hj
 rw [zO0 (by omega)]
 split
 · rename_i e; subst e; exact z7X hd hD h hi
 · exact h j hj
omit hD in
theorem yBA (hD : ∀ c, DD l l.length c) (r : Nat) (out : List (List Int)) (i : Nat) (hi : i < l.length) (h1 : ∀ j, j < l.length → (b || ((nth l j).Tag == [])) = true → DD l r (nth l j).From → nth out j = fu l b (nth l j).From) (ht : (b || ((nth l i).Tag == [])) = true) (hr : DD l (r + 1) (nth l i).From) : zQO l b out i = fu l b (nth l i).From := by
 rw [z1C hd hD hi ht]
 unfold zQO
 rw [if_pos ht]
 refine zLE fun e he => ?_
 have hde := hr (nth l i) (zCK hd (xX hi)) e he
 unfold zE8
 cases hf : fi l e b with
 | some m =>
  obtain ⟨e1, e2, e3⟩ := zG6 hf
  show nth out m = _
  rw [h1 m e1 e3 (by rw [e2]; exact hde), e2]
 | none =>
  rcases zS6 hd e b with ⟨m, e1, _⟩ | ⟨_, e2⟩
  · rw [hf] at e1; cases e1
  ·
   show hdE e = _
   rw [zN7 hD, e2]
def zXW (l : List Mapping) (b : Bool) : List (List Int) := zGG (zQO l b) l.length l.length (List.replicate l.length [])
omit hd hD in
theorem yCJ : zRS l b (List.replicate l.length []) := by
 intro j hj
 rw [zA9 (by simpa using hj)]
 simp
theorem yEI (j : Nat) (hj : j < l.length) (ht : (b || ((nth l j).Tag == [])) = true) : nth (zXW l b) j = fu l b (nth l j).From := by
 refine zUL (upd := zQO l b) (n := l.length) (Inv := zRS l b) (R := fun r j => j < l.length ∧ (b || ((nth l j).Tag == [])) = true ∧ DD l r (nth l j).From) (t := fun j => fu l b (nth l j).From) (fun r j h => ⟨h.1, h.2.1, zIG h.2.2⟩) (zNR hd hD) (fun r out i hi hl _ h1 hr => yBA hd hD r out i hi (fun j hj ht hr => h1 j hj ⟨hj, ht, hr⟩) hr.2.1 hr.2.2) l.length 0 _ (by simp) yCJ (fun j hj hr => ?_) j hj ⟨hj, ht, by rw [Nat.zero_add]; exact hD _⟩
 have : l.find? (isF (nth l j).From) = none := hr.2.2
 rw [zCK hd (xX hj)] at this
 cases this
theorem yBB (e : Int) : zE8 l b (zXW l b) e = fu l b e := by
 unfold zE8
 cases hf : fi l e b with
 | some m =>
  obtain ⟨e1, e2, e3⟩ := zG6 hf
  show nth (zXW l b) m = _
  rw [yEI hd hD m e1 e3, e2]
 | none =>
  rcases zS6 hd e b with ⟨m, e1, _⟩ | ⟨_, e2⟩
  · rw [hf] at e1; cases e1
  ·
   show hdE e = _
   rw [zN7 hD, e2]
end
end Go.M
namespace Go.M
open Go.AV
def plF (n : Int) : Bool → List Int → Bool × List Int
 | true, l => (true, l)
 | false, [] => (false, [])
 | false, x :: l => if n ≤ x then (true, if n < x then n :: x :: l else x :: l) else ((plF n false l).1, x :: (plF n false l).2)
def plE (n : Int) : List Int → List Int
 | [] => [n]
 | x :: l => if n ≤ x then (if n < x then n :: x :: l else x :: l) else x :: plE n l
theorem yCK (n : Int) : ∀ l : List Int, (if (plF n false l).1 = true then (plF n false l).2 else (plF n false l).2 ++ [n]) = plE n l
 | [] => rfl
 | x :: l => by
  have := yCK n l
  unfold plF plE
  by_cases h : n ≤ x
  · simp [h]
  ·
   simp only [h, if_false]
   rw [← this]
   split <;> simp
theorem zZT {l : List Int} {n : Int} (hl : l.length ≤ 1000) : ∀ (d k : Nat) (b : Bool) (out : List Int), l.length - k = d → k ≤ l.length → out.length ≤ 2 * k →
    zE (fun (x : Bool × Int × (List Int)) => jC l n x.1 x.2.1 x.2.2) (b, (k : Int), out) = some ((plF n b (l.drop k)).1, out ++ (plF n b (l.drop k)).2) := by
  intro d
  induction d with
  | zero =>
    intro k b out h1 h2 h3
    rw [List.drop_of_length_le (show l.length ≤ k by omega)]
    refine zL ?_
    simp only [jC, kN (show l.length ≤ k by omega), cond_false]
    cases b <;> simp [plF]
  | succ d ih =>
    intro k b out h1 h2 h3
    have hk : k < l.length := by omega
    have ha : ∀ {o : List Int} (x : Int), o.length ≤ 2 * k + 1 → app o [x] = some (o ++ [x]) := fun {o} x ho => zA8 (by simp; omega)
    rw [List.drop_eq_getElem_cons hk]
    have nx : ∀ (b' : Bool) (o' : List Int), o'.length ≤ 2 * (k + 1) → jC l n b (k : Int) out = some (.next (b', ((k + 1 : Nat) : Int), o')) → (plF n b' (l.drop (k + 1))).1 = (plF n b (l[k] :: l.drop (k + 1))).1 → o' ++ (plF n b' (l.drop (k + 1))).2 = out ++ (plF n b (l[k] :: l.drop (k + 1))).2 →
        zE (fun (x : Bool × Int × (List Int)) => jC l n x.1 x.2.1 x.2.2) (b, (k : Int), out) = some ((plF n b (l[k] :: l.drop (k + 1))).1, out ++ (plF n b (l[k] :: l.drop (k + 1))).2) := by
      intro b' o' ho hb e1 e2
      rw [zX (body := fun (x : Bool × Int × (List Int)) => jC l n x.1 x.2.1 x.2.2) (x := (b, (k : Int), out)) hb, ih (k + 1) b' o' (by omega) (by omega) ho, e1, e2]
    cases b with
    | true =>
      refine nx true (out ++ [l[k]]) (by simp; omega) ?_ ?_ ?_
      · simp only [jC, kA hk, cond_true, zO, Bool.not_true, vK, zA, Bool.false_and, cond_false, z1 hk, ha _ (show out.length ≤ 2 * k + 1 by omega), zK (k := k) (by omega)]
      · simp [plF]
      · simp [plF]
    | false =>
      by_cases h4 : n ≤ l[k]
      · by_cases h5 : n < l[k]
        · refine nx true (out ++ [n] ++ [l[k]]) (by simp; omega) ?_ ?_ ?_
          · simp only [jC, kA hk, cond_true, zO, Bool.not_false, xH, zA, Bool.true_and, z1 hk, h4, h5, decide_true, ha _ (show out.length ≤ 2 * k + 1 by omega), ha _ (show (out ++ [n]).length ≤ 2 * k + 1 by simp; omega), zK (k := k) (by omega)]
          · simp [plF, h4]
          · simp [plF, h4, h5]
        · refine nx true (out ++ [l[k]]) (by simp; omega) ?_ ?_ ?_
          · simp only [jC, kA hk, cond_true, zO, Bool.not_false, xH, zA, Bool.true_and, z1 hk, h4, h5, decide_true, decide_false, cond_false, ha _ (show out.length ≤ 2 * k + 1 by omega), zK (k := k) (by omega)]
          · simp [plF, h4]
          · simp [plF, h4, h5]
      · refine nx false (out ++ [l[k]]) (by simp; omega) ?_ ?_ ?_
        · simp only [jC, kA hk, cond_true, zO, Bool.not_false, xH, zA, Bool.true_and, z1 hk, h4, decide_false, cond_false, ha _ (show out.length ≤ 2 * k + 1 by omega), zK (k := k) (by omega)]
        · simp [plF, h4]
        · simp [plF, h4]
theorem z1E (n : Int) : ∀ l : List Int, (plF n false l).2.length ≤ l.length + 1
 | [] => by simp [plF]
 | x :: l => by
  have := z1E n l
  unfold plF
  by_cases h : n ≤ x
  · by_cases h5 : n < x <;> simp [h, h5]
  · simp only [h, if_false, List.length_cons]; omega
theorem zMW {l : List Int} (hl : l.length ≤ 1000) (n : Int) : zCA l n = some (plE n l) := by
 unfold zCA
 have h := zZT (n := n) hl l.length 0 false [] (by omega) (by omega) (by simp)
 have hlen := z1E n l
 rw [List.drop_zero, List.nil_append] at h
 have h' : zE (fun (x : Bool × Int × (List Int)) => jC l n x.1 x.2.1 x.2.2) (false, 0, []) = some ((plF n false l).1, (plF n false l).2) := h
 rw [h', zA, ← yCK]
 cases (plF n false l).1 with
 | true => rfl
 | false => simp only [Bool.not_false, cond_true, zA8 (show (plF n false l).2.length + [n].length ≤ 4294967296 by simp; omega), zA]; rfl
def Gd (l : List Int) : Prop := l.Pairwise (· < ·) ∧ ∀ x ∈ l, 0 ≤ x ∧ x ≤ 1114111
theorem zUN (n : Int) : ∀ {l : List Int} {x : Int}, x ∈ plE n l → x = n ∨ x ∈ l
 | [], x, h => by simp [plE] at h; exact .inl h
 | y :: l, x, h => by
  unfold plE at h
  split at h
  ·
   split at h
   ·
    rcases List.mem_cons.1 h with h | h
    · exact .inl h
    · exact .inr h
   · exact .inr h
  ·
   rcases List.mem_cons.1 h with h | h
   · exact .inr (by simp [h])
   ·
    rcases zUN n h with h | h
    · exact .inl h
    · exact .inr (by simp [h])
theorem z1F (n : Int) : ∀ {l : List Int}, l.Pairwise (· < ·) → (plE n l).Pairwise (· < ·)
 | [], _ => by simp [plE]
 | y :: l, h => by
  obtain ⟨h1, h2⟩ := List.pairwise_cons.1 h
  unfold plE
  split
  ·
   split
   ·
    rename_i hn
    refine List.pairwise_cons.2 ⟨fun z hz => ?_, h⟩
    rcases List.mem_cons.1 hz with rfl | hz
    · exact hn
    · have := h1 z hz; omega
   · exact h
  ·
   rename_i hn
   refine List.pairwise_cons.2 ⟨fun z hz => ?_, z1F n h2⟩
   rcases zUN n hz with rfl | hz
   · omega
   · exact h1 z hz
theorem zNS {n : Int} (hn : 0 ≤ n ∧ n ≤ 1114111) {l : List Int} (h : Gd l) : Gd (plE n l) := by
 refine ⟨z1F n h.1, fun x hx => ?_⟩
 rcases zUN n hx with rfl | hx
 · exact hn
 · exact h.2 x hx
theorem zKF (n : Int) : ∀ l : List Int, (plE n l).length ≤ l.length + 1
 | [] => by simp [plE]
 | x :: l => by
  have := zKF n l
  unfold plE
  split
  · split <;> simp
  · simp only [List.length_cons]; omega
theorem zUO {n : Int} : ∀ {l : List Int}, (∀ x ∈ l, x < n) → plE n l = l ++ [n]
 | [], _ => rfl
 | y :: l, h => by
  have hy := h y (by simp)
  unfold plE
  rw [if_neg (by omega), zUO fun x hx => h x (by simp [hx])]
  rfl
def cuS (c : List Int) (r : Range) : List Int := if 0 ≤ r.Hi ∧ r.Hi < 1114111 then plE (r.Hi + 1) (if vld r.Lo = true then plE r.Lo c else c) else (if vld r.Lo = true then plE r.Lo c else c)
theorem z1G (c : List Int) (r : Range) : (cuS c r).length ≤ c.length + 2 := by
 have h1 := zKF r.Lo c
 unfold cuS
 split
 ·
  have h2 := zKF (r.Hi + 1) (if vld r.Lo = true then plE r.Lo c else c)
  split at h2 <;> split <;> simp_all <;> omega
 · split <;> omega
theorem yEJ {c : List Int} {r : Range} (h : Gd c) : Gd (cuS c r) := by
 have h1 : Gd (if vld r.Lo = true then plE r.Lo c else c) := by
  split
  ·
   rename_i hv
   unfold vld at hv
   simp only [Bool.and_eq_true, decide_eq_true_eq] at hv
   exact zNS hv h
  · exact h
 unfold cuS
 split
 · exact zNS (by omega) h1
 · exact h1
def cuE (l : List Range) (c : List Int) : List Int := l.foldl cuS c
theorem zUP : ∀ (l : List Range) {c : List Int}, Gd c → Gd (cuE l c)
 | [], _, h => h
 | r :: l, _, h => zUP l (yEJ h)
theorem zUQ : ∀ (l : List Range) (c : List Int), (cuE l c).length ≤ c.length + 2 * l.length
 | [], c => by simp [cuE]
 | r :: l, c => by
  have h1 := zUQ l (cuS c r)
  have h2 := z1G c r
  show (cuE l (cuS c r)).length ≤ _
  simp only [List.length_cons]; omega
theorem z3Q {s : Set} (hl : s.Ranges.length ≤ 12) : ∀ (d k : Nat) (c : List Int), s.Ranges.length - k = d → k ≤ s.Ranges.length → c.length ≤ 100 + 2 * k →
    zE (fun (x : (List Int) × Int) => wO s x.1 x.2) (c, (k : Int)) = some (cuE (s.Ranges.drop k) c) := by
  intro d
  induction d with
  | zero =>
    intro k c h1 h2 h3
    rw [List.drop_of_length_le (show s.Ranges.length ≤ k by omega)]
    refine zL ?_
    simp only [wO, kN (show s.Ranges.length ≤ k by omega), cond_false]
    rfl
  | succ d ih =>
    intro k c h1 h2 h3
    have hk : k < s.Ranges.length := by omega
    have hs := z1G c s.Ranges[k]
    have hb : wO s c (k : Int) = some (.next (cuS c s.Ranges[k], ((k + 1 : Nat) : Int))) := by
      have hp := zKF s.Ranges[k].Lo c
      simp only [wO, kA hk, cond_true, z1 hk, zA, zDA, zO, zK (k := k) (by omega), zMW (show c.length ≤ 1000 by omega)]
      unfold cuS
      by_cases hv : vld s.Ranges[k].Lo = true
      · simp only [hv, cond_true, zA, if_true]
        by_cases ha : 0 ≤ s.Ranges[k].Hi
        · by_cases hc : s.Ranges[k].Hi < 1114111
          · simp only [ha, hc, decide_true, Bool.and_self, cond_true, and_self, if_true]
            rw [wM (n := s.Ranges[k].Hi + 1) (by omega) (by omega), zMW (by omega)]
            rfl
          · simp [ha, hc]
        · simp [ha]
      · simp only [hv, Bool.false_eq_true, if_false, cond_false, zA]
        by_cases ha : 0 ≤ s.Ranges[k].Hi
        · by_cases hc : s.Ranges[k].Hi < 1114111
          · simp only [ha, hc, decide_true, Bool.and_self, cond_true, and_self, if_true]
            rw [wM (n := s.Ranges[k].Hi + 1) (by omega) (by omega), zMW (by omega)]
            rfl
          · simp [ha, hc]
        · simp [ha]
    rw [zX (body := fun (x : (List Int) × Int) => wO s x.1 x.2) (x := (c, (k : Int))) hb, ih (k + 1) _ (by omega) (by omega) (by omega), List.drop_eq_getElem_cons hk]
    rfl
theorem z1H {s : Set} (hl : s.Ranges.length ≤ 12) {c : List Int} (hc : c.length ≤ 100) : zD6 c s = some (plE 0 (cuE s.Ranges c)) := by
 unfold zD6
 have h := z3Q hl s.Ranges.length 0 c (by omega) (by omega) (by omega)
 rw [List.drop_zero] at h
 have h' : zE (fun (x : (List Int) × Int) => wO s x.1 x.2) (c, 0) = some (cuE s.Ranges c) := h
 have := zUQ s.Ranges c
 rw [h', zA, zMW (by omega)]
 rfl
def zEH (l : List Range) (c : Int) : Bool := l.any fun r => vld c && decide (r.Lo ≤ c) && decide (c ≤ r.Hi)
theorem z7Y {s : Set} (hl : s.Ranges.length ≤ 1000) (c : Int) : zD7 s c = some (zEH s.Ranges c) := by
 unfold zD7
 have h := kW (body := fun (x : Int) => zCH s c x) s.Ranges.length (fun k => ¬ (vld c && decide ((nth s.Ranges k).Lo ≤ c) && decide (c ≤ (nth s.Ranges k).Hi)) = true) (fun y => y = true) (fun k hk => by
  simp only [zCH, kA hk, cond_true, zDA, zA, zO, zY hk, zK (k := k) (by omega)]
  cases hv : vld c with
  | false => simp only [vK, zA, Bool.false_and, cond_false]; exact .inl ⟨by simp, trivial⟩
  | true =>
   simp only [xH, zA, Bool.true_and]
   by_cases h1 : (nth s.Ranges k).Lo ≤ c
   ·
    simp only [h1, decide_true, xH, zA, Bool.true_and]
    exact uN (by simp) rfl
   ·
    simp only [h1, decide_false, vK, zA, Bool.false_and, cond_false]
    exact .inl ⟨by simp, trivial⟩) (fun k hk => by simp only [zCH, kN hk, cond_false])
 rw [zBH (p := fun r : Range => ¬ (vld c && decide (r.Lo ≤ c) && decide (c ≤ r.Hi)) = true)] at h
 rcases h with ⟨h, p⟩ | ⟨y, rfl, h, p⟩
 ·
  rw [h]
  have : zEH s.Ranges c = false := by unfold zEH; rw [List.any_eq_false]; exact p
  rw [this]; rfl
 ·
  rw [h]
  have : zEH s.Ranges c = true := by
   cases he : zEH s.Ranges c with
   | true => rfl
   | false => exfalso; apply p; unfold zEH at he; rw [List.any_eq_false] at he; exact he
  rw [this]; rfl
def nxt : List Int → Int
 | [] => 1114111
 | d :: _ => d - 1
def coF (has : Int → Bool) : List Int → Bool → List Range → List Range
  | [], _, o => o
  | c :: cs, op, o => if has c = true then (if op = true then coF has cs true (match o with
      | q :: o' => { q with Hi := nxt cs } :: o'
      | [] => []) else coF has cs true ({ Lo := c, Hi := nxt cs } :: o)) else coF has cs false o
theorem yBC {C : List Int} {s : Set} (hl : s.Ranges.length ≤ 12) (hC : C.length ≤ 200) (hg : Gd C) : ∀ (d k : Nat) (op : Bool) (o : List Range), C.length - k = d → k ≤ C.length → o.length ≤ k → (op = true → o ≠ []) →
    zE (fun (x : Bool × Int × (List Range)) => kY C s { Ranges := [] } 1 x.1 x.2.1 x.2.2) (op, (k : Int), o.reverse) = some (coF (zEH s.Ranges) (C.drop k) op o).reverse := by
  intro d
  induction d with
  | zero =>
    intro k op o h1 h2 h3 h4
    rw [List.drop_of_length_le (show C.length ≤ k by omega)]
    refine zL ?_
    simp only [kY, kN (show C.length ≤ k by omega), cond_false]
    rfl
  | succ d ih =>
    intro k op o h1 h2 h3 h4
    have hk : k < C.length := by omega
    have he : zD7 { Ranges := [] } C[k] = some false := by rw [z7Y (by simp)]; rfl
    have hnx : (cond (decide (((k + 1 : Nat) : Int) < (C.length : Int))) ((yI C ((k + 1 : Nat) : Int)).bind fun t31 => some (wi (t31 - 1))) (some 1114111) : Option Int) = some (nxt (C.drop (k + 1))) := by
      by_cases hk1 : k + 1 < C.length
      · have := hg.2 _ (List.getElem_mem hk1)
        rw [kA hk1, cond_true, z1 hk1, zA, wM (by omega) (by omega), List.drop_eq_getElem_cons hk1]
        rfl
      · rw [kN (by omega), cond_false, List.drop_of_length_le (by omega)]
        rfl
    rw [List.drop_eq_getElem_cons hk]
    have nx : ∀ (op' : Bool) (o' : List Range), o'.length ≤ k + 1 → (op' = true → o' ≠ []) → kY C s { Ranges := [] } 1 op (k : Int) o.reverse = some (.next (op', ((k + 1 : Nat) : Int), o'.reverse)) → coF (zEH s.Ranges) (C.drop (k + 1)) op' o' = coF (zEH s.Ranges) (C[k] :: C.drop (k + 1)) op o →
        zE (fun (x : Bool × Int × (List Range)) => kY C s { Ranges := [] } 1 x.1 x.2.1 x.2.2) (op, (k : Int), o.reverse) = some (coF (zEH s.Ranges) (C[k] :: C.drop (k + 1)) op o).reverse := by
      intro op' o' ho hne hb e
      rw [zX (body := fun (x : Bool × Int × (List Range)) => kY C s { Ranges := [] } 1 x.1 x.2.1 x.2.2) (x := (op, (k : Int), o.reverse)) hb, ih (k + 1) op' o' (by omega) (by omega) ho hne, e]
    have hb0 : kY C s { Ranges := [] } 1 op (k : Int) o.reverse = ((cond (zEH s.Ranges C[k] && op) ((yI o.reverse (wi ((o.reverse.length : Int) - 1))).bind fun t59 => (zAI o.reverse (wi ((o.reverse.length : Int) - 1)) ({ t59 with Hi := nxt (C.drop (k + 1)) })).bind fun r4160_4 => some r4160_4) (some o.reverse)).bind fun (y3 : List Range) =>
        (cond (zEH s.Ranges C[k] && !op) ((app y3 [({ Lo := C[k], Hi := nxt (C.drop (k + 1)) } : Range)]).bind fun r => some r) (some y3)).bind fun (y5 : List Range) => some (Stp.next (zEH s.Ranges C[k], ((k + 1 : Nat) : Int), y5))) := by
      unfold kY
      simp only [zK (k := k) (show k + 1 ≤ 9223372036854775807 by omega), kA hk, cond_true, hnx, zA, z1 hk, z7Y (show s.Ranges.length ≤ 1000 by omega), he, zGW, decide_true, zO, Bool.or_false]
    cases hh : zEH s.Ranges C[k] with
    | false =>
      refine nx false o (by omega) (fun h => by cases h) ?_ ?_
      · rw [hb0, hh]; rfl
      · simp [coF, hh]
    | true =>
      cases op with
      | false =>
        refine nx true ({ Lo := C[k], Hi := nxt (C.drop (k + 1)) } :: o) (by simp; omega) (fun _ => by simp) ?_ ?_
        · rw [hb0, hh]
          simp only [Bool.and_false, cond_false, zA, Bool.not_false, Bool.and_self, cond_true, zA8 (show o.reverse.length + [({ Lo := C[k], Hi := nxt (C.drop (k + 1)) } : Range)].length ≤ 4294967296 by simp; omega)]
          simp
        · simp [coF, hh]
      | true =>
        cases o with
        | nil => exact absurd rfl (h4 rfl)
        | cons q o =>
          refine nx true ({ q with Hi := nxt (C.drop (k + 1)) } :: o) (by simp only [List.length_cons] at h3 ⊢; omega) (fun _ => by simp) ?_ ?_
          · rw [hb0, hh]
            have e1 : wi (((q :: o).reverse.length : Int) - 1) = ((o.length : Nat) : Int) := by
              simp only [List.length_cons] at h3
              have hL : ((q :: o).reverse.length : Int) = (o.length : Int) + 1 := by simp
              rw [hL, wM (by omega) (by omega)]; omega
            have e2 : (q :: o).reverse = o.reverse ++ q :: [] := by simp
            rw [e1, e2, xT (by simp), zA, vL (by simp)]
            simp
          · simp [coF, hh]
theorem z7Z {l : List Range} (hl : l.length ≤ 12) : zF0 l = some { Ranges := (coF (zEH l) (plE 0 (plE 0 (cuE l []))) false []).reverse } := by
 unfold zF0 zEL
 have h1 := zUQ l []
 have h2 := zKF 0 (cuE l [])
 have h3 := zKF 0 (plE 0 (cuE l []))
 simp only [List.length_nil] at h1
 have e0 : cuE ([] : List Range) (plE 0 (cuE l [])) = plE 0 (cuE l []) := rfl
 have hg : Gd (plE 0 (plE 0 (cuE l []))) := zNS (by omega) (zNS (by omega) (zUP l ⟨.nil, fun x hx => by cases hx⟩))
 rw [z1H (s := { Ranges := l }) hl (by simp), zA, z1H (s := { Ranges := [] }) (by simp) (show (plE 0 (cuE l [])).length ≤ 100 by omega)]
 rw [zA]
 have h := yBC (s := { Ranges := l }) hl (by omega) hg _ 0 false [] rfl (by omega) (by simp) (fun h => by cases h)
 rw [List.drop_zero] at h
 have h' : zE (fun (x : Bool × Int × (List Range)) => kY (plE 0 (plE 0 (cuE l []))) { Ranges := l } { Ranges := [] } 1 x.1 x.2.1 x.2.2) (false, 0, []) = some (coF (zEH l) (plE 0 (plE 0 (cuE l []))) false []).reverse := h
 change ((zE (fun (x : Bool × Int × (List Range)) => kY (plE 0 (plE 0 (cuE l []))) { Ranges := l } { Ranges := [] } 1 x.1 x.2.1 x.2.2) (false, 0, [])).bind fun y1 => some ({ Ranges := y1 } : Set)).bind (fun t6 => some t6) = _
 rw [h']
 rfl
end Go.M
namespace Go.M
open Go.AV
theorem zO4 {has : Int → Bool} : ∀ (C : List Int) (op : Bool) (o : List Range), Gd C → CanR o → (op = true → ∀ c, C.head? = some c → ∃ q o', o = q :: o' ∧ q.Hi = c - 1 ∧ q.Lo ≤ c) → (op = false → ∀ c q, C.head? = some c → o.head? = some q → q.Hi + 1 < c) → (op = true → o ≠ []) → CanR (coF has C op o)
 | [], _, _, _, h, _, _, _ => h
 | c :: cs, op, o, hg, ho, h1, h2, h3 => by
  obtain ⟨ha, hb⟩ := List.pairwise_cons.1 hg.1
  have hgs : Gd cs := ⟨hb, fun x hx => hg.2 x (by simp [hx])⟩
  have hc := hg.2 c (by simp)
  have hnx : c ≤ nxt cs ∧ nxt cs ≤ 1114111 ∧ ∀ d, cs.head? = some d → nxt cs = d - 1 ∧ c < d := by
   cases cs with
   | nil => exact ⟨hc.2, Int.le_refl _, fun d hd => by cases hd⟩
   | cons d cs =>
    have h5 := ha d (by simp)
    have h6 := hg.2 d (by simp)
    refine ⟨show c ≤ d - 1 by omega, show d - 1 ≤ 1114111 by omega, fun e he => ?_⟩
    simp only [List.head?_cons, Option.some.injEq] at he
    subst he
    exact ⟨rfl, h5⟩
  unfold coF
  split
  ·
   split
   ·
    rename_i hop
    obtain ⟨q, o', rfl, e1, e2⟩ := h1 hop c rfl
    refine zO4 cs true _ hgs ?_ (fun _ d hd => ⟨_, _, rfl, (hnx.2.2 d hd).1, ?_⟩) (fun h => by cases h) (fun _ => by simp)
    ·
     have hq := ho.head
     unfold zBI at hq
     cases o' with
     | nil => show zBI _; unfold zBI; simp only; omega
     | cons z o' => exact ⟨by unfold zBI; simp only; omega, ho.2.1, ho.2.2⟩
    ·
     have := (hnx.2.2 d hd).2
     show q.Lo ≤ d
     omega
   ·
    rename_i hop
    simp only [Bool.not_eq_true] at hop
    refine zO4 cs true _ hgs ?_ (fun _ d hd => ⟨_, _, rfl, (hnx.2.2 d hd).1, ?_⟩) (fun h => by cases h) (fun _ => by simp)
    ·
     cases o with
     | nil => show zBI _; unfold zBI; simp only; omega
     | cons z o' => exact ⟨by unfold zBI; simp only; omega, h2 hop c z rfl rfl, ho⟩
    ·
     have := (hnx.2.2 d hd).2
     show c ≤ d
     omega
  ·
   refine zO4 cs false o hgs ho (fun h => by cases h) (fun _ d q hd hq => ?_) (fun h => by cases h)
   have h7 := (hnx.2.2 d hd).2
   cases op with
   | true =>
    obtain ⟨q', o', rfl, e1, _⟩ := h1 rfl c rfl
    simp only [List.head?_cons, Option.some.injEq] at hq
    subst hq
    omega
   | false =>
    have := h2 rfl c q rfl hq
    omega
def zIX (l : List Range) : List Int := l.flatMap fun r => r.Lo :: if r.Hi < 1114111 then [r.Hi + 1] else []
theorem z70 : ∀ (l : List Range) (c : List Int), Can l → (∀ x ∈ c, ∀ r, l.head? = some r → x < r.Lo) → cuE l c = c ++ zIX l
 | [], c, _, _ => by simp [cuE, zIX]
 | r :: l, c, h, hc => by
  have hr := h.head
  unfold zBI at hr
  have hv : vld r.Lo = true := by unfold vld; simp; omega
  have e1 : plE r.Lo c = c ++ [r.Lo] := zUO fun x hx => hc x hx r rfl
  have e2 : cuS c r = c ++ (r.Lo :: if r.Hi < 1114111 then [r.Hi + 1] else []) := by
   unfold cuS
   rw [if_pos hv, e1]
   by_cases hm : r.Hi < 1114111
   ·
    rw [if_pos ⟨by omega, hm⟩, if_pos hm, zUO]
    · simp
    ·
     intro x hx
     rcases List.mem_append.1 hx with hx | hx
     · have := hc x hx r rfl; omega
     · simp only [List.mem_singleton] at hx; omega
   · rw [if_neg (fun h => hm h.2), if_neg hm]
  show cuE l (cuS c r) = _
  rw [z70 l (cuS c r) h.tail, e2]
  · simp [zIX]
  ·
   intro x hx q hq
   have hg : r.Hi + 1 < q.Lo := h.gap q (by cases l with | nil => cases hq | cons a l => simp only [List.head?_cons, Option.some.injEq] at hq; simp [hq])
   rw [e2] at hx
   rcases List.mem_append.1 hx with hx | hx
   · have := hc x hx r rfl; omega
   ·
    rcases List.mem_cons.1 hx with rfl | hx
    · omega
    ·
     split at hx
     · simp only [List.mem_singleton] at hx; omega
     · cases hx
theorem yEK {l : List Range} (h : Can l) {r : Range} (hr : r ∈ l) : zEH l r.Lo = true := by
 have := h.ok r hr
 unfold zBI at this
 unfold zEH
 refine List.any_eq_true.2 ⟨r, hr, ?_⟩
 unfold vld
 simp; omega
theorem z71 : ∀ {l : List Range}, Can l → ∀ {r : Range}, r ∈ l → zEH l (r.Hi + 1) = false
 | [], _, r, hr => by cases hr
 | a :: l, h, r, hr => by
  unfold zEH
  rw [List.any_eq_false]
  intro q hq
  have no : ∀ (c : Int) (q : Range), (c < q.Lo ∨ q.Hi < c) → ¬ (vld c && decide (q.Lo ≤ c) && decide (c ≤ q.Hi)) = true := by
   intro c q hc
   simp only [Bool.and_eq_true, decide_eq_true_eq]
   omega
  rcases List.mem_cons.1 hr with rfl | hr'
  ·
   refine no _ _ ?_
   rcases List.mem_cons.1 hq with rfl | hq
   · omega
   · have := h.gap q hq; omega
  ·
   rcases List.mem_cons.1 hq with rfl | hq
   ·
    refine no _ _ ?_
    have h1 := h.gap r hr'
    have h2 := h.tail.ok r hr'
    unfold zBI at h2
    omega
   ·
    have := z71 h.tail hr'
    unfold zEH at this
    rw [List.any_eq_false] at this
    exact this q hq
theorem z1I {has : Int → Bool} : ∀ (l : List Range) (o : List Range), Can l → (∀ r ∈ l, has r.Lo = true ∧ (r.Hi < 1114111 → has (r.Hi + 1) = false)) → coF has (zIX l) false o = l.reverse ++ o
  | [], o, _, _ => by simp [zIX, coF]
  | r :: l, o, h, hh => by
    obtain ⟨h1, h2⟩ := hh r (by simp)
    have ih := z1I (has := has) l (r :: o) h.tail fun q hq => hh q (by simp [hq])
    have hr := h.head
    unfold zBI at hr
    by_cases hm : r.Hi < 1114111
    · have e : zIX (r :: l) = r.Lo :: (r.Hi + 1) :: zIX l := by simp [zIX, hm]
      have en : nxt ((r.Hi + 1) :: zIX l) = r.Hi := by show r.Hi + 1 - 1 = r.Hi; omega
      rw [e]
      unfold coF
      rw [if_pos h1, if_neg (by simp), en]
      unfold coF
      rw [if_neg (by rw [h2 hm]; simp), ih]
      simp
    · have hl : l = [] := by
        cases l with
        | nil => rfl
        | cons q l =>
          have := h.2.1
          have h3 := h.tail.head
          unfold zBI at h3
          omega
      subst hl
      have e : zIX [r] = [r.Lo] := by simp [zIX, hm]
      rw [e]
      unfold coF
      rw [if_pos h1, if_neg (by simp)]
      unfold coF
      have : nxt [] = r.Hi := by show (1114111 : Int) = r.Hi; omega
      rw [this]
      rfl
theorem z72 {l : List Int} (h : Gd l) : plE 0 (plE 0 l) = plE 0 l := by
 cases l with
 | nil => rfl
 | cons x l =>
  have := h.2 x (by simp)
  by_cases hx : 0 < x
  ·
   have e : plE 0 (x :: l) = 0 :: x :: l := by unfold plE; rw [if_pos (by omega), if_pos hx]
   rw [e]
   unfold plE
   rw [if_pos (by omega), if_neg (by omega)]
  ·
   have e : plE 0 (x :: l) = x :: l := by unfold plE; rw [if_pos (by omega), if_neg hx]
   rw [e, e]
theorem z73 {l : List Range} (h : Can l) : (coF (zEH l) (plE 0 (plE 0 (cuE l []))) false []).reverse = l := by
 rw [z72 (zUP l ⟨.nil, fun x hx => by cases hx⟩), z70 l [] h (fun x hx => by cases hx), List.nil_append]
 have hw := z1I (has := zEH l) l [] h fun r hr => ⟨yEK h hr, fun _ => z71 h hr⟩
 rw [List.append_nil] at hw
 have h0 : plE 0 (zIX l) = zIX l ∨ (plE 0 (zIX l) = 0 :: zIX l ∧ zEH l 0 = false) := by
  cases l with
  | nil => exact .inr ⟨rfl, rfl⟩
  | cons r l =>
   have hr := h.head
   unfold zBI at hr
   have e : zIX (r :: l) = r.Lo :: ((if r.Hi < 1114111 then [r.Hi + 1] else []) ++ zIX l) := by simp [zIX]
   rw [e]
   by_cases hx : 0 < r.Lo
   ·
    refine .inr ⟨by unfold plE; rw [if_pos (by omega), if_pos hx], ?_⟩
    unfold zEH
    rw [List.any_eq_false]
    intro q hq
    simp only [Bool.and_eq_true, decide_eq_true_eq]
    rcases List.mem_cons.1 hq with rfl | hq
    · omega
    · have := h.gap q hq; omega
   · exact .inl (by unfold plE; rw [if_pos (by omega), if_neg hx])
 rcases h0 with h0 | ⟨h0, h1⟩
 · rw [h0, hw, List.reverse_reverse]
 ·
  rw [h0]
  unfold coF
  rw [if_neg (by rw [h1]; simp), hw, List.reverse_reverse]
theorem z3S (l : List Range) : Can (coF (zEH l) (plE 0 (plE 0 (cuE l []))) false []).reverse := by
 have hg : Gd (plE 0 (plE 0 (cuE l []))) := zNS (by omega) (zNS (by omega) (zUP l ⟨.nil, fun x hx => by cases hx⟩))
 have := zO4 (has := zEH l) _ false [] hg trivial (fun h => by cases h) (fun _ c q _ hq => by cases hq) (fun h => by cases h)
 have h2 := zUA _ [] this trivial (fun _ _ _ h => by cases h)
 simpa using h2
theorem yBD {a b : Set} (ha : a.Ranges.length ≤ 1000) : zF1 a b = some (decide (a.Ranges = b.Ranges)) := by
 unfold zF1
 by_cases hl : a.Ranges.length = b.Ranges.length
 ·
  have e : (!decide ((a.Ranges.length : Int) = (b.Ranges.length : Int))) = false := by simp [hl]
  rw [e, cond_false]
  have h := kW (body := fun (x : Int) => zBU a b x) a.Ranges.length (fun k => nth a.Ranges k = nth b.Ranges k) (fun y => y = false) (fun k hk => by
   simp only [zBU, kA hk, cond_true, zY hk, zY (show k < b.Ranges.length by omega), zA, zK (k := k) (by omega)]
   exact uN (by simp) rfl) (fun k hk => by simp only [zBU, kN hk, cond_false])
  have he : (∀ j, j < a.Ranges.length → nth a.Ranges j = nth b.Ranges j) ↔ a.Ranges = b.Ranges := by
   constructor
   ·
    intro h
    refine List.ext_getElem hl fun i h1 h2 => ?_
    have := h i h1
    rwa [zA9 h1, zA9 h2] at this
   · intro h j _; rw [h]
  rw [he] at h
  rcases h with ⟨h, p⟩ | ⟨y, rfl, h, p⟩
  · rw [h]; simp [p]
  · rw [h]; simp [p]
 ·
  have e : (!decide ((a.Ranges.length : Int) = (b.Ranges.length : Int))) = true := by simp; omega
  rw [e, cond_true]
  have : a.Ranges ≠ b.Ranges := fun h => hl (by rw [h])
  simp [this]
theorem yEL {s : Set} (hl : s.Ranges.length ≤ 12) : ∃ b, zE2 s = some b ∧ (b = true ↔ Can s.Ranges) := by
 unfold zE2
 rw [z7Z hl, zA, yBD (by omega), zA]
 refine ⟨_, rfl, ?_⟩
 simp only [decide_eq_true_eq]
 constructor
 · intro h; rw [h]; exact z3S _
 · intro h; rw [z73 h]
end Go.M
namespace Go.M
open Go.AV
theorem zUR {l : List Mapping} (hl : l.length ≤ 1000) (c : Int) (b : Bool) : zCB l c b = some (fiI l c b) := by
 unfold zCB
 have h : zE (fun (x : Int) => zBV l c b x) 0 = some (toS (vM (fun k m => (pM c b k m).map fun (i : Nat) => (i : Int)) l 0)) := by
  refine jD l _ (fun k hk => ?_) (fun k hk => ?_)
  ·
   simp only [zBV, kA hk, cond_true, z1 hk, zA, zO, zK (k := k) (by omega), pM]
   by_cases h1 : l[k].From = c
   ·
    cases b with
    | true => simp [h1, vK, stp]
    | false =>
     cases ht : (l[k].Tag == []) with
     | true => simp only [h1, decide_true, Bool.not_false, Bool.and_self, xH, zA, Bool.false_or, ht, Bool.true_and, cond_true, and_self, if_true, Option.map_some, stp]
     | false => simp only [h1, decide_true, Bool.not_false, Bool.and_self, xH, zA, Bool.false_or, ht, Bool.true_and, cond_false, Bool.false_eq_true, and_false, if_false, Option.map_none, stp]
   · simp [h1, vK, stp]
  · simp only [zBV, kN hk, cond_false]
 rw [h, zA, jF]
 have e : ∀ (L : List Mapping) (k : Nat), vM (fun k m => (pM c b k m).map fun (i : Nat) => (i : Int)) L k = (vM (pM c b) L k).map fun (i : Nat) => (i : Int) := by
  intro L
  induction L with
  | nil => intro k; rfl
  | cons x L ih =>
   intro k
   unfold vM
   cases pM c b k x with
   | none => exact ih (k + 1)
   | some y => rfl
 rw [e]
 unfold fiI fi
 cases vM (pM c b) l 0 <;> rfl
theorem z74 (c : Int) : zD8 c = some (hkE c) := by
 unfold zD8 hkE
 simp only [zO]
 by_cases h1 : 4352 ≤ c ∧ c < 4371
 ·
  rw [if_pos h1]
  have : (decide (4352 ≤ c) && decide (c ≤ 4370)) = true := by simp; omega
  rw [this]; rfl
 rw [if_neg h1]
 have e1 : (decide (4352 ≤ c) && decide (c ≤ 4370)) = false := by simp only [Bool.and_eq_false_iff, decide_eq_false_iff_not]; omega
 rw [e1, cond_false]
 by_cases h2 : 4449 ≤ c ∧ c < 4470
 ·
  rw [if_pos h2]
  have : (decide (4449 ≤ c) && decide (c ≤ 4469)) = true := by simp; omega
  rw [this]; rfl
 rw [if_neg h2]
 have e2 : (decide (4449 ≤ c) && decide (c ≤ 4469)) = false := by simp only [Bool.and_eq_false_iff, decide_eq_false_iff_not]; omega
 rw [e2, cond_false]
 by_cases h3 : 4520 ≤ c ∧ c < 4547
 ·
  rw [if_pos h3]
  have : (decide (4520 ≤ c) && decide (c ≤ 4546)) = true := by simp; omega
  rw [this]; rfl
 rw [if_neg h3]
 have e3 : (decide (4520 ≤ c) && decide (c ≤ 4546)) = false := by simp only [Bool.and_eq_false_iff, decide_eq_false_iff_not]; omega
 rw [e3, cond_false]
 by_cases h4 : c < 44032 ∨ 55204 ≤ c
 ·
  rw [if_pos h4]
  have : (decide (44032 ≤ c) && decide (c ≤ 55203)) = false := by simp only [Bool.and_eq_false_iff, decide_eq_false_iff_not]; omega
  rw [this]; rfl
 rw [if_neg h4]
 have e4 : (decide (44032 ≤ c) && decide (c ≤ 55203)) = true := by simp; omega
 rw [e4, cond_true, wM (n := c - 44032) (by omega) (by omega)]
 have er : zGJ (c - 44032) 28 = some ((c - 44032) % 28) := by
  unfold zGJ; rw [if_neg (by decide), Int.tmod_eq_emod_of_nonneg (by omega)]
 rw [er, zA]
 by_cases h5 : (c - 44032) % 28 = 0 <;> simp [h5]
theorem yCL (c : Int) : u0 c = some (hdE c) := by
 unfold u0
 rw [z74, zA]
 cases hs : syl c with
 | false =>
  have : decide (hkE c < 4) = true := by
   simp only [decide_eq_true_eq]
   have : ¬ 4 ≤ hkE c := fun h => by have := (zFK c).2 h; rw [hs] at this; cases this
   omega
  rw [this, cond_true]
  unfold hdE; rw [if_neg (by simp [hs])]
 | true =>
  have h4 := (zFK c).1 hs
  have : decide (hkE c < 4) = false := by simp only [decide_eq_false_iff_not]; omega
  rw [this, cond_false]
  have hr : 44032 ≤ c ∧ c ≤ 55203 := by unfold syl at hs; simpa using hs
  rw [wM (n := c - 44032) (by omega) (by omega)]
  have d1 : zI8 wi (c - 44032) 28 = some ((c - 44032) / 28) := by
   unfold zI8; rw [if_neg (by decide), Int.tdiv_eq_ediv_of_nonneg (by omega), wM (by omega) (by omega)]
  have d2 : zI8 wi ((c - 44032) / 28) 21 = some ((c - 44032) / 28 / 21) := by
   unfold zI8; rw [if_neg (by decide), Int.tdiv_eq_ediv_of_nonneg (by omega), wM (by omega) (by omega)]
  have d3 : zGJ ((c - 44032) / 28) 21 = some ((c - 44032) / 28 % 21) := by
   unfold zGJ; rw [if_neg (by decide), Int.tmod_eq_emod_of_nonneg (by omega)]
  have d4 : zGJ (c - 44032) 28 = some ((c - 44032) % 28) := by
   unfold zGJ; rw [if_neg (by decide), Int.tmod_eq_emod_of_nonneg (by omega)]
  simp only [d1, d2, d3, d4, zA]
  unfold hdE
  rw [if_pos hs, wM (n := 4352 + (c - 44032) / 28 / 21) (by omega) (by omega), wM (n := 4449 + (c - 44032) / 28 % 21) (by omega) (by omega)]
  by_cases h0 : 0 < (c - 44032) % 28
  ·
   rw [if_pos h0, wM (n := 4520 + (c - 44032) % 28) (by omega) (by omega), wM (n := 4520 + (c - 44032) % 28 - 1) (by omega) (by omega)]
   simp only [h0, decide_true, cond_true]
   rw [zA8 (by simp)]
   rfl
  ·
   rw [if_neg h0]
   simp only [h0, decide_false, cond_false]
   rfl
section
variable {l : List Mapping} (hl : l.length ≤ 1000) (hto : ∀ m ∈ l, m.To.length ≤ 1000)
include hl hto
theorem yBE {out : List Bool} (ho : out.length = l.length) {i : Nat} (hi : i < l.length) : ∀ (d k : Nat) (b : Bool), (nth l i).To.length - k = d → k ≤ (nth l i).To.length →
    zE (fun (x : Bool × Int) => wP l (i : Int) out x.1 x.2) (b, (k : Int)) = some (b && ((nth l i).To.drop k).all fun e => match fi l e true with | some m => nth out m | none => true) := by
  have hlen := hto _ (xX hi)
  intro d
  induction d with
  | zero =>
    intro k b h1 h2
    rw [List.drop_of_length_le (show (nth l i).To.length ≤ k by omega)]
    refine zL ?_
    simp only [wP, zY hi, zA, kN (show (nth l i).To.length ≤ k by omega), cond_false, List.all_nil, Bool.and_true]
  | succ d ih =>
    intro k b h1 h2
    have hk : k < (nth l i).To.length := by omega
    have hb : wP l (i : Int) out b (k : Int) = some (.next (b && (match fi l (nth l i).To[k] true with | some m => nth out m | none => true), ((k + 1 : Nat) : Int))) := by
      simp only [wP, zY hi, zA, kA hk, cond_true, z1 hk, zUR hl, zO, zK (k := k) (by omega)]
      unfold fiI
      cases hf : fi l (nth l i).To[k] true with
      | none => simp [vK]
      | some m =>
        obtain ⟨h3, _, _⟩ := zG6 hf
        have e : decide (((m : Nat) : Int) < 0) = false := by simp
        simp only [e, Bool.not_false, Bool.and_true, Bool.false_or]
        cases b with
        | false => simp [vK]
        | true => simp only [xH, zY (show m < out.length by omega), zA, Bool.true_and]
    rw [zX (body := fun (x : Bool × Int) => wP l (i : Int) out x.1 x.2) (x := (b, (k : Int))) hb, ih (k + 1) _ (by omega) (by omega), List.drop_eq_getElem_cons hk, List.all_cons, Bool.and_assoc]
theorem yBF : zF2 l = some (zGG (zLH l) l.length l.length (List.replicate l.length false)) := by
 unfold zF2
 rw [zZJ (by omega), zA]
 have h1 : ∀ (out : List Bool), out.length = l.length → zE (fun (x : Int × (List Bool)) => zAF l x.1 x.2) (0, out) = some (zMT (zLH l) l.length 0 out) := fun out ho =>
  zMU (upd := zLH l) (n := l.length) (Inv := fun _ => True) (body := fun (x : Int × (List Bool)) => zAF l x.1 x.2) (fun i out => ((i : Int), out)) id (fun i out hi ho _ => by
   have := yBE hl hto ho hi _ 0 true rfl (by omega)
   rw [List.drop_zero, Bool.true_and] at this
   have h' : zE (fun (x : Bool × Int) => wP l (i : Int) out x.1 x.2) (true, 0) = some (zLH l out i) := this
   simp only [zAF, kA hi, cond_true, h', zA, zY (show i < out.length by omega), zJQ (show i < out.length by omega), zK (k := i) (by omega)]) (fun _ _ _ _ _ => trivial) (fun out => by simp only [zAF, kN (Nat.le_refl _), cond_false]; rfl) l.length 0 out (by omega) ho trivial
 have h2 := zMV (upd := zLH l) (n := l.length) (Inv := fun _ => True) (body := fun (x : Int × (List Bool)) => zAG l x.1 x.2) (fun i out => ((i : Int), out)) id (N := l.length) (fun r out hr ho _ => by
  simp only [zAG, kA hr, cond_true, h1 out ho, zA, zK (k := r) (by omega)]) (fun _ _ _ _ _ => trivial) (fun out => by simp only [zAG, kN (Nat.le_refl _), cond_false]; rfl) l.length 0 (List.replicate l.length false) (by omega) (by simp) trivial
 have h3 : zE (fun (x : Int × (List Bool)) => zAG l x.1 x.2) (0, List.replicate l.length false) = some (zGG (zLH l) l.length l.length (List.replicate l.length false)) := h2
 rw [h3]
 rfl
theorem yBG {b : Bool} {out : List Int} (ho : out.length = l.length) (hv : zUM out) {i : Nat} (hi : i < l.length) : ∀ (d k : Nat) (n : Int), (nth l i).To.length - k = d → k ≤ (nth l i).To.length → 0 ≤ n → n ≤ 100 * (k : Int) →
    zE (fun (x : Int × Int) => jX l (i : Int) b out x.1 x.2) (n, (k : Int)) = some (n + (((nth l i).To.drop k).map (lenOf l b out)).sum) := by
  have hlen := hto _ (xX hi)
  intro d
  induction d with
  | zero =>
    intro k n h1 h2 h3 h4
    rw [List.drop_of_length_le (show (nth l i).To.length ≤ k by omega)]
    refine zL ?_
    simp only [jX, zY hi, zA, kN (show (nth l i).To.length ≤ k by omega), cond_false, List.map_nil, List.sum_nil, Int.add_zero]
  | succ d ih =>
    intro k n h1 h2 h3 h4
    have hk : k < (nth l i).To.length := by omega
    have hbd : 0 ≤ lenOf l b out (nth l i).To[k] ∧ lenOf l b out (nth l i).To[k] ≤ 65 := by
      unfold lenOf
      cases hf : fi l (nth l i).To[k] b with
      | none => have := zLC (nth l i).To[k]; simp only []; omega
      | some m => obtain ⟨h3, _, _⟩ := zG6 hf; exact hv _ (xX (by omega))
    have hb : jX l (i : Int) b out n (k : Int) = some (.next (n + lenOf l b out (nth l i).To[k], ((k + 1 : Nat) : Int))) := by
      have hw : wi (n + lenOf l b out (nth l i).To[k]) = n + lenOf l b out (nth l i).To[k] := wM (by omega) (by omega)
      simp only [jX, zY hi, zA, kA hk, cond_true, z1 hk, zUR hl, zK (k := k) (by omega), yCL]
      rw [← hw]
      unfold lenOf fiI
      cases hf : fi l (nth l i).To[k] b with
      | none => rfl
      | some m =>
        obtain ⟨h3, _, _⟩ := zG6 hf
        have e : decide (0 ≤ ((m : Nat) : Int)) = true := by simp
        simp only [e, cond_true, zY (show m < out.length by omega), zA]
    rw [zX (body := fun (x : Int × Int) => jX l (i : Int) b out x.1 x.2) (x := (n, (k : Int))) hb, ih (k + 1) _ (by omega) (by omega) (by omega) (by omega), List.drop_eq_getElem_cons hk, List.map_cons, List.sum_cons, Int.add_assoc]
theorem z1J (b : Bool) : zBW l b = some (zGG (updL l b) l.length l.length (List.replicate l.length 0)) := by
 unfold zBW
 rw [zZJ (by omega), zA]
 have h0 : zUM (List.replicate l.length 0) := fun x hx => by rw [(List.mem_replicate.1 hx).2]; omega
 have h1 : ∀ (out : List Int), out.length = l.length → zUM out → zE (fun (x : Int × (List Int)) => wK l b x.1 x.2) (0, out) = some (zMT (updL l b) l.length 0 out) := fun out ho hv =>
  zMU (upd := updL l b) (n := l.length) (Inv := zUM) (body := fun (x : Int × (List Int)) => wK l b x.1 x.2) (fun i out => ((i : Int), out)) id (fun i out hi ho hv => by
   have := yBG hl hto (b := b) ho hv hi _ 0 0 rfl (by omega) (by omega) (by omega)
   rw [List.drop_zero, Int.zero_add] at this
   have h' : zE (fun (x : Int × Int) => jX l (i : Int) b out x.1 x.2) (0, 0) = some (((nth l i).To.map (lenOf l b out)).sum) := this
   simp only [wK, kA hi, cond_true, h', zA, zY (show i < out.length by omega), zJQ (show i < out.length by omega), zY hi, zO, zK (k := i) (by omega)]
   unfold updL
   cases b with
   | true => simp
   | false =>
    cases ht : ((nth l i).Tag == []) with
    | true => simp
    | false => simp [zY (show i < (out.set i (min (max (List.map (lenOf l false out) (nth l i).To).sum 1) 65)).length by simp; omega), zJQ (show i < (out.set i (min (max (List.map (lenOf l false out) (nth l i).To).sum 1) 65)).length by simp; omega)]) zNQ (fun out => by simp only [wK, kN (Nat.le_refl _), cond_false]; rfl) l.length 0 out (by omega) ho hv
 have h2 := zMV (upd := updL l b) (n := l.length) (Inv := zUM) (body := fun (x : Int × (List Int)) => wL l b x.1 x.2) (fun i out => ((i : Int), out)) id (N := l.length) (fun r out hr ho hv => by
  simp only [wL, kA hr, cond_true, h1 out ho hv, zA, zK (k := r) (by omega)]) zNQ (fun out => by simp only [wL, kN (Nat.le_refl _), cond_false]; rfl) l.length 0 (List.replicate l.length 0) (by omega) (by simp) h0
 have h3 : zE (fun (x : Int × (List Int)) => wL l b x.1 x.2) (0, List.replicate l.length 0) = some (zGG (updL l b) l.length l.length (List.replicate l.length 0)) := h2
 rw [h3]
 rfl
end
end Go.M
namespace Go.M
open Go.AV
theorem zO5 {β : Type} [Inhabited β] {upd : List β → Nat → β} {n k : Nat} {out : List β} (h : out.length = n) : (zGG upd n k out).length = n :=
 (zUK (upd := upd) (n := n) (Inv := fun _ => True) (fun _ _ _ _ _ => trivial) k out h trivial).2
theorem zXX {l : List Mapping} (h : ∀ k, k + 1 < l.length → (nth l k).From < (nth l (k + 1)).From) : ∀ (d i : Nat), i + d + 1 < l.length → (nth l i).From < (nth l (i + d + 1)).From
 | 0, i, hi => h i hi
 | d + 1, i, hi => by
  have h1 := zXX h d i (by omega)
  have h3 := h (i + d + 1) (by omega)
  have : i + (d + 1) + 1 = i + d + 1 + 1 := by omega
  rw [this]
  omega
theorem z3T {l : List Mapping} (hlt : ∀ k, k + 1 < l.length → mlt (nth l k) (nth l (k + 1))) : (∀ k, k < l.length → ¬ fiI l (nth l k).From true < (k : Int)) ↔ ∀ k, k + 1 < l.length → (nth l (k + 1)).From ≠ (nth l k).From := by
 constructor
 ·
  intro h k hk e
  have hk' : k < l.length := by omega
  have hp : pM (nth l (k + 1)).From true (0 + k) l[k] ≠ none := by
   unfold pM
   rw [if_pos ⟨by rw [e, zA9 hk'], rfl⟩]
   simp
  obtain ⟨i, hi, hik, hc⟩ := zS5 (p := pM (nth l (k + 1)).From true) (l := l) (k := 0) hk' hp
  have hfi : fi l (nth l (k + 1)).From true = some i := by
   unfold fi
   rw [hc]
   unfold pM
   split
   · simp
   ·
    rename_i hn
    exfalso
    have : vM (pM (nth l (k + 1)).From true) l 0 = none := by rw [hc]; unfold pM; rw [if_neg hn]
    exact hp (zJS this k hk')
  refine h (k + 1) hk ?_
  unfold fiI
  rw [hfi]
  simp only []
  omega
 ·
  intro h k hk hlt'
  have hs : ∀ k, k + 1 < l.length → (nth l k).From < (nth l (k + 1)).From := fun k hk => by
   have a := hlt k hk
   have b := h k hk
   unfold mlt at a
   omega
  unfold fiI at hlt'
  cases hf : fi l (nth l k).From true with
  | none => exact absurd ⟨rfl, rfl⟩ (z1A hf _ (xX hk))
  | some i =>
   rw [hf] at hlt'
   simp only [] at hlt'
   obtain ⟨h1, h2, _⟩ := zG6 hf
   have := zXX hs (k - i - 1) i (by omega)
   rw [show i + (k - i - 1) + 1 = k by omega] at this
   omega
theorem yEM {n : Norm} (hs : NSm n) (hok : zB5 n) : Ver (zE3 n) (VD0 n) := by
 obtain ⟨e1, he1, p1⟩ := z7R (l := n.Classes) (by have := hs.cl; omega)
 obtain ⟨e2, he2, p2⟩ := yEH (l := n.Decomp) (by have := hs.de; omega) (fun m hm => by have := hs.to m hm; omega) (fun m hm => by have := hs.tg m hm; unfold MX; omega)
 obtain ⟨e3, he3, p3⟩ := yEL (s := n.Excluded) hs.ex
 have hde := hs.de
 have hl : n.Decomp.length ≤ 1000 := by omega
 have hto : ∀ m ∈ n.Decomp, m.To.length ≤ 1000 := fun m hm => by have := hs.to m hm; omega
 unfold zE3
 rw [he1, zA]
 by_cases h1 : e1 = 0
 case neg =>
  have : (!decide (e1 = 0)) = true := by simp [h1]
  rw [this, cond_true]
  exact ⟨e1, rfl, by simp only [h1, false_iff]; exact fun h => h1 (p1.2 h.cv)⟩
 rw [h1]
 simp only [decide_true, Bool.not_true, cond_false]
 have cv := p1.1 h1
 rw [he2, zA]
 by_cases h2 : e2 = 0
 case neg =>
  have : (!decide (e2 = 0)) = true := by simp [h2]
  rw [this, cond_true]
  exact ⟨e2, rfl, by simp only [h2, false_iff]; exact fun h => h2 (p2.2 h.mv)⟩
 rw [h2]
 simp only [decide_true, Bool.not_true, cond_false]
 have mv := p2.1 h2
 rw [he3, zA]
 cases e3 with
 | false => exact ⟨11, rfl, by simp only [show ((11 : Int) = 0) = False by simp, false_iff]; exact fun h => by have := p3.2 h.ca; cases this⟩
 | true =>
 have ca := p3.1 rfl
 simp only [Bool.not_true, cond_false]
 have l0 := kW (body := fun (x : Int) => zA2 n x) n.Decomp.length (fun k => ¬ fiI n.Decomp (nth n.Decomp k).From true < (k : Int)) (fun y => y ≠ 0) (fun k hk => by
  simp only [zA2, kA hk, cond_true, zY hk, zA, zUR hl, zK (k := k) (by omega)]
  exact uN (by simp) (by decide)) (fun k hk => by simp only [zA2, kN hk, cond_false])
 rw [z3T mv.lt] at l0
 rcases l0 with ⟨l0, ne⟩ | ⟨y, hy, l0, ne⟩
 case inr => rw [l0]; exact ⟨y, rfl, by simp only [hy, false_iff]; exact fun h => ne h.ne⟩
 rw [l0]
 simp only [zA, Sum.elim_inl]
 have hbt : ∀ m : Mapping, (m.Tag == []) = decide (m.Tag = []) := fun m => by cases m.Tag <;> rfl
 have l1 := kW (body := fun (x : Int) => zA3 n x) n.Decomp.length (fun k => (nth n.Decomp k).Tag = [] → (nth n.Decomp k).To.length = 1 ∨ (nth n.Decomp k).To.length = 2) (fun y => y ≠ 0) (fun k hk => by
  simp only [zA3, kA hk, cond_true, zY hk, zA, zO, zK (k := k) (by omega), hbt]
  by_cases ht : (nth n.Decomp k).Tag = []
  ·
   simp only [ht, decide_true, xH, zA, Bool.true_and, true_implies]
   by_cases h5 : ((nth n.Decomp k).To.length : Int) = 1
   ·
    simp only [h5, decide_true, Bool.not_true, vK, zA, Bool.false_and, cond_false]
    exact .inl ⟨.inl (by omega), trivial⟩
   ·
    simp only [h5, decide_false, Bool.not_false, xH, zA, Bool.true_and]
    exact uN (by simp only [Bool.not_eq_true', decide_eq_false_iff_not]; omega) (by decide)
  ·
   simp only [ht, decide_false, vK, zA, Bool.false_and, cond_false, false_implies]
   exact .inl ⟨trivial, trivial⟩) (fun k hk => by simp only [zA3, kN hk, cond_false])
 rw [zBH (p := fun m : Mapping => m.Tag = [] → m.To.length = 1 ∨ m.To.length = 2)] at l1
 rcases l1 with ⟨l1, kd⟩ | ⟨y, hy, l1, kd⟩
 case inr => rw [l1]; exact ⟨y, rfl, by simp only [hy, false_iff]; exact fun h => kd h.kd⟩
 rw [l1]
 simp only [zA, Sum.elim_inl]
 have l2 := kW (body := fun (x : Int) => zA4 n x) n.Decomp.length (fun k => hkE (nth n.Decomp k).From = 0 ∧ ((nth n.Decomp k).Tag ≠ [] → clE n.Classes (nth n.Decomp k).From = 0)) (fun y => y ≠ 0) (fun k hk => by
  simp only [zA4, kA hk, cond_true, zY hk, zA, zO, z74, zK (k := k) (by omega), hbt]
  by_cases h5 : hkE (nth n.Decomp k).From = 0
  ·
   simp only [h5, decide_true, Bool.not_true, Bool.not_false, xH, zA, Bool.true_and, Bool.false_or, true_and]
   by_cases ht : (nth n.Decomp k).Tag = []
   ·
    simp only [ht, decide_true, Bool.not_true, vK, zA, Bool.false_and, cond_false]
    exact .inl ⟨fun h => absurd rfl h, trivial⟩
   ·
    simp only [ht, decide_false, Bool.not_false, xH, zA, Bool.true_and, zGF (show n.Classes.length ≤ 1000 by have := hs.cl; omega) cv]
    exact uN (by simp [ht]) (by decide)
  ·
   have : (!decide (hkE (nth n.Decomp k).From = 0)) = true := by simp [h5]
   simp only [this, Bool.not_true, vK, zA, Bool.false_and, Bool.true_or, cond_true]
   exact .inr ⟨fun h => h5 h.1, 11, by decide, rfl⟩) (fun k hk => by simp only [zA4, kN hk, cond_false])
 rw [zBH (p := fun m : Mapping => hkE m.From = 0 ∧ (m.Tag ≠ [] → clE n.Classes m.From = 0))] at l2
 rcases l2 with ⟨l2, hk⟩ | ⟨y, hy, l2, hk⟩
 case inr => rw [l2]; exact ⟨y, rfl, by simp only [hy, false_iff]; exact fun h => hk fun m hm => ⟨h.hk m hm, h.tc m hm⟩⟩
 rw [l2]
 simp only [zA, Sum.elim_inl]
 have hds : DS n.Decomp := ⟨fun k hk' => by
  have a := mv.lt k hk'
  have b := ne k hk'
  unfold mlt at a
  omega, fun m hm => (hk m hm).1, fun m hm => by have := mv.sz m hm; omega⟩
 have hms := z69 hds (by omega)
 rw [yBF hl hto, zA]
 have l3 := kW (body := fun (x : Int) => zA5 n (zGG (zLH n.Decomp) n.Decomp.length n.Decomp.length (List.replicate n.Decomp.length false)) x) n.Decomp.length (fun k => nth (zGG (zLH n.Decomp) n.Decomp.length n.Decomp.length (List.replicate n.Decomp.length false)) k = true) (fun y => y ≠ 0) (fun k hk => by
  simp only [zA5, kA hk, cond_true, zY (show k < (zGG (zLH n.Decomp) n.Decomp.length n.Decomp.length (List.replicate n.Decomp.length false)).length by rw [zO5 (by simp)]; exact hk), zA, zK (k := k) (by omega)]
  exact uN (by simp) (by decide)) (fun k hk => by simp only [zA5, kN hk, cond_false])
 rw [z7V hds] at l3
 rcases l3 with ⟨l3, H⟩ | ⟨y, hy, l3, H⟩
 case inr => rw [l3]; exact ⟨y, rfl, by simp only [hy, false_iff]; exact fun h => H (hms.1 h.ms).1⟩
 rw [l3]
 simp only [zA, Sum.elim_inl]
 have hD := zQK hds H
 rw [z1J hl hto false, zA, z1J hl hto true, zA]
 have l4 := kW (body := fun (x : Int) => zA6 n (zGG (updL n.Decomp false) n.Decomp.length n.Decomp.length (List.replicate n.Decomp.length 0)) (zGG (updL n.Decomp true) n.Decomp.length n.Decomp.length (List.replicate n.Decomp.length 0)) x) n.Decomp.length (fun k => wt n.Decomp true (nth n.Decomp k).From ≤ 64) (fun y => y ≠ 0) (fun k hk => by
  have hmo : wt n.Decomp false (nth n.Decomp k).From ≤ wt n.Decomp true (nth n.Decomp k).From := z00 hds _ _
  simp only [zA6, kA hk, cond_true, zY (show k < (zGG (updL n.Decomp false) n.Decomp.length n.Decomp.length (List.replicate n.Decomp.length 0)).length by rw [zO5 (by simp)]; exact hk), zY (show k < (zGG (updL n.Decomp true) n.Decomp.length n.Decomp.length (List.replicate n.Decomp.length 0)).length by rw [zO5 (by simp)]; exact hk), zA, zO, z1B hds hD (b := false) k hk, z1B hds hD (b := true) k hk, zK (k := k) (by omega)]
  by_cases h6 : 64 < wt n.Decomp false (nth n.Decomp k).From
  ·
   simp only [h6, decide_true, Bool.not_true, vK, zA, Bool.true_or, cond_true]
   exact .inr ⟨by omega, 13, by decide, rfl⟩
  ·
   simp only [h6, decide_false, Bool.not_false, xH, zA, Bool.false_or]
   exact uN (by simp) (by decide)) (fun k hk => by simp only [zA6, kN hk, cond_false])
 rw [zBH (p := fun m : Mapping => wt n.Decomp true m.From ≤ 64)] at l4
 rcases l4 with ⟨l4, W⟩ | ⟨y, hy, l4, W⟩
 ·
  rw [l4]
  exact ⟨0, rfl, by simp only [true_iff]; exact ⟨cv, mv, ca, ne, kd, fun m hm => (hk m hm).1, fun m hm => (hk m hm).2, hms.2 ⟨H, W⟩⟩⟩
 · rw [l4]; exact ⟨y, rfl, by simp only [hy, false_iff]; exact fun h => W (hms.1 h.ms).2⟩
theorem z75 {n : Norm} (hs : NSm n) (hok : zB5 n) : zD9 n = some (usN n) := by
 obtain ⟨e, he, hv⟩ := yEM hs hok
 unfold zD9 usN
 rw [he, zA]
 by_cases hz : e = 0
 · rw [if_pos (hv.1 hz)]; simp [hz]
 · rw [if_neg (fun h => hz (hv.2 h))]; simp [hz]
section
variable {c : Collation} (hs : Sm c) {l : List Span} (hcv : CV l) (hl : l.length ≤ 1000)
include hs
theorem z1K (codes : List Int) : zCC (yG c) codes = some (zCJ (yG c).Entries codes) := zZN (zT7 hs) (yAD hs) rfl codes
theorem rM0 {text : List Int} (ht : text.length ≤ 1000) : ∀ (d k : Nat), text.length - k = d → k ≤ text.length → zE (fun (x : Int × Int) => jY text (yG c) x.1 x.2) (((zG5 (pfx (yG c).Entries text) k : Nat) : Int), ((k + 1 : Nat) : Int)) = some ((x9 (yG c).Entries text : Nat) : Int) := by
 intro d
 induction d with
 | zero =>
  intro k h1 h2
  have : k = text.length := by omega
  subst this
  refine zL ?_
  have e : decide (((text.length + 1 : Nat) : Int) ≤ (text.length : Int)) = false := by simp; omega
  simp only [jY, e, cond_false]
  rfl
 | succ d ih =>
  intro k h1 h2
  have e : decide (((k + 1 : Nat) : Int) ≤ (text.length : Int)) = true := by simp; omega
  have hb : jY text (yG c) ((zG5 (pfx (yG c).Entries text) k : Nat) : Int) ((k + 1 : Nat) : Int) = some (.next (((zG5 (pfx (yG c).Entries text) (k + 1) : Nat) : Int), ((k + 1 + 1 : Nat) : Int))) := by
   simp only [jY, e, cond_true, zGB (show k + 1 ≤ text.length by omega), zA, z1K hs, zK (k := k + 1) (by omega)]
   have el : zG5 (pfx (yG c).Entries text) (k + 1) = if pfx (yG c).Entries text (k + 1) = true then k + 1 else zG5 (pfx (yG c).Entries text) k := rfl
   have : (zCJ (yG c).Entries (text.take (k + 1))).2 = pfx (yG c).Entries text (k + 1) := rfl
   rw [this, el]
   cases pfx (yG c).Entries text (k + 1) <;> rfl
  rw [zX (body := fun (x : Int × Int) => jY text (yG c) x.1 x.2) hb]
  exact ih (k + 1) (by omega) (by omega)
include hcv hl
theorem rM1 {text : List Int} : ∀ (r p s : List Int) (h : Int) (k : Nat), text.drop k = r → k ≤ text.length → p.length + s.length + r.length ≤ 1000 → text.length ≤ 1000 →
    ∃ (m : Nat) (q : List Int), zE (fun (x : (List Int) × Int × Int × (List Int)) => xM text l (yG c) x.1 x.2.1 x.2.2.1 x.2.2.2) (p, h, (k : Int), s) = some ((zCL (fun q => (zCJ (yG c).Entries q).2) (clE l) r p s h).1, (m : Int), q) ∧ m ≤ text.length ∧ q ++ text.drop m = (zCL (fun q => (zCJ (yG c).Entries q).2) (clE l) r p s h).2
  | [], p, s, h, k, hd, hk, _, _ => by
    have hge : text.length ≤ k := by have := congrArg List.length hd; simp at this; omega
    refine ⟨k, s, zL ?_, hk, ?_⟩
    · simp only [xM, kN hge, zO, vK, zA, Bool.false_and, cond_false]
      rfl
    · rw [hd]; simp [zCL]
  | x :: r, p, s, h, k, hd, hk, hn, ht => by
    have hlt : k < text.length := by have := congrArg List.length hd; simp at this; omega
    obtain ⟨hx, hd'⟩ := List.cons_eq_cons.1 ((List.drop_eq_getElem_cons hlt).symm.trans hd)
    simp only [List.length_cons] at hn
    have hj : zEA p x = some (p ++ [x]) := by
      unfold zEA
      rw [zA8 (by simp; omega), zA, List.nil_append, zA8 (by simp; omega)]
      rfl
    by_cases h0 : clE l x = 0
    · refine ⟨k, s, zL ?_, hk, ?_⟩
      · simp only [xM, kA hlt, zO, xH, z1 hlt, zA, hx, zLG hl hcv, h0, decide_true, Bool.not_true, Bool.and_false, cond_false]
        unfold zCL; rw [if_pos h0]
      · unfold zCL; rw [if_pos h0, hd]
    · unfold zCL
      rw [if_neg h0]
      cases hb : ((zCJ (yG c).Entries (p ++ [x])).2 && decide (h < clE l x)) with
      | true =>
        rw [if_pos rfl]
        obtain ⟨m, q, e1, e2, e3⟩ := rM1 r (p ++ [x]) s h (k + 1) hd' (by omega) (by simp; omega) ht
        refine ⟨m, q, ?_, e2, e3⟩
        rw [← e1]
        refine zX ?_
        simp only [xM, kA hlt, zO, xH, z1 hlt, zA, hx, zLG hl hcv, h0, decide_false, Bool.not_false, Bool.and_true, cond_true, zGF hl hcv, hj, z1K hs, hb, zK (k := k) (by omega)]
      | false =>
        rw [if_neg (by simp)]
        obtain ⟨m, q, e1, e2, e3⟩ := rM1 r p (s ++ [x]) (max h (clE l x)) (k + 1) hd' (by omega) (by simp; omega) ht
        refine ⟨m, q, ?_, e2, e3⟩
        rw [← e1]
        refine zX ?_
        simp only [xM, kA hlt, zO, xH, z1 hlt, zA, hx, zLG hl hcv, h0, decide_false, Bool.not_false, Bool.and_true, cond_true, cond_false, zGF hl hcv, hj, z1K hs, hb, zA8 (show s.length + [x].length ≤ 4294967296 by simp; omega), zK (k := k) (by omega)]
noncomputable def mtE (c : Collation) (l : List Span) (text : List Int) : List Int × List Int := zCL (fun q => (zCJ (yG c).Entries q).2) (clE l) (text.drop (x9 (yG c).Entries text)) (text.take (x9 (yG c).Entries text)) [] 0
theorem zZU {text : List Int} (ht : text.length ≤ 1000) (h0 : text ≠ []) : zCX l (yG c) text = some (if x9 (yG c).Entries text = 0 then (text.take 1, text.drop 1, false) else ((mtE c l text).1, (mtE c l text).2, true)) := by
 have hpos : 0 < text.length := List.length_pos_iff.2 h0
 unfold zCX
 have h1 := rM0 hs ht text.length 0 (by omega) (by omega)
 have h1' : zE (fun (x : Int × Int) => jY text (yG c) x.1 x.2) (0, 1) = some ((x9 (yG c).Entries text : Nat) : Int) := h1
 rw [h1', zA]
 by_cases hz : x9 (yG c).Entries text = 0
 ·
  have e1 : decide (((x9 (yG c).Entries text : Nat) : Int) = 0) = true := by simp [hz]
  have s1 : slc text 0 1 = some (text.take 1) := zGB (b := 1) hpos
  have s2 : slc text 1 (text.length) = some (text.drop 1) := zMJ (a := 1) hpos
  rw [e1, cond_true, s1, zA, s2, zA, if_pos hz]
 ·
  have e1 : decide (((x9 (yG c).Entries text : Nat) : Int) = 0) = false := by simp; omega
  have hle : x9 (yG c).Entries text ≤ text.length := zMP _ _
  rw [e1, cond_false, zGB hle, zA, z6R (by simp; omega), zA, if_neg hz]
  obtain ⟨m, q, r1, r2, r3⟩ := rM1 hs hcv hl (text := text) (text.drop (x9 (yG c).Entries text)) (text.take (x9 (yG c).Entries text)) [] 0 (x9 (yG c).Entries text) rfl hle (by simp; omega) ht
  have hinv := zMQ (fd := fun q => (zCJ (yG c).Entries q).2) (cl := clE l) (text.drop (x9 (yG c).Entries text)) (text.take (x9 (yG c).Entries text)) [] 0
  have hq : q.length + (text.drop m).length ≤ 4294967296 := by
   have := congrArg List.length r3
   rw [List.length_append] at this
   have h2 := hinv.2.1
   simp only [List.length_take, List.length_drop, List.length_nil] at h2
   omega
  rw [r1, zA]
  simp only [zMJ r2, zA, zA8 hq, r3]
  rfl
end
end Go.M
namespace Go.M
open Go.AV
theorem z1L {l : List Mapping} (hl : l.length ≤ 1000) {b : Bool} {lists : List (List Int)} (hn : lists.length = l.length) (hb : ∀ e, (zE8 l b lists e).length ≤ 64) {text : List Int} (ht : text.length ≤ 1000) : w6 l lists text b = some (text.flatMap (zE8 l b lists)) := by
 have key : ∀ (d k : Nat) (out : List Int), text.length - k = d → k ≤ text.length → out.length ≤ 64 * k → zE (fun (x : Int × (List Int)) => k5 text l b lists x.1 x.2) ((k : Int), out) = some (out ++ (text.drop k).flatMap (zE8 l b lists)) := by
  intro d
  induction d with
  | zero =>
   intro k out h1 h2 h3
   rw [List.drop_of_length_le (show text.length ≤ k by omega)]
   refine zL ?_
   simp only [k5, kN (show text.length ≤ k by omega), cond_false, List.flatMap_nil, List.append_nil]
  | succ d ih =>
   intro k out h1 h2 h3
   have hk : k < text.length := by omega
   have hbd := hb text[k]
   have hb0 : k5 text l b lists (k : Int) out = some (.next (((k + 1 : Nat) : Int), out ++ zE8 l b lists text[k])) := by
    have ha : app out (zE8 l b lists text[k]) = some (out ++ zE8 l b lists text[k]) := zA8 (by omega)
    simp only [k5, kA hk, cond_true, z1 hk, zA, zUR hl, zK (k := k) (by omega), yCL]
    unfold zE8 at ha ⊢
    unfold fiI
    cases hf : fi l text[k] b with
    | none =>
     rw [hf] at ha
     simp only [] at ha
     simp only [show decide ((0 : Int) ≤ -1) = false by decide, cond_false, ha, zA]
    | some m =>
     rw [hf] at ha
     simp only [] at ha
     obtain ⟨h4, _, _⟩ := zG6 hf
     have e : decide (0 ≤ ((m : Nat) : Int)) = true := by simp
     simp only [e, cond_true, zY (show m < lists.length by omega), zA, ha]
   rw [zX (body := fun (x : Int × (List Int)) => k5 text l b lists x.1 x.2) (x := ((k : Int), out)) hb0, ih (k + 1) _ (by omega) (by omega) (by rw [List.length_append]; omega), List.drop_eq_getElem_cons hk, List.flatMap_cons, List.append_assoc]
 unfold w6
 have h := key text.length 0 [] (by omega) (by omega) (by simp)
 rw [List.drop_zero, List.nil_append] at h
 have h' : zE (fun (x : Int × (List Int)) => k5 text l b lists x.1 x.2) (0, []) = some (text.flatMap (zE8 l b lists)) := h
 rw [h']
 rfl
theorem yEN {n : Norm} (h : GN n) (b : Bool) : zE4 n.Decomp b = some (zXW n.Decomp b) := by
 have hl : n.Decomp.length ≤ 1000 := by have := h.de; omega
 have hbd : ∀ {out : List (List Int)}, zRS n.Decomp b out → ∀ e, (zE8 n.Decomp b out e).length ≤ 64 := fun hv e => Nat.le_trans (z1D h.ds h.dd hv e) (h.len b e)
 unfold zE4
 rw [zZJ (by omega), zA]
 have h1 : ∀ (out : List (List Int)), out.length = n.Decomp.length → zRS n.Decomp b out → zE (fun (x : Int × (List (List Int))) => uK n.Decomp b x.1 x.2) (0, out) = some (zMT (zQO n.Decomp b) n.Decomp.length 0 out) := fun out ho hv =>
  zMU (upd := zQO n.Decomp b) (n := n.Decomp.length) (Inv := zRS n.Decomp b) (body := fun (x : Int × (List (List Int))) => uK n.Decomp b x.1 x.2) (fun i out => ((i : Int), out)) id (fun i out hi ho hv => by
   have hr := z1L hl (b := b) ho (hbd hv) (text := (nth n.Decomp i).To) (h.ds.len _ (xX hi))
   simp only [uK, kA hi, cond_true, zO, zY hi, zY (show i < out.length by omega), zA, hr, zJQ (show i < out.length by omega), zK (k := i) (by omega)]
   unfold zQO
   cases b with
   | true => simp [vK]
   | false =>
    simp only [Bool.not_false, xH, zA, Bool.false_or]
    cases ht : ((nth n.Decomp i).Tag == []) with
    | true => simp
    | false => simp [yA3 (show i < out.length by omega)]) (zNR h.ds h.dd) (fun out => by simp only [uK, kN (Nat.le_refl _), cond_false]; rfl) n.Decomp.length 0 out (by omega) ho hv
 have h2 := zMV (upd := zQO n.Decomp b) (n := n.Decomp.length) (Inv := zRS n.Decomp b) (body := fun (x : Int × (List (List Int))) => uL n.Decomp b x.1 x.2) (fun i out => ((i : Int), out)) id (N := n.Decomp.length) (fun r out hr ho hv => by
  simp only [uL, kA hr, cond_true, h1 out ho hv, zA, zK (k := r) (by omega)]) (zNR h.ds h.dd) (fun out => by simp only [uL, kN (Nat.le_refl _), cond_false]; rfl) n.Decomp.length 0 (List.replicate n.Decomp.length []) (by omega) (by simp) yCJ
 have h3 : zE (fun (x : Int × (List (List Int))) => uL n.Decomp b x.1 x.2) (0, List.replicate n.Decomp.length []) = some (zXW n.Decomp b) := h2
 rw [h3]
 rfl
theorem yBH {n : Norm} (h : GN n) (b : Bool) {text : List Int} (ht : text.length ≤ 1000) : zF3 n text b = some (text.flatMap (fu n.Decomp b)) := by
 have hl : n.Decomp.length ≤ 1000 := by have := h.de; omega
 unfold zF3
 have e : ∀ c, zE8 n.Decomp b (zXW n.Decomp b) c = fu n.Decomp b c := yBB h.ds h.dd
 rw [yEN h, zA, z1L (lists := zXW n.Decomp b) hl (zO5 (by simp)) (fun c => by rw [e]; exact h.len b c) ht, zA, show zE8 n.Decomp b (zXW n.Decomp b) = fu n.Decomp b from funext e]
section
variable {l : List Span} (hcv : CV l) (hl : l.length ≤ 1000)
include hcv hl
theorem sIn {text : List Int} {v : Nat} (hv : v < text.length) : ∀ (r s : List Int), r.length ≤ 1000 → zE (fun (q : Int × (List Int)) => vR (clE l text[v]) l text (v : Int) q.1 q.2) ((r.length : Int), r.reverse ++ text[v] :: s) = some (vQ (ltC (clE l)) r text[v] s)
  | [], s, _ => by
    refine zL ?_
    simp [vR, zO, vK, zA, vQ]
  | y :: r, s, hr => by
    simp only [List.length_cons] at hr
    have e0 : decide ((0 : Int) < ((r.length + 1 : Nat) : Int)) = true := by simp only [decide_eq_true_eq]; omega
    have e1 : (y :: r).reverse ++ text[v] :: s = r.reverse ++ y :: text[v] :: s := by simp
    have i1 : yI (r.reverse ++ y :: text[v] :: s) (r.length : Int) = some y := xT (by simp)
    have i2 : yI (r.reverse ++ y :: text[v] :: s) ((r.length + 1 : Nat) : Int) = some text[v] := by
      have := xT (p := r.reverse ++ [y]) (s := s) (x := text[v]) (k := r.length + 1) (by simp)
      simpa using this
    have s1 : zAI (r.reverse ++ y :: text[v] :: s) ((r.length + 1 : Nat) : Int) y = some (r.reverse ++ y :: y :: s) := by
      have := vL (p := r.reverse ++ [y]) (s := s) (x := text[v]) (y := y) (k := r.length + 1) (by simp)
      simpa using this
    have i3 : yI (r.reverse ++ y :: y :: s) (r.length : Int) = some y := xT (by simp)
    have s2 : zAI (r.reverse ++ y :: y :: s) (r.length : Int) text[v] = some (r.reverse ++ text[v] :: y :: s) := vL (by simp)
    rw [e1]
    show zE _ (((r.length + 1 : Nat) : Int), _) = _
    by_cases h0 : 0 < clE l text[v]
    · by_cases hlt : clE l text[v] < clE l y
      · rw [zX (x' := ((r.length : Int), r.reverse ++ text[v] :: (y :: s))) (by
          simp only [vR, zO, e0, h0, decide_true, Bool.and_self, zB0 (k := r.length) (by omega), xH, i1, zA, zGF hl hcv, hlt, cond_true, i2, s1, z1 hv, i3, s2])]
        rw [sIn hv r (y :: s) (by omega)]
        have : ltC (clE l) text[v] y = true := by unfold ltC; simp [h0, hlt]
        simp [vQ, this]
      · refine zL ?_
        have : ltC (clE l) text[v] y = false := by unfold ltC; simp [hlt]
        simp only [vR, zO, e0, h0, decide_true, Bool.and_self, zB0 (k := r.length) (by omega), xH, i1, zA, zGF hl hcv, hlt, decide_false, Bool.and_false, cond_false, vQ, this, Bool.false_eq_true, if_false, e1]
    · refine zL ?_
      have : ltC (clE l) text[v] y = false := by unfold ltC; simp [h0]
      simp only [vR, zO, e0, h0, decide_false, Bool.and_false, vK, zA, Bool.false_and, cond_false, vQ, this, Bool.false_eq_true, if_false, e1]
theorem yBI {text : List Int} (ht : text.length ≤ 900) : zEB l text = some (csE (clE l) text) := by
 have key : ∀ (d k : Nat) (out : List Int), text.length - k = d → k ≤ text.length → out.length = k → zE (fun (x : Int × (List Int)) => wR text l x.1 x.2) ((k : Int), out) = some (uO (ltC (clE l)) (text.drop k) out) := by
  intro d
  induction d with
  | zero =>
   intro k out h1 h2 h3
   rw [List.drop_of_length_le (show text.length ≤ k by omega)]
   refine zL ?_
   simp only [wR, kN (show text.length ≤ k by omega), cond_false]
   rfl
  | succ d ih =>
   intro k out h1 h2 h3
   have hk : k < text.length := by omega
   have hi := sIn hcv hl hk out.reverse [] (by simp; omega)
   rw [List.reverse_reverse, List.length_reverse] at hi
   have hb : wR text l (k : Int) out = some (.next (((k + 1 : Nat) : Int), vQ (ltC (clE l)) out.reverse text[k] [])) := by
    have e1 : wi (((out ++ [text[k]]).length : Int) - 1) = (out.length : Int) := by
     have hL : ((out ++ [text[k]]).length : Int) = (out.length : Int) + 1 := by simp
     rw [hL, wM (by omega) (by omega)]; omega
    simp only [wR, kA hk, cond_true, z1 hk, zA, zA8 (show out.length + [text[k]].length ≤ 4294967296 by simp; omega), zGF hl hcv, e1, hi, zK (k := k) (by omega)]
   rw [zX (body := fun (x : Int × (List Int)) => wR text l x.1 x.2) (x := ((k : Int), out)) hb, ih (k + 1) _ (by omega) (by omega) (by rw [zQF]; simp; omega), List.drop_eq_getElem_cons hk]
   rfl
 unfold zEB
 have h := key text.length 0 [] (by omega) (by omega) rfl
 rw [List.drop_zero] at h
 have h' : zE (fun (x : Int × (List Int)) => wR text l x.1 x.2) (0, []) = some (csE (clE l) text) := h
 rw [h']
 rfl
end
theorem yEO {n : Norm} (hs : NSm n) (hok : zB5 n) {text : List Int} {b : Bool} (ht : text.length ≤ 1000) (hf : (zJV n b text).length ≤ 900) : zF4 n text b = some (zLF n b text) := by
 have h := zUJ hs hok
 unfold zF4
 rw [z75 hs hok, zA, yBH h b ht, zA]
 have e := yBI h.cv (by have := h.cl; omega) hf
 have e' : zEB (usN n).Classes (text.flatMap (fu (usN n).Decomp b)) = some (zLF n b text) := e
 rw [e']
 rfl
section
variable {c : Collation} (hs : Sm c) (hg : ∀ g ∈ c.Groups, g.Name.length ≤ MX) {n : Norm} (hl : (xB n).length ≤ 1000)
include hs hg hl
theorem yF5 : ∀ (k : Nat) (text : List Int) (b : Bool) (acc : List Element), text.length ≤ k → text.length ≤ 1000 → acc.length + 1000 * text.length ≤ 100000000 →
    zE (fun (x : (List Int) × Bool × (List Element)) => wS (usN n) (yG c) c x.1 x.2.1 x.2.2) (text, b, acc) = some (b && (wk c (xB n) text).2, acc ++ (wk c (xB n) text).1) := by
  intro k
  induction k with
  | zero =>
    intro text b acc h _ _
    have : text = [] := List.eq_nil_of_length_eq_zero (by omega)
    subst this
    refine zL ?_
    simp [wS, zNP]
  | succ k ih =>
    intro text b acc h ht ha
    by_cases h0 : text = []
    · subst h0
      refine zL ?_
      simp [wS, zNP]
    · have hpos : 0 < text.length := List.length_pos_iff.2 h0
      have hlt := zS4 (c := c) (l := xB n) h0
      have h2 := z7P hs (l := xB n) text
      have e0 : decide ((0 : Int) < (text.length : Int)) = true := by simp; omega
      have hm := zZU hs (zMO n) hl ht h0
      rw [zXS] at hm
      have ea : app acc (stE c (xB n) text).2.2 = some (acc ++ (stE c (xB n) text).2.2) := zA8 (by omega)
      have hb : wS (usN n) (yG c) c text b acc = some (.next ((stE c (xB n) text).2.1, (b && decide (x9 (yG c).Entries text ≠ 0)), acc ++ (stE c (xB n) text).2.2)) := by
        unfold wS
        rw [e0, cond_true, hm, zA, ← zXS]
        by_cases hz : x9 (yG c).Entries text = 0
        · have hst : stE c (xB n) text = (1, text.drop 1, zRP (yG c) (nth text 0)) := by unfold stE; rw [if_pos hz]
          rw [hst] at ea ⊢
          obtain ⟨y, ys, rfl⟩ := List.exists_cons_of_ne_nil h0
          have i0 : yI ((y :: ys).take 1) (0 : Int) = some (nth (y :: ys) 0) := rfl
          simp only [] at ea
          simp only [hz, if_true, i0, zA, zJT hs hg, cond_false, ea, zO]
          simp
        · have hst : stE c (xB n) text = (((mtE c (xB n) text).1.length : Int), (mtE c (xB n) text).2, (zCJ (yG c).Entries (mtE c (xB n) text).1).1) := by unfold stE; rw [if_neg hz]; rfl
          have hsl := (z7O (c := c) (l := xB n) h0).1
          rw [hst] at ea hsl ⊢
          have hne : 0 < (mtE c (xB n) text).1.length := by simp only [] at hsl; omega
          have i0 : yI (mtE c (xB n) text).1 (0 : Int) = some (nth (mtE c (xB n) text).1 0) := zY (k := 0) hne
          simp only [] at ea
          simp only [hz, if_false, i0, zA, zJT hs hg, cond_true, z1K hs, ea, zO]
          simp [hz]
      rw [zX (body := fun (x : (List Int) × Bool × (List Element)) => wS (usN n) (yG c) c x.1 x.2.1 x.2.2) (x := (text, b, acc)) hb, ih _ _ _ (by omega) (by omega) (by rw [List.length_append]; omega), zMS h0, List.append_assoc, Bool.and_assoc]
end
theorem zZV {n : Norm} {c : Collation} (hn : NSm n) (hok : zB5 n) (hs : Sm c) (hg : ∀ g ∈ c.Groups, g.Name.length ≤ MX) {text : List Int} (ht : text.length ≤ 1000) (hf : (zJV n false text).length ≤ 900) : zEC n c text = some (wk c (xB n) (zLF n false text)) := by
 have hl : (xB n).length ≤ 1000 := by have := zHU hn; omega
 have hd : (zLF n false text).length ≤ 1000 := by rw [zMR]; omega
 unfold zEC
 rw [z75 hn hok, zA, zQE hs hg, zA, yEO hn hok ht hf, zA, yF5 hs hg hl _ _ true [] (Nat.le_refl _) hd (by simp; omega)]
 simp
theorem law43_ColltableElements_true (x : Unicodetextlaw43_Case) (ok : zC7 x) : vG x = some true := by
 unfold vG
 obtain ⟨b, hb, hp⟩ := yD7 x
 rw [hb, zA, z7H]
 cases b with
 | false => rfl
 | true =>
 obtain ⟨hN, hC, hT⟩ := hp rfl
 have hg := yAB ok.2.1
 have hfl : (zJV x.N false x.Text).length ≤ 900 := by have := z3N hN ok.1 false x.Text; omega
 have hd : (zLF x.N false x.Text).length ≤ 1000 := by rw [zMR]; omega
 have hlen := yEE (n := x.N) hC (text := x.Text) hd
 have hE := zXT hN ok.1 hC hg (show x.Text.length ≤ 1000 by omega) (by omega)
 have hK := z7Q hN ok.1 hC hg (show x.Text.length ≤ 1000 by omega) (by omega)
 have hW := zZV hN ok.1 hC hg (show x.Text.length ≤ 1000 by omega) hfl
 simp only [Bool.not_true, cond_false, hE, hK, zDO, zGX, hW, zA, zO, z7N hlen, xH, BEq.rfl, Bool.and_self]
end Go.M


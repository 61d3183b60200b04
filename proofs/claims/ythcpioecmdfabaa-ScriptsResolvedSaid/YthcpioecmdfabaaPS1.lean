/- What the plain counterparts answer. Conditions: none. -/
import Derived.Test.YthcpioecmdfabaaPL
set_option linter.unusedSimpArgs false
set_option linter.unusedVariables false
set_option linter.unnecessarySimpa false
namespace Go.M
open Go.AV

/-! ## Names -/
def nameCh (t : Int) : Bool := (decide (65 ≤ t) && decide (t ≤ 90)) || (decide (97 ≤ t) && decide (t ≤ 122)) || (decide (48 ≤ t) && decide (t ≤ 57)) || decide (t = 95)
def isNm (s : Str) : Bool := !(s == []) && decide (s.length ≤ 32) && s.all fun b => nameCh (b.toNat : Int)

theorem sidx_nat {s : Str} {k : Nat} (h : k < s.length) : sidx s (k : Int) = some (s[k].toNat : Int) := by
  unfold sidx; rw [idx_nat h]; rfl

theorem isName_eq (s : Str) : property_isName s = some (isNm s) := by
  unfold property_isName
  rw [pv_bind]
  by_cases h1 : (s == []) = true
  · simp [h1, isNm]
  · by_cases h2 : s.length ≤ 32
    · have hl : loopM (fun (x : Int) => property_isName_L0 s x) ((0 : Nat) : Int) = some (if s.all (fun b => nameCh (b.toNat : Int)) then .inl () else .inr false) := by
        rw [loop_list0 (B := Unit) s (fun k _ => (k : Int)) (fun _ x _ => if nameCh (x.toNat : Int) then some (.next ()) else some (.done (.inr false))) (fun _ => .inl ()) ?_ ?_ ()]
        · exact runL_all _ _ _ _ _
        · intro k _ hk
          simp only [property_isName_L0, lt_t hk, cond_true, sidx_nat hk, some_bind, pv_bind, wi_succ (k := k) (by omega)]
          generalize (s[k].toNat : Int) = t
          unfold nameCh
          generalize decide (65 ≤ t) = p1; generalize decide (t ≤ 90) = p2; generalize decide (97 ≤ t) = p3; generalize decide (t ≤ 122) = p4; generalize decide (48 ≤ t) = p5; generalize decide (t ≤ 57) = p6; generalize decide (t = 95) = p7
          cases p1 <;> cases p2 <;> cases p3 <;> cases p4 <;> cases p5 <;> cases p6 <;> cases p7 <;> rfl
        · intro _
          simp only [property_isName_L0, lt_f (Nat.le_refl _), cond_false]
      have h3 : decide (32 < (s.length : Int)) = false := by simp; omega
      have e0 : ((0 : Nat) : Int) = 0 := rfl
      rw [e0] at hl
      simp only [h1, h3, Bool.or_self, cond_false, hl, some_bind, isNm, h2, decide_true, Bool.not_false, Bool.true_and, Bool.not_eq_true] 
      cases s.all (fun b => nameCh (b.toNat : Int)) <;> simp [h1]
    · have h3 : decide (32 < (s.length : Int)) = true := by simp; omega
      simp [h3, isNm, h2]

theorem Named_eq (s : Str) : ref10_Named s = some (isNm s) := by
  unfold ref10_Named
  rw [pv_bind]
  by_cases h1 : s = []
  · subst h1; simp [isNm]
  · have hpos : 0 < s.length := by cases s; exact absurd rfl h1; simp
    by_cases h2 : s.length ≤ 32
    · have hl : loopM (fun (x : Int) => ref10_Named_L0 s x) ((0 : Nat) : Int) = some (if s.all (fun b => nameCh (b.toNat : Int)) then .inl () else .inr false) := by
        rw [loop_list0 (B := Unit) s (fun k _ => (k : Int)) (fun _ x _ => if nameCh (x.toNat : Int) then some (.next ()) else some (.done (.inr false))) (fun _ => .inl ()) ?_ ?_ ()]
        · exact runL_all _ _ _ _ _
        · intro k _ hk
          simp only [ref10_Named_L0, lt_t hk, cond_true, sidx_nat hk, some_bind, pv_bind, wi_succ (k := k) (by omega)]
          generalize (s[k].toNat : Int) = t
          unfold nameCh
          generalize decide (65 ≤ t) = p1; generalize decide (t ≤ 90) = p2; generalize decide (97 ≤ t) = p3; generalize decide (t ≤ 122) = p4; generalize decide (48 ≤ t) = p5; generalize decide (t ≤ 57) = p6; generalize decide (t = 95) = p7
          cases p1 <;> cases p2 <;> cases p3 <;> cases p4 <;> cases p5 <;> cases p6 <;> cases p7 <;> rfl
        · intro _
          simp only [ref10_Named_L0, lt_f (Nat.le_refl _), cond_false]
      have h3 : decide (32 < (s.length : Int)) = false := by simp; omega
      have h4 : decide ((s.length : Int) < 1) = false := by simp; omega
      have h5 : (s == []) = false := by simpa using h1
      have e0 : ((0 : Nat) : Int) = 0 := rfl
      rw [e0] at hl
      simp only [h3, h4, Bool.or_self, cond_false, hl, some_bind, isNm, h2, decide_true, h5, Bool.not_false, Bool.true_and]
      cases s.all (fun b => nameCh (b.toNat : Int)) <;> simp
    · have h3 : decide (32 < (s.length : Int)) = true := by simp; omega
      simp [h3, isNm, h2]

theorem isNm_ne {s : Str} (h : isNm s = true) : s ≠ [] := by
  intro e; subst e; simp [isNm] at h

/-! ## The lists of names -/
/-- No name is among those before it, and each is a name. -/
def namesOk : List Str → List Str → Bool
  | _, [] => true
  | seen, x :: xs => !decide (x ∈ seen) && isNm x && namesOk (seen ++ [x]) xs

theorem mhas_keys {κ ν : Type} [DecidableEq κ] (m : List (κ × ν)) (k : κ) : mhas m k = true ↔ k ∈ m.map Prod.fst := by
  induction m with
  | nil => simp [mhas, mget]
  | cons p m ih =>
    obtain ⟨k', v⟩ := p
    simp only [mhas, mget, List.map_cons, List.mem_cons] at ih ⊢
    by_cases e : k = k'
    · simp [e]
    · simp only [e, if_false, ih, false_or]
theorem mput_keys {κ ν : Type} [DecidableEq κ] {m : List (κ × ν)} {k : κ} (h : mhas m k = false) (v : ν) : mput m k v = m ++ [(k, v)] := by
  induction m with
  | nil => rfl
  | cons p m ih =>
    obtain ⟨k', v'⟩ := p
    simp only [mhas, mget, mput] at h ih ⊢
    by_cases e : k = k'
    · simp [e] at h
    · simp only [e, if_false] at h ⊢
      rw [ih h]; rfl

def nmOk (l : List Str) : Bool := decide (0 < l.length) && decide (l.length ≤ 250) && namesOk [] l

theorem index_eq (l : List Str) (hl : l.length ≤ 9223372036854775807) : property_index l = some (nmOk l) := by
  unfold property_index
  rw [pv_bind]
  by_cases h1 : l.length = 0
  · have : l = [] := List.eq_nil_of_length_eq_zero h1
    subst this; rfl
  · have h1' : decide ((l.length : Int) = 0) = false := by simp; exact fun e => h1 (by simp [e])
    by_cases h2 : l.length ≤ 250
    · have h3 : decide (250 < (l.length : Int)) = false := by simp; omega
      have hval : ∀ (xs : List Str) (k : Nat) (m : List (Str × Int)), (runL (fun (k : Nat) (x : Str) (m : List (Str × Int)) => if mhas m x || !isNm x then some (.done (Sum.inr false)) else some (Stp.next (mput m x (k : Int)))) (fun m => (Sum.inl m : List (Str × Int) ⊕ Bool)) xs k m).bind (fun y => Sum.elim (fun _ => some true) (fun y => some y) y) = some (namesOk (m.map Prod.fst) xs) := by
        intro xs
        induction xs with
        | nil => intro k m; rfl
        | cons x xs ih =>
          intro k m
          simp only [runL, namesOk]
          by_cases hm : mhas m x = true
          · have hm2 := hm
            rw [mhas_keys] at hm2
            simp [hm, hm2]
          · by_cases hn : isNm x = true
            · have hm' : mhas m x = false := by simpa using hm
              have := ih (k + 1) (mput m x (k : Int))
              rw [mput_keys hm'] at this ⊢
              simp only [hm', hn, Bool.not_true, Bool.or_self, Bool.false_eq_true, if_false]
              have hm2 := hm
              rw [mhas_keys] at hm2
              rw [this]
              simp [hm2]
            · simp [hm, hn]
      have hl2 : loopM (fun (x : Int × (List (Str × Int))) => property_index_L0 l x.1 x.2) (((0 : Nat) : Int), []) = runL (fun (k : Nat) (x : Str) (m : List (Str × Int)) => if mhas m x || !isNm x then some (.done (Sum.inr false)) else some (Stp.next (mput m x (k : Int)))) (fun m => (Sum.inl m : List (Str × Int) ⊕ Bool)) l 0 [] := by
        refine loop_list0 l (fun k (m : List (Str × Int)) => ((k : Int), m)) _ _ ?_ ?_ []
        · intro k m hk
          simp only [property_index_L0, lt_t hk, cond_true, idx_nat hk, some_bind, pv_bind, isName_eq, wi_succ (k := k) (by omega)]
          cases hm : mhas m l[k] with
          | true => simp [gM_f]
          | false => simp only [Bool.not_false, gM_t, some_bind]; cases isNm l[k] <;> simp
        · intro m
          simp only [property_index_L0, lt_f (Nat.le_refl _), cond_false]
      have e0 : ((0 : Nat) : Int) = 0 := rfl
      rw [e0] at hl2
      simp only [h1', h3, Bool.or_self, cond_false, hl2]
      rw [hval l 0 []]
      simp [nmOk, h2, Nat.pos_of_ne_zero h1]
    · have h3 : decide (250 < (l.length : Int)) = true := by simp; omega
      simp [h1', h3, nmOk, h2]
end Go.M

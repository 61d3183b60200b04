/- The layer of abstract values: what a temporary holds, said once; every rule of it is proved from the model. Conditions: none. -/
set_option linter.unusedSimpArgs false
set_option linter.unusedVariables false
set_option linter.unnecessarySimpa false
/-! Plain counterparts of the program's operations: what may fail is 'none'. -/
namespace Go.M

abbrev Str := List UInt8

/-- The element at i. -/
def idx {α : Type} (l : List α) (i : Int) : Option α := if 0 ≤ i then l[i.toNat]? else none
/-- The list with x at i. -/
def setM {α : Type} (l : List α) (i : Int) (x : α) : Option (List α) := if 0 ≤ i ∧ i.toNat < l.length then some (l.set i.toNat x) else none
def slc {α : Type} (l : List α) (lo hi : Int) : Option (List α) := if 0 ≤ lo ∧ lo ≤ hi ∧ hi.toNat ≤ l.length then some ((l.take hi.toNat).drop lo.toNat) else none
/-- The greatest length that is dealt with. -/
def LIM : Nat := 4294967296
def app {α : Type} (l m : List α) : Option (List α) := if l.length + m.length ≤ LIM then some (l ++ m) else none
def mkM {α : Type} (z : α) (n : Int) : Option (List α) := if 0 ≤ n ∧ n.toNat ≤ LIM then some (List.replicate n.toNat z) else none
def gM {α : Type} [Inhabited α] (g : Bool) (m : Option α) : Option α := cond g m (some default)
def pv {α : Type} (x : α) : Option α := some x
def divM (k : Int → Int) (a b : Int) : Option Int := if b = 0 then none else some (k (a.tdiv b))
def remM (a b : Int) : Option Int := if b = 0 then none else some (a.tmod b)
/-- A byte of a string. -/
def sidx (s : Str) (i : Int) : Option Int := (idx s i).map fun b => (b.toNat : Int)

/-! ## Maps: entries in the order in which the keys came -/
def mget {κ ν : Type} [DecidableEq κ] (m : List (κ × ν)) (k : κ) : Option ν := match m with
  | [] => none
  | (k', v) :: r => if k = k' then some v else mget r k
def mput {κ ν : Type} [DecidableEq κ] (m : List (κ × ν)) (k : κ) (v : ν) : List (κ × ν) := match m with
  | [] => [(k, v)]
  | (k', v') :: r => if k = k' then (k, v) :: r else (k', v') :: mput r k v
def mgetD {κ ν : Type} [DecidableEq κ] (m : List (κ × ν)) (k : κ) (z : ν) : ν := (mget m k).getD z
def mhas {κ ν : Type} [DecidableEq κ] (m : List (κ × ν)) (k : κ) : Bool := (mget m k).isSome

/-! ## Loops -/
inductive Stp (X Y : Type) where
  | next (x : X)
  | done (y : Y)

def iter {X Y : Type} (body : X → Option (Stp X Y)) : Nat → X → Option Y
  | 0, _ => none
  | n + 1, x => match body x with
    | none => none
    | some (.next x') => iter body n x'
    | some (.done y) => some y

theorem iter_mono {X Y : Type} {body : X → Option (Stp X Y)} {y : Y} : ∀ {n m : Nat} {x : X}, n ≤ m → iter body n x = some y → iter body m x = some y := by
  intro n
  induction n with
  | zero => intro m x _ h; cases h
  | succ n ih =>
    intro m x hm h
    cases m with
    | zero => omega
    | succ m =>
      simp only [iter] at h ⊢
      cases hb : body x with
      | none => rw [hb] at h; cases h
      | some s =>
        rw [hb] at h
        cases s with
        | next x' => exact ih (by omega) h
        | done y' => exact h

open Classical in
noncomputable def loopM {X Y : Type} (body : X → Option (Stp X Y)) (x : X) : Option Y :=
  if h : ∃ n y, iter body n x = some y then some (Classical.choose (Classical.choose_spec h)) else none

theorem loopM_some {X Y : Type} {body : X → Option (Stp X Y)} {x : X} {y : Y} : loopM body x = some y ↔ ∃ n, iter body n x = some y := by
  unfold loopM
  constructor
  · intro h
    split at h
    · rename_i hx
      have := Classical.choose_spec (Classical.choose_spec hx)
      cases h
      exact ⟨_, this⟩
    · cases h
  · rintro ⟨n, hn⟩
    have hx : ∃ n y, iter body n x = some y := ⟨n, y, hn⟩
    rw [dif_pos hx]
    have h2 := Classical.choose_spec (Classical.choose_spec hx)
    have h3 := iter_mono (Nat.le_max_left (Classical.choose hx) n) h2
    have h4 := iter_mono (Nat.le_max_right (Classical.choose hx) n) hn
    rw [h3] at h4
    exact h4

/-- One round. -/
theorem loopM_eq {X Y : Type} (body : X → Option (Stp X Y)) (x : X) : loopM body x = match body x with
    | none => none
    | some (.next x') => loopM body x'
    | some (.done y) => some y := by
  apply Option.ext
  intro y
  rw [loopM_some]
  constructor
  · rintro ⟨n, hn⟩
    cases n with
    | zero => cases hn
    | succ n =>
      simp only [iter] at hn
      cases hb : body x with
      | none => rw [hb] at hn; cases hn
      | some s =>
        rw [hb] at hn
        cases s with
        | next x' => exact loopM_some.2 ⟨n, hn⟩
        | done y' => exact hn
  · intro h
    cases hb : body x with
    | none => rw [hb] at h; cases h
    | some s =>
      rw [hb] at h
      cases s with
      | next x' =>
        obtain ⟨n, hn⟩ := loopM_some.1 h
        exact ⟨n + 1, by simp only [iter, hb]; exact hn⟩
      | done y' => exact ⟨1, by simp only [iter, hb]; exact h⟩

/-- A loop, by states that a measure takes down. -/
theorem loopM_fam {X Y ι : Type} {body : X → Option (Stp X Y)} (T : ι → X) (pre : ι → Prop) (μ : ι → Nat) (Q : Y → Prop)
    (step : ∀ i, pre i → (∃ y, body (T i) = some (.done y) ∧ Q y) ∨ ∃ j, body (T i) = some (.next (T j)) ∧ pre j ∧ μ j < μ i) :
    ∀ i, pre i → ∃ y, loopM body (T i) = some y ∧ Q y := by
  have key : ∀ n i, μ i < n → pre i → ∃ y, loopM body (T i) = some y ∧ Q y := by
    intro n
    induction n with
    | zero => intro i h; omega
    | succ n ih =>
      intro i hn hp
      rw [loopM_eq]
      rcases step i hp with ⟨y, hy, hq⟩ | ⟨j, hj, hpj, hlt⟩
      · rw [hy]; exact ⟨y, rfl, hq⟩
      · rw [hj]; exact ih j (by omega) hpj
  exact fun i hp => key _ i (Nat.lt_succ_self _) hp

theorem bE {α β : Type} {o : Option α} {f : α → Option β} {b : β} (h : o.bind f = some b) : ∃ a, o = some a ∧ f a = some b := Option.bind_eq_some_iff.1 h
theorem cT {α : Type} {c : Bool} {A B : Option α} {r : Option α} (hc : c = true) (h : cond c A B = r) : A = r := by subst hc; exact h
theorem cF {α : Type} {c : Bool} {A B : Option α} {r : Option α} (hc : c = false) (h : cond c A B = r) : B = r := by subst hc; exact h

theorem eL {α β γ : Type} {f : α → γ} {g : β → γ} {y : α} {r : γ} (h : Sum.elim f g (Sum.inl y) = r) : f y = r := h
theorem eR {α β γ : Type} {f : α → γ} {g : β → γ} {y : β} {r : γ} (h : Sum.elim f g (Sum.inr y) = r) : g y = r := h

end Go.M

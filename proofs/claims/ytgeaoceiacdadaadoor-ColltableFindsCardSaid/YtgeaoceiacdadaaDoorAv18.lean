/- The layer of abstract values: what a temporary holds, said once; every rule of it is proved from the model. Conditions: none. -/
import Derived.Test.YtgeaoceiacdadaaDoorAv17
set_option linter.unusedSimpArgs false
set_option linter.unusedVariables false
set_option linter.unnecessarySimpa false
namespace Go.AV
open Go.RowKit

/-! ## Calling a function with a general contract -/

def Cap.ren (σ : List (Nat × Nat)) : Cap → Cap
  | .ptr i o => .ptr (look 0 σ i) o
  | .row i => .row (look 0 σ i)
  | c => c
def AV.ren (σ : List (Nat × Nat)) : AV → AV
  | .row i => .row (look 0 σ i)
  | .ptr i o => .ptr (look 0 σ i) o
  | .rs i o n => .rs (look 0 σ i) o n
  | .wp i o => .wp (look 0 σ i) o
  | .ws i o n tt => .ws (look 0 σ i) o n tt
  | .cond g x => .cond g (x.ren σ)
  | .clo f caps => .clo f (caps.map (Cap.ren σ))
  | .tupc caps => .tupc (caps.map (Cap.ren σ))
  | .aggc caps => .aggc (caps.map (Cap.ren σ))
  | x => x
def Blk.ren (σ : List (Nat × Nat)) : Blk → Blk
  | .box e cells => .box e (cells.map (AV.ren σ))
  | b => b
def renL (σ : List (Nat × Nat)) (T : List (Nat × Blk)) : List (Nat × Blk) := T.map fun p => (look 0 σ p.1, p.2.ren σ)

def inDom (σ : List (Nat × Nat)) (k : Nat) : Bool := σ.any fun p => Nat.beq p.1 k
def Cap.idsLt (σ : List (Nat × Nat)) : Cap → Bool
  | .ptr i _ => inDom σ i
  | .row i => inDom σ i
  | _ => true
def AV.idsLt (σ : List (Nat × Nat)) : AV → Bool
  | .row i => inDom σ i
  | .ptr i _ => inDom σ i
  | .rs i _ _ => inDom σ i
  | .wp i _ => inDom σ i
  | .ws i _ _ _ => inDom σ i
  | .cond _ x => x.idsLt σ
  | .clo _ caps => caps.all (Cap.idsLt σ)
  | .tupc caps => caps.all (Cap.idsLt σ)
  | .aggc caps => caps.all (Cap.idsLt σ)
  | _ => true
def Blk.idsLt (σ : List (Nat × Nat)) : Blk → Bool
  | .box _ cells => cells.all (AV.idsLt σ)
  | _ => true

section
variable {w : World} {I : Im}

theorem HoldsC.ren {σ : List (Nat × Nat)} {ρ ρ' : Nat → Value} {v : Value} {c : Cap} (hρ : ∀ k, inDom σ k = true → ρ' (look 0 σ k) = ρ k) (hn : c.idsLt σ = true) : HoldsC w I ρ v c ↔ HoldsC w I ρ' v (c.ren σ) := by
  cases c with
  | top => exact Iff.rfl
  | d x => exact Iff.rfl
  | ptr i o =>
    have : inDom σ i = true := hn
    simp only [HoldsC, Cap.ren, hρ i this]
  | row i =>
    have : inDom σ i = true := hn
    simp only [HoldsC, Cap.ren, hρ i this]
theorem pw_map_right {α β γ : Type} {R : α → β → Prop} {R' : α → γ → Prop} {f : β → γ} {xs : List α} {ys : List β} (h : ∀ x y, y ∈ ys → (R x y ↔ R' x (f y))) : Pw R xs ys ↔ Pw R' xs (ys.map f) := by
  constructor
  · rintro ⟨h1, h2⟩
    refine ⟨by simpa using h1, fun j x y hx hy => ?_⟩
    rw [List.getElem?_map] at hy
    cases hc : ys[j]? with
    | none => simp [hc] at hy
    | some y' => simp [hc] at hy; subst hy; exact (h x y' (List.mem_of_getElem? hc)).1 (h2 j x y' hx hc)
  · rintro ⟨h1, h2⟩
    refine ⟨by simpa using h1, fun j x y hx hy => ?_⟩
    exact (h x y (List.mem_of_getElem? hy)).2 (h2 j x (f y) hx (by simp [hy]))
theorem HoldsC.renL {σ : List (Nat × Nat)} {ρ ρ' : Nat → Value} (hρ : ∀ k, inDom σ k = true → ρ' (look 0 σ k) = ρ k) {xs : List Value} {cs : List Cap} (hn : cs.all (Cap.idsLt σ) = true) : Pw (HoldsC w I ρ) xs cs ↔ Pw (HoldsC w I ρ') xs (cs.map (Cap.ren σ)) :=
  pw_map_right fun x y hy => HoldsC.ren hρ (List.all_eq_true.1 hn y hy)
theorem Holds.ren {σ : List (Nat × Nat)} {ρ ρ' : Nat → Value} (hρ : ∀ k, inDom σ k = true → ρ' (look 0 σ k) = ρ k) {v : Value} : ∀ {x : AV}, x.idsLt σ = true → (Holds w I ρ v x ↔ Holds w I ρ' v (x.ren σ)) := by
  intro x
  induction x with
  | row i => intro hn; have : inDom σ i = true := hn
             simp only [Holds, AV.ren, hρ i this]
  | ptr i o => intro hn; have : inDom σ i = true := hn
               simp only [Holds, AV.ren, hρ i this]
  | rs i o m => intro hn; have : inDom σ i = true := hn
                simp only [Holds, AV.ren, hρ i this]
  | wp i o => intro hn; have : inDom σ i = true := hn
              simp only [Holds, AV.ren, hρ i this]
  | ws i o m tt => intro hn; have : inDom σ i = true := hn
                   simp only [Holds, AV.ren, hρ i this]
  | cond g x ih => intro hn; simp only [Holds, AV.ren, ih hn]
  | clo f caps => intro hn; simp only [Holds, AV.ren]; constructor
                  · rintro ⟨xs, h1, h2⟩; exact ⟨xs, h1, (HoldsC.renL hρ hn).1 h2⟩
                  · rintro ⟨xs, h1, h2⟩; exact ⟨xs, h1, (HoldsC.renL hρ hn).2 h2⟩
  | tupc caps => intro hn; simp only [Holds, AV.ren]; constructor
                 · rintro ⟨xs, h1, h2⟩; exact ⟨xs, h1, (HoldsC.renL hρ hn).1 h2⟩
                 · rintro ⟨xs, h1, h2⟩; exact ⟨xs, h1, (HoldsC.renL hρ hn).2 h2⟩
  | aggc caps => intro hn; simp only [Holds, AV.ren]; constructor
                 · rintro ⟨xs, h1, h2, h3⟩; exact ⟨xs, h1, (HoldsC.renL hρ hn).1 h2, h3⟩
                 · rintro ⟨xs, h1, h2, h3⟩; exact ⟨xs, h1, (HoldsC.renL hρ hn).2 h2, h3⟩
  | top => intro _; exact Iff.rfl
  | d x => intro _; exact Iff.rfl
  | ip c o => intro _; exact Iff.rfl
  | tup ds => intro _; exact Iff.rfl
  | gh k => intro _; exact Iff.rfl

theorem BlkOk.ren {σ : List (Nat × Nat)} {ρ ρ' : Nat → Value} {k : Nat} {M : Nat → Prop} (hρ : ∀ k, inDom σ k = true → ρ' (look 0 σ k) = ρ k) (hk : inDom σ k = true) {x : Blk} (hn : x.idsLt σ = true) : BlkOk w I ρ M k x ↔ BlkOk w I ρ' M (look 0 σ k) (x.ren σ) := by
  cases x with
  | none => exact Iff.rfl
  | row e size sh cells => simp only [BlkOk, Blk.ren, hρ k hk]
  | map es => simp only [BlkOk, Blk.ren, hρ k hk]
  | win e size k' cells => simp only [BlkOk, Blk.ren, hρ k hk]
  | box e cells =>
    simp only [BlkOk, Blk.ren, hρ k hk]
    have : ∀ arr : Array Value, Pw (Holds w I ρ) arr.toList cells ↔ Pw (Holds w I ρ') arr.toList (cells.map (AV.ren σ)) := fun arr =>
      pw_map_right fun x y hy => Holds.ren hρ (List.all_eq_true.1 hn y hy)
    constructor
    · rintro ⟨b, arr, h1, h2, h3, h4, h5, h6⟩; exact ⟨b, arr, h1, h2, h3, h4, (this arr).1 h5, h6⟩
    · rintro ⟨b, arr, h1, h2, h3, h4, h5, h6⟩; exact ⟨b, arr, h1, h2, h3, h4, (this arr).2 h5, h6⟩

/-- What mentions only ids whose values stay. -/
theorem HoldsC.agree {ρ ρ' : Nat → Value} {v : Value} {c : Cap} (h : HoldsC w I ρ v c) (ha : ∀ id, c.mentions id = true → ρ' id = ρ id) : HoldsC w I ρ' v c := by
  cases c with
  | top => trivial
  | d x => exact h
  | ptr i o => simpa only [HoldsC, ha i (by simp [Cap.mentions])] using h
  | row i => simpa only [HoldsC, ha i (by simp [Cap.mentions])] using h
theorem Holds.agree {ρ ρ' : Nat → Value} {v : Value} : ∀ {x : AV}, Holds w I ρ v x → (∀ id, x.mentions id = true → ρ' id = ρ id) → Holds w I ρ' v x := by
  intro x
  induction x with
  | row i => intro h ha; simpa only [Holds, ha i (by simp [AV.mentions])] using h
  | ptr i o => intro h ha; simpa only [Holds, ha i (by simp [AV.mentions])] using h
  | rs i o m => intro h ha; simpa only [Holds, ha i (by simp [AV.mentions])] using h
  | wp i o => intro h ha; simpa only [Holds, ha i (by simp [AV.mentions])] using h
  | ws i o m tt => intro h ha; simpa only [Holds, ha i (by simp [AV.mentions])] using h
  | cond g x ih => intro h ha; exact ⟨fun hg => ih (h.1 hg) (fun id hm => ha id (by simpa [AV.mentions] using hm)), h.2⟩
  | clo f caps =>
    rintro ⟨xs, h1, h2⟩ ha
    exact ⟨xs, h1, h2.1, fun j x c hx hc => (h2.2 j x c hx hc).agree fun id hm => ha id (by simp only [AV.mentions, List.any_eq_true]; exact ⟨c, List.mem_of_getElem? hc, hm⟩)⟩
  | tupc caps =>
    rintro ⟨xs, h1, h2⟩ ha
    exact ⟨xs, h1, h2.1, fun j x c hx hc => (h2.2 j x c hx hc).agree fun id hm => ha id (by simp only [AV.mentions, List.any_eq_true]; exact ⟨c, List.mem_of_getElem? hc, hm⟩)⟩
  | aggc caps =>
    rintro ⟨xs, h1, h2, h3⟩ ha
    exact ⟨xs, h1, ⟨h2.1, fun j x c hx hc => (h2.2 j x c hx hc).agree fun id hm => ha id (by simp only [AV.mentions, List.any_eq_true]; exact ⟨c, List.mem_of_getElem? hc, hm⟩)⟩, h3⟩
  | top => intro h _; exact h
  | d x => intro h _; exact h
  | ip c o => intro h _; exact h
  | tup ds => intro h _; exact h
  | gh k => intro h _; exact h
end

def killAVs (ks : List Nat) (x : AV) : AV := if ks.any (fun k => x.mentions k) then .top else x
def killBlks (ks : List Nat) : Blk → Blk
  | .box e cells => .box e (cells.map (killAVs ks))
  | b => b
def AState.killL (S : AState) (ks : List Nat) : AState :=
  { tmps := S.tmps.map fun p => (p.1, killAVs ks p.2), blks := S.blks.map fun p => (p.1, killBlks ks p.2) }
theorem get_killL (S : AState) (ks : List Nat) (t : Nat) : (S.killL ks).get t = killAVs ks (S.get t) := look_map _ _ (by simp [killAVs, AV.mentions]) _ _
theorem blk_killL (S : AState) (ks : List Nat) (i : Nat) : (S.killL ks).blk i = killBlks ks (S.blk i) := look_map _ _ rfl _ _

theorem killAVs_holds {w : World} {I : Im} {ρ ρ' : Nat → Value} {ks : List Nat} {v : Value} {x : AV} (h : Holds w I ρ v x) (ha : ∀ id, ks.contains id = false → ρ' id = ρ id) : Holds w I ρ' v (killAVs ks x) := by
  unfold killAVs
  split
  · trivial
  · rename_i hm
    refine h.agree fun id hid => ha id ?_
    cases hc : ks.contains id with
    | false => rfl
    | true =>
      exfalso; apply hm
      simp only [List.any_eq_true]
      exact ⟨id, by simpa using hc, hid⟩

theorem gh_killL (ks : List Nat) (x : AV) : (match killAVs ks x with | .gh k => k | _ => 0) = (match x with | .gh k => k | _ => 0) := by
  unfold killAVs
  by_cases h : (ks.any fun k => x.mentions k) = true
  · simp only [h, if_true]
    cases x <;> first | rfl | (simp [AV.mentions] at h)
  · simp only [h]
    rfl

def AState.setL (S : AState) (T : List (Nat × Blk)) : AState := { S with blks := T ++ S.blks }
theorem look_append {α : Type} (dflt : α) (l m : List (Nat × α)) (k : Nat) : look dflt (l ++ m) k = if l.any (fun p => Nat.beq p.1 k) then look dflt l k else look dflt m k := by
  induction l with
  | nil => simp [look]
  | cons p l ih =>
    obtain ⟨i, x⟩ := p
    simp only [List.cons_append, look, List.any_cons]
    by_cases h : Nat.beq i k = true
    · simp [h]
    · have h' : Nat.beq i k = false := Bool.eq_false_iff.2 h
      simp only [h', ih, Bool.false_or]
      simp

/-- The arguments as the callee sees them. -/
def ArgsAs (σ : List (Nat × Nat)) : List AV → List Cap → Prop
  | [], [] => True
  | x :: xs, c :: cs => CapOf x (c.ren σ) ∧ ArgsAs σ xs cs
  | _, _ => False

theorem ArgsAs.holds {w : World} {I : Im} {ρ ρ' : Nat → Value} {σ : List (Nat × Nat)} (hρ : ∀ k, inDom σ k = true → ρ' (look 0 σ k) = ρ k) : ∀ {vs : List Value} {xs : List AV} {cs : List Cap}, ArgsAs σ xs cs → cs.all (Cap.idsLt σ) = true → Pw (Holds w I ρ') vs xs → Pw (HoldsC w I ρ) vs cs := by
  intro vs xs
  induction xs generalizing vs with
  | nil =>
    intro cs h _ hp
    cases cs with
    | nil => exact ⟨hp.1, fun j x y hx hy => by simp at hy⟩
    | cons c cs => exact h.elim
  | cons x xs ih =>
    intro cs h hn hp
    cases cs with
    | nil => exact h.elim
    | cons c cs =>
      cases vs with
      | nil => have := hp.1; simp at this
      | cons v vs =>
        simp only [List.all_cons, Bool.and_eq_true] at hn
        refine Pw.cons ((HoldsC.ren hρ hn.1).2 (h.1.holds (hp.2 0 v x rfl rfl))) (ih h.2 hn.2 ⟨by have := hp.1; simpa using this, fun j a b ha hb => hp.2 (j + 1) a b (by simpa using ha) (by simpa using hb)⟩)

/-- The callee's blocks are the caller's. -/
def BlksAs (S : AState) (σ : List (Nat × Nat)) : List (Nat × Blk) → Prop
  | [] => True
  | (k, x) :: T => S.blk (look 0 σ k) = x.ren σ ∧ BlksAs S σ T

theorem BlksAs.look {S : AState} {σ : List (Nat × Nat)} : ∀ {T : List (Nat × Blk)}, BlksAs S σ T → ∀ k, look Blk.none T k ≠ .none → S.blk (look 0 σ k) = (look Blk.none T k).ren σ
  | [], _, k, h => absurd rfl h
  | (i, x) :: T, h, k, hk => by
    rw [look_cons] at hk ⊢
    by_cases e : i = k
    · subst e; simp only [if_true]; exact h.1
    · simp only [e, if_false] at hk ⊢; exact BlksAs.look h.2 k hk

def retAVc : List Cap → AV
  | [c] => c.av
  | cs => .tupc cs

theorem ren_ne {σ : List (Nat × Nat)} {x : Blk} : x.ren σ ≠ .none ↔ x ≠ .none := by cases x <;> simp [Blk.ren]

/-- Which of the caller's ids lose what is known of their values. -/
def lost (σ : List (Nat × Nat)) (keep : List Nat) (T' : List (Nat × Blk)) : List Nat :=
  σ.filterMap fun q => if keep.contains q.1 && T'.any (fun p => Nat.beq p.1 q.1) then none else some q.2

/-- The blocks of the callee that are no more. -/
def gone (σ : List (Nat × Nat)) (T T' : List (Nat × Blk)) : List (Nat × Blk) :=
  (T.filter fun p => !T'.any (fun q => Nat.beq q.1 p.1)).map fun p => (look 0 σ p.1, Blk.none)

theorem BlkOk.agree {w : World} {I : Im} {ρ ρ' : Nat → Value} {M : Nat → Prop} {i : Nat} {x : Blk} {ks : List Nat} (h : BlkOk w I ρ M i x) (hi : ρ' i = ρ i) (ha : ∀ id, ks.contains id = false → ρ' id = ρ id) : BlkOk w I ρ' M i (killBlks ks x) := by
  cases x with
  | none => trivial
  | row e size sh cells => simpa only [BlkOk, killBlks, hi] using h
  | map es => simpa only [BlkOk, killBlks, hi] using h
  | win e size k cells => simpa only [BlkOk, killBlks, hi] using h
  | box e cells =>
    obtain ⟨b, arr, h1, h2, h3, h4, h5, h6⟩ := h
    refine ⟨b, arr, by rw [hi]; exact h1, h2, h3, h4, ⟨by simpa using h5.1, fun j y av hj hav => ?_⟩, h6⟩
    rw [List.getElem?_map] at hav
    cases hc : cells[j]? with
    | none => simp [hc] at hav
    | some av' => simp [hc] at hav; subst hav; exact killAVs_holds (h5.2 j y av' hj hc) ha

theorem kill_ne {ks : List Nat} {x : Blk} : killBlks ks x ≠ .none ↔ x ≠ .none := by cases x <;> simp [killBlks]

structure Ren (σ : List (Nat × Nat)) : Prop where
  keys : (σ.map Prod.fst).Nodup
  vals : (σ.map Prod.snd).Nodup

theorem inDom_mem {σ : List (Nat × Nat)} {k : Nat} (h : inDom σ k = true) : (k, look 0 σ k) ∈ σ := by
  induction σ with
  | nil => simp [inDom] at h
  | cons p σ ih =>
    obtain ⟨i, x⟩ := p
    rw [look_cons]
    by_cases e : i = k
    · subst e; simp
    · simp only [e, if_false]
      have hb : Nat.beq i k = false := Bool.eq_false_iff.2 fun h => e (Nat.eq_of_beq_eq_true h)
      simp only [inDom, List.any_cons, hb, Bool.false_or] at h
      exact List.mem_cons_of_mem _ (ih h)
theorem mem_inDom {σ : List (Nat × Nat)} {k x : Nat} (h : (k, x) ∈ σ) : inDom σ k = true := by
  simp only [inDom, List.any_eq_true]; exact ⟨(k, x), h, by simp [Nat.beq_eq]⟩
theorem mem_look {σ : List (Nat × Nat)} (hσ : (σ.map Prod.fst).Nodup) {k x : Nat} (h : (k, x) ∈ σ) : look 0 σ k = x := by
  induction σ with
  | nil => simp at h
  | cons p σ ih =>
    obtain ⟨i, y⟩ := p
    rw [look_cons]
    simp only [List.map_cons, List.nodup_cons] at hσ
    rcases List.mem_cons.1 h with h | h
    · cases h; simp
    · have : i ≠ k := fun e => hσ.1 (List.mem_map.2 ⟨(k, x), h, e.symm⟩)
      simp only [this, if_false]
      exact ih hσ.2 h
theorem snd_inj {σ : List (Nat × Nat)} (hσ : (σ.map Prod.snd).Nodup) {k k' x : Nat} (h : (k, x) ∈ σ) (h' : (k', x) ∈ σ) : k = k' := by
  induction σ with
  | nil => simp at h
  | cons p σ ih =>
    simp only [List.map_cons, List.nodup_cons] at hσ
    rcases List.mem_cons.1 h with h1 | h1 <;> rcases List.mem_cons.1 h' with h2 | h2
    · rw [← h1] at h2; exact (Prod.mk.inj h2).1.symm
    · exact absurd (List.mem_map.2 ⟨_, h2, by rw [← h1]⟩) hσ.1
    · exact absurd (List.mem_map.2 ⟨_, h1, by rw [← h2]⟩) hσ.1
    · exact ih hσ.2 h1 h2
theorem getD_inj {σ : List (Nat × Nat)} (h : Ren σ) {k k' : Nat} (hk : inDom σ k = true) (hk' : inDom σ k' = true) (e : look 0 σ k = look 0 σ k') : k = k' :=
  snd_inj h.vals (inDom_mem hk) (by rw [e]; exact inDom_mem hk')
theorem getD_mem_idx {σ : List (Nat × Nat)} {k : Nat} (hk : inDom σ k = true) : look 0 σ k ∈ σ.map Prod.snd := List.mem_map.2 ⟨_, inDom_mem hk, rfl⟩
theorem mem_getD {σ : List (Nat × Nat)} (hσ : Ren σ) {i : Nat} (h : i ∈ σ.map Prod.snd) : ∃ k, inDom σ k = true ∧ look 0 σ k = i := by
  obtain ⟨⟨k, x⟩, hk, rfl⟩ := List.mem_map.1 h
  exact ⟨k, mem_inDom hk, mem_look hσ.keys hk⟩

theorem look_renL {σ : List (Nat × Nat)} (hσ : Ren σ) : ∀ {T : List (Nat × Blk)}, (∀ p ∈ T, inDom σ p.1 = true) → ∀ {k : Nat}, inDom σ k = true → look Blk.none (renL σ T) (look 0 σ k) = (look Blk.none T k).ren σ
  | [], _, k, _ => rfl
  | (i, x) :: T, h, k, hk => by
    show look Blk.none ((look 0 σ i, x.ren σ) :: renL σ T) (look 0 σ k) = _
    rw [look_cons, look_cons]
    by_cases e : i = k
    · subst e; simp
    · have : look 0 σ i ≠ look 0 σ k := fun e' => e (getD_inj hσ (h (i, x) (by simp)) hk e')
      simp only [this, e, if_false]
      exact look_renL hσ (fun p hp => h p (by simp [hp])) hk

theorem any_look {T : List (Nat × Blk)} (h : ∀ p ∈ T, p.2 ≠ .none) (k : Nat) : T.any (fun p => Nat.beq p.1 k) = true ↔ look Blk.none T k ≠ .none := by
  induction T with
  | nil => simp [look]
  | cons p T ih =>
    obtain ⟨i, x⟩ := p
    rw [look_cons, List.any_cons]
    by_cases e : i = k
    · subst e; simp [Nat.beq_eq, h (i, x) (by simp)]
    · have : Nat.beq i k = false := Bool.eq_false_iff.2 fun h => e (Nat.eq_of_beq_eq_true h)
      simp only [this, Bool.false_or, e, if_false]
      exact ih fun p hp => h p (by simp [hp])

def Blk.isSome : Blk → Bool
  | .none => false
  | _ => true
def blksOk (σ : List (Nat × Nat)) (T : List (Nat × Blk)) : Bool := T.all fun p => inDom σ p.1 && p.2.idsLt σ && p.2.isSome

theorem blksOk_spec {σ : List (Nat × Nat)} {T : List (Nat × Blk)} (h : blksOk σ T = true) : ∀ p ∈ T, inDom σ p.1 = true ∧ p.2.idsLt σ = true ∧ p.2 ≠ .none := by
  intro p hp
  have := List.all_eq_true.1 h p hp
  simp only [Bool.and_eq_true] at this
  refine ⟨this.1.1, this.1.2, fun e => ?_⟩
  rw [e] at this
  simp [Blk.isSome] at this

theorem look_mem {T : List (Nat × Blk)} {k : Nat} (h : look Blk.none T k ≠ .none) : (k, look Blk.none T k) ∈ T := by
  induction T with
  | nil => exact absurd rfl h
  | cons p T ih =>
    obtain ⟨i, x⟩ := p
    rw [look_cons] at h ⊢
    by_cases e : i = k
    · subst e; simp
    · simp only [e, if_false] at h ⊢; exact List.mem_cons_of_mem _ (ih h)

theorem mem_any {T : List (Nat × Blk)} {p : Nat × Blk} (h : p ∈ T) : T.any (fun q => Nat.beq q.1 p.1) = true := by
  simp only [List.any_eq_true]; exact ⟨p, h, by simp [Nat.beq_eq]⟩

theorem gone_look {σ : List (Nat × Nat)} {T T' : List (Nat × Blk)} (i : Nat) : look Blk.none (gone σ T T') i = .none := by
  unfold gone
  induction (T.filter fun p => !T'.any (fun q => Nat.beq q.1 p.1)) with
  | nil => rfl
  | cons p l ih => rw [List.map_cons, look_cons]; split; rfl; exact ih

/-- Where the caller's ids that are new lie: nowhere. -/
def freshAs (S : AState) (σ : List (Nat × Nat)) (T : List (Nat × Blk)) : Prop := ∀ k, inDom σ k = true → look Blk.none T k = .none → S.blk (look 0 σ k) = .none

section
variable {P : Program} {r : Option Nat} {E : Env} {S : AState} {d : Nat} {ty : TypeId} {pos : String} {af : Array Edge} {g : Option (Nat × Bool)}

theorem s_callG {f : FuncId} {xs : List Operand} {ats : Array TypeId} {args rets : List Cap} {T T' : List (Nat × Blk)} {keep : List Nat} (σ : List (Nat × Nat)) (hn : d < E.n) (hσ : Ren σ)
    (hargs : ArgsAs σ (xs.map S.ev) args) (hal : args.all (Cap.idsLt σ) = true) (hrl : rets.all (Cap.idsLt σ) = true) (hT : BlksAs S σ T) (hTo : blksOk σ T = true) (hTo' : blksOk σ T' = true)
    (hfr : freshAs S σ T) (hnm : ∀ k, inDom σ k = true → E.nm (look 0 σ k) = none ∨ (keep.contains k = true ∧ look Blk.none T k ≠ .none ∧ look Blk.none T' k ≠ .none)) (hc : GC P f args T keep rets T') (hE : E.wrB = true) (hG : E.gdt = gdOf P := by rfl) :
    Step P r E ⟨some d, .call { callee := .value (.func f), args := xs.toArray, argTypes := ats }, ty, pos, af, g⟩ S
      (((S.killL (lost σ keep T')).setL (renL σ T' ++ gone σ T T')).put d ((retAVc rets).ren σ)) := by
  rintro A w K Q ⟨I, ρ, C, hs⟩ hk
  obtain ⟨⟨fn, hf, hname, hbody⟩, hcall⟩ := hc
  have tspec := blksOk_spec hTo
  have tspec' := blksOk_spec hTo'
  let ρc : Nat → Value := fun k => ρ (look 0 σ k)
  have hρ0 : ∀ k, inDom σ k = true → ρ (look 0 σ k) = ρc k := fun _ _ => rfl
  have tin : ∀ k, look Blk.none T k ≠ .none → inDom σ k = true ∧ (look Blk.none T k).idsLt σ = true ∧ S.blk (look 0 σ k) = (look Blk.none T k).ren σ ∧ S.blk (look 0 σ k) ≠ .none := fun k hne => by
    have := tspec _ (look_mem hne)
    have h2 := hT.look k hne
    exact ⟨this.1, this.2.1, h2, by rw [h2]; exact ren_ne.2 hne⟩
  have hfrag : Frag w I ρc T := by
    refine ⟨fun k => ?_, fun k k' b hne h1 h2 hb => ?_⟩
    · by_cases hne : look Blk.none T k = .none
      · rw [hne]; trivial
      · obtain ⟨t1, t2, t3, _⟩ := tin k hne
        have := hs.blks (look 0 σ k)
        rw [t3] at this
        exact ((BlkOk.ren hρ0 t1 t2).2 this).mineM fun _ _ _ _ => trivial
    · obtain ⟨t1, _, _, t4⟩ := tin k h1
      obtain ⟨u1, _, _, u4⟩ := tin k' h2
      exact hs.dist _ _ b (fun e => hne (getD_inj hσ t1 u1 e)) t4 u4 hb
  have hcl := hcall w I ρc (xs.map A.eval) (fun b j hi => (hs.old b j hi).1) (hG ▸ hs.gl) hfrag (ArgsAs.holds hρ0 hargs hal (holds_args hs xs))
  refine ⟨fun f _ => trivial, ?_⟩
  rw [Oper.semAt_eq _ _ _ (by simp)]
  have hrun : (execOp A.eval ⟨some d, .call { callee := .value (.func f), args := xs.toArray, argTypes := ats }, ty, pos, af, g⟩).run P w = .ok (.enter f (xs.map A.eval).toArray) w := by
    simp only [execOp, resolve, Act.eval, Deferred.ofValue]
    have hn1 : ¬ fn.name = "runtime.NumGoroutine" := by simpa using hname
    have hn2 : ¬ fn.body = none := by intro e; simp [e] at hbody
    simp [invoke, callFunc, hf, hn1, hn2, List.map_toArray]
  rw [hrun]
  refine ⟨by simp [fen, Fence.wide], ?_⟩
  show CallsIn Fence.wide 0 P f _ w _
  refine callsIn_wide.2 (hcl.mono ?_)
  rintro e w' ⟨v, I', ρ'c, rfl, hchg, hsame, hsub, hnew, hfrag', hret, hown', hkeep⟩
  let inv : Nat → Nat := fun i => look 0 (σ.map fun p => (p.2, p.1)) i
  let ρ' : Nat → Value := fun i => if i ∈ σ.map Prod.snd then ρ'c (inv i) else ρ i
  have hidx : ∀ k, inDom σ k = true → ρ' (look 0 σ k) = ρ'c k := fun k hk => by
    simp only [ρ', getD_mem_idx hk, if_true]
    congr 1
    refine mem_look (σ := σ.map fun p => (p.2, p.1)) ?_ (List.mem_map.2 ⟨_, inDom_mem hk, rfl⟩)
    rw [List.map_map]
    exact hσ.vals
  have hout : ∀ i, i ∉ σ.map Prod.snd → ρ' i = ρ i := fun i hi => by simp only [ρ', hi, if_false]
  have agree : ∀ id, (lost σ keep T').contains id = false → ρ' id = ρ id := by
    intro id hl
    by_cases hm : id ∈ σ.map Prod.snd
    · obtain ⟨k, hk, rfl⟩ := mem_getD hσ hm
      rw [hidx k hk]
      by_cases hkp : (keep.contains k && T'.any (fun p => Nat.beq p.1 k)) = true
      · simp only [Bool.and_eq_true] at hkp
        exact hkeep k hkp.1 ((any_look (fun p hp => (tspec' p hp).2.2) k).1 hkp.2)
      · exfalso
        have : (lost σ keep T').contains (look 0 σ k) = true := by
          rw [List.contains_iff_mem]
          unfold lost
          rw [List.mem_filterMap]
          exact ⟨_, inDom_mem hk, by rw [if_neg hkp]⟩
        rw [this] at hl; cases hl
    · exact hout id hm
  have ownT : ∀ b, ownedBy T ρc b → ∃ k, inDom σ k = true ∧ look Blk.none T k ≠ .none ∧ S.blk (look 0 σ k) ≠ .none ∧ blockOf (ρ (look 0 σ k)) = some b := by
    rintro b ⟨k, h1, h2⟩
    obtain ⟨t1, _, _, t4⟩ := tin k h1
    exact ⟨k, t1, h1, t4, h2⟩
  have ownMine : ∀ b, ownedBy T ρc b → E.mine b ∧ b < w.heap.size ∧ ¬ C b ∧ ∃ o, w.heap[b]? = some o ∧ isData o = true := by
    intro b hb
    obtain ⟨k, _, _, h3, h4⟩ := ownT b hb
    exact ⟨(hs.blt _ b h3 h4).1, (hs.blt _ b h3 h4).2, hs.cB _ b h3 h4, hs.cellBlk h3 h4⟩
  -- the blocks of the new state
  let S1 := (S.killL (lost σ keep T')).setL (renL σ T' ++ gone σ T T')
  have blkIn : ∀ k, look Blk.none T' k ≠ .none → S1.blk (look 0 σ k) = (look Blk.none T' k).ren σ ∧ inDom σ k = true := by
    intro k hne
    have hm := tspec' _ (look_mem hne)
    refine ⟨?_, hm.1⟩
    show look Blk.none ((renL σ T' ++ gone σ T T') ++ (S.killL (lost σ keep T')).blks) (look 0 σ k) = _
    have ha : (renL σ T').any (fun p => Nat.beq p.1 (look 0 σ k)) = true := by
      simp only [List.any_eq_true]
      exact ⟨(look 0 σ k, (look Blk.none T' k).ren σ), List.mem_map.2 ⟨_, look_mem hne, rfl⟩, by simp [Nat.beq_eq]⟩
    rw [List.append_assoc, look_append, if_pos ha, look_renL hσ (fun p hp => (tspec' p hp).1) hm.1]
  have blkOut : ∀ i, S1.blk i ≠ .none → (∃ k, inDom σ k = true ∧ look Blk.none T' k ≠ .none ∧ i = look 0 σ k) ∨ (i ∉ σ.map Prod.snd ∧ S1.blk i = killBlks (lost σ keep T') (S.blk i) ∧ S.blk i ≠ .none) := by
    intro i hne
    by_cases hm : i ∈ σ.map Prod.snd
    · obtain ⟨k, hk, rfl⟩ := mem_getD hσ hm
      by_cases hk' : look Blk.none T' k = .none
      · exfalso
        apply hne
        show look Blk.none ((renL σ T' ++ gone σ T T') ++ (S.killL (lost σ keep T')).blks) (look 0 σ k) = _
        rw [List.append_assoc, look_append]
        split
        · rw [look_renL hσ (fun p hp => (tspec' p hp).1) hk, hk']; rfl
        · rw [look_append]
          split
          · exact gone_look _
          · rename_i hg
            show (S.killL (lost σ keep T')).blk (look 0 σ k) = _
            rw [blk_killL]
            by_cases hkT : look Blk.none T k = .none
            · rw [hfr k hk hkT]; rfl
            · exfalso
              apply hg
              simp only [List.any_eq_true]
              refine ⟨(look 0 σ k, Blk.none), List.mem_map.2 ⟨(k, look Blk.none T k), List.mem_filter.2 ⟨look_mem hkT, ?_⟩, rfl⟩, by simp [Nat.beq_eq]⟩
              cases hx : T'.any (fun q => Nat.beq q.1 k) with
              | false => simp [hx]
              | true => exact absurd hk' ((any_look (fun p hp => (tspec' p hp).2.2) k).1 hx)
      · exact .inl ⟨k, hk, hk', rfl⟩
    · have hb : S1.blk i = killBlks (lost σ keep T') (S.blk i) := by
        show look Blk.none ((renL σ T' ++ gone σ T T') ++ (S.killL (lost σ keep T')).blks) i = _
        have h1 : (renL σ T' ++ gone σ T T').any (fun p => Nat.beq p.1 i) = false := by
          rw [List.any_eq_false]
          intro p hp
          have : p.1 ∈ σ.map Prod.snd := by
            rcases List.mem_append.1 hp with hp | hp
            · obtain ⟨q, hq, rfl⟩ := List.mem_map.1 hp; exact getD_mem_idx (tspec' q hq).1
            · obtain ⟨q, hq, rfl⟩ := List.mem_map.1 hp; exact getD_mem_idx (tspec q (List.mem_filter.1 hq).1).1
          simp only [Nat.beq_eq]
          intro e; exact hm (e ▸ this)
        rw [look_append, h1]
        exact blk_killL _ _ _
      exact .inr ⟨hm, hb, by rw [hb] at hne; exact kill_ne.1 hne⟩
  have oldOut : ∀ i b, i ∉ σ.map Prod.snd → S.blk i ≠ .none → blockOf (ρ i) = some b → ¬ ownedBy T ρc b := by
    intro i b hm hne hb ho
    obtain ⟨k, hk, _, h3, h4⟩ := ownT b ho
    exact hs.dist i (look 0 σ k) b (fun e => hm (e ▸ getD_mem_idx hk)) hne h3 hb h4
  have sat1 : SatAt E S1 A w' I' ρ' C := by
    refine ⟨fun t => ?_, fun i => ?_, fun i i' b hne hi hi' hb => ?_, ?_, fun b j hi => hsub b j (hs.sub b j hi), fun b j hi => ⟨(hnew b j hi).1, ?_⟩, hs.size, hs.defers.keep fun q hq => ?_, fun b j hi => ?_, fun i b hi hb => ?_, fun i u hu hi => ?_⟩
    · show Holds w' I' ρ' _ ((S.killL (lost σ keep T')).get t)
      rw [get_killL]
      exact killAVs_holds ((hs.tmps t).mono hsame hsub) agree
    · by_cases hne : S1.blk i = .none
      · rw [hne]; trivial
      · rcases blkOut i hne with ⟨k, hk, hk', rfl⟩ | ⟨hm, hb, hne'⟩
        · rw [(blkIn k hk').1]
          have hm := tspec' _ (look_mem hk')
          refine ((BlkOk.ren (M := fun _ => True) hidx hk hm.2.1).1 (hfrag'.ok k)).mineM fun b _ hbo _ => ?_
          rw [hidx k hk] at hbo
          rcases (hown' b ⟨k, hk', hbo⟩).2 with h1 | h1
          · exact E.mineB b (Nat.le_trans (E.size _ _ _ hs.frame) h1)
          · exact (ownMine b h1).1
        · rw [hb]
          refine BlkOk.agree ?_ (hout i hm) agree
          refine ((hs.blks i).mono hsame fun b hbo => hchg.block b (hs.blt i b hne' hbo).2 (oldOut i b hm hne' hbo)).widenI hsub fun b j _ hbo hi => ?_
          rcases (hnew b j hi).2 with h1 | h1 | h1
          · exact h1
          · have := (hs.blt i b hne' hbo).2; omega
          · exact absurd h1 (oldOut i b hm hne' hbo)
    · rcases blkOut i hi with ⟨k, hk, hk', rfl⟩ | ⟨hm, hbk, hne'⟩
      · rw [hidx k hk] at hb
        rcases blkOut i' hi' with ⟨k2, hk2, hk2', rfl⟩ | ⟨hm2, hbk2, hne2'⟩
        · rw [hidx k2 hk2]
          exact hfrag'.dist k k2 b (fun e => hne (by rw [e])) hk' hk2' hb
        · rw [hout i' hm2]
          intro hb2
          rcases (hown' b ⟨k, hk', hb⟩).2 with h1 | h1
          · have := (hs.blt i' b hne2' hb2).2; omega
          · exact oldOut i' b hm2 hne2' hb2 h1
      · rw [hout i hm] at hb
        rcases blkOut i' hi' with ⟨k2, hk2, hk2', rfl⟩ | ⟨hm2, hbk2, hne2'⟩
        · rw [hidx k2 hk2]
          intro hb2
          rcases (hown' b ⟨k2, hk2', hb2⟩).2 with h1 | h1
          · have := (hs.blt i b hne' hb).2; omega
          · exact oldOut i b hm hne' hb h1
        · rw [hout i' hm2]
          exact hs.dist i i' b hne hne' hne2' hb
    · have hgh : S1.ghost = S.ghost := by
        unfold AState.ghost
        show (match (S.killL (lost σ keep T')).get GT with | .gh k => k | _ => 0) = _
        rw [get_killL]
        exact gh_killL _ _
      rw [hgh]
      exact E.wr hE _ _ _ _ _ hs.frame hchg (fun b hb => ⟨(ownMine b hb).1, (ownMine b hb).2.2⟩) (fun b j hi => hsame b j (hs.sub b j hi))
    · rcases (hnew b j hi).2 with h1 | h1 | h1
      · exact (hs.old b j h1).2
      · exact .inr (E.mineB b (Nat.le_trans (E.size _ _ _ hs.frame) h1))
      · exact .inr (ownMine b h1).1
    · refine (hchg.block q (Array.getElem?_eq_some_iff.1 hq).1 fun ho => ?_).trans hq
      obtain ⟨o, h1, h2⟩ := (ownMine q ho).2.2.2
      rw [hq] at h1; cases h1; cases h2
    · rcases (hnew b j hi).2 with h1 | h1 | h1
      · exact hs.cI b j h1
      · intro hc; have := E.csize _ _ _ hs.frame _ hc; omega
      · exact (ownMine b h1).2.2.1
    · rcases blkOut i hi with ⟨k, hk, hk', rfl⟩ | ⟨hm, hbk, hne'⟩
      · rw [hidx k hk] at hb
        rcases (hown' b ⟨k, hk', hb⟩).2 with h1 | h1
        · intro hc; have := E.csize _ _ _ hs.frame _ hc; omega
        · exact (ownMine b h1).2.2.1
      · rw [hout i hm] at hb; exact hs.cB i b hne' hb
    · rcases blkOut i hi with ⟨k, hk, hk', rfl⟩ | ⟨hm, hbk, hne'⟩
      · rcases hnm k hk with h0 | ⟨h1, h2, h3⟩
        · rw [h0] at hu; cases hu
        · rw [hidx k hk, hkeep k h1 h3]
          exact hs.nm _ u hu (tin k h2).2.2.2
      · rw [hout i hm]; exact hs.nm i u hu hne'
  refine hk _ _ ⟨I', ρ', C, sat1.put hn ?_⟩
  match rets, hret, hrl with
  | [], ⟨ys, h1, h2⟩, _ => exact ⟨ys, h1, (HoldsC.renL hidx (cs := []) rfl).1 h2⟩
  | [x], h, hl =>
    have hx : x.idsLt σ = true := by simpa using hl
    have := Cap.holds ((HoldsC.ren hidx hx).1 h)
    cases x <;> exact this
  | x :: y :: zs, ⟨ys, h1, h2⟩, hl => exact ⟨ys, h1, (HoldsC.renL hidx hl).1 h2⟩
end
end Go.AV

/- The layer of abstract values: what a temporary holds, said once; every rule of it is proved from the model. Conditions: none. -/
import Derived.WalkKit
import Derived.TacticsIn
import Derived.OrdersIn
import Derived.RangeFuncLeaves
import Derived.Deep.AppendLies
import Derived.Below
set_option linter.unusedSimpArgs false
set_option linter.unusedVariables false
set_option linter.unnecessarySimpa false
namespace Go.AV
open Go.RowKit

/-! ## Data and abstract values -/

inductive DV where
  | v (u : Value)
  | sl (size : Nat) (cells : List DV)
  | agg (cells : List DV)
  | pt (cells : List DV)
  | fn (f : FuncId) (caps : List DV)
  | mp (ks : List Value) (vs : List DV)

/-- A set of cells: block, offset. -/
abbrev Im := Nat → Nat → Prop

inductive Rep (w : World) (I : Im) : Value → DV → Prop
  | v (u : Value) : Rep w I u (.v u)
  | nil (A : Option Addr) (c size : Nat) : Rep w I (.slice A 0 c) (.sl size [])
  | sl (b off n c size : Nat) (xs : List Value) (cells : List DV) (hn : 0 < n) (hcap : n ≤ c) (hl : cells.length = n * size) (hx : xs.length = cells.length)
      (hc : ∀ (j : Nat) x, xs[j]? = some x → w.cell? ⟨b, off + j, none⟩ = some x ∧ I b (off + j)) (h1 : ∀ x ∈ xs, x.oneCell' = true)
      (hr : ∀ (j : Nat) x d, xs[j]? = some x → cells[j]? = some d → Rep w I x d) : Rep w I (.slice (some ⟨b, off, none⟩) n c) (.sl size cells)
  | agg (xs : List Value) (cells : List DV) (hx : xs.length = cells.length) (h1 : ∀ x ∈ xs, x.oneCell' = true)
      (hr : ∀ (j : Nat) x d, xs[j]? = some x → cells[j]? = some d → Rep w I x d) : Rep w I (.agg xs.toArray) (.agg cells)
  | pt (b off : Nat) (xs : List Value) (cells : List DV) (hx : xs.length = cells.length)
      (hc : ∀ (j : Nat) x, xs[j]? = some x → w.cell? ⟨b, off + j, none⟩ = some x ∧ I b (off + j)) (h1 : ∀ x ∈ xs, x.oneCell' = true)
      (hr : ∀ (j : Nat) x d, xs[j]? = some x → cells[j]? = some d → Rep w I x d) : Rep w I (.pointer (some ⟨b, off, none⟩)) (.pt cells)
  | fn (f : FuncId) (xs : List Value) (caps : List DV) (hx : xs.length = caps.length)
      (hr : ∀ (j : Nat) x d, xs[j]? = some x → caps[j]? = some d → Rep w I x d) : Rep w I (.func (.func f) #[] xs.toArray) (.fn f caps)
  | mp (b clock : Nat) (ents : Array MapEntry) (vs : List DV) (hh : w.heap[b]? = some (.map ents clock)) (hI : I b 0) (hx : ents.size = vs.length)
      (hr : ∀ (j : Nat) x d, ents.toList[j]? = some x → vs[j]? = some d → Rep w I x.val d) : Rep w I (.map (some b)) (.mp (ents.toList.map (·.key)) vs)

/-- Cell j of block b, or the map there, is in w' as it is in w. -/
structure KeepB (w w' : World) (b j : Nat) : Prop where
  cell : w'.cell? ⟨b, j, none⟩ = w.cell? ⟨b, j, none⟩
  map : ∀ ents c, w.heap[b]? = some (.map ents c) → w'.heap[b]? = some (.map ents c)
theorem KeepB.refl {w : World} {b j : Nat} : KeepB w w b j := ⟨rfl, fun _ _ h => h⟩
theorem KeepB.trans {w w1 w2 : World} {b j : Nat} (h : KeepB w1 w2 b j) (k : KeepB w w1 b j) : KeepB w w2 b j := ⟨h.cell.trans k.cell, fun e c q => h.map e c (k.map e c q)⟩
theorem KeepB.of {w w' : World} {b j : Nat} (h : w'.heap[b]? = w.heap[b]?) : KeepB w w' b j := ⟨World.cell?_of_block (a := ⟨b, j, none⟩) h, fun _ _ q => h.trans q⟩
theorem KeepB.ofCell {w w' : World} {b j : Nat} {arr : Array Value} {e : Nat} {fr : Nat × Nat} (hb : w.heap[b]? = some (.cells arr e fr)) (h : w'.cell? ⟨b, j, none⟩ = w.cell? ⟨b, j, none⟩) : KeepB w w' b j := ⟨h, fun _ _ q => by rw [hb] at q; cases q⟩

/-- w' reads on I as w does. -/
def Same (I : Im) (w w' : World) : Prop := ∀ b j, I b j → KeepB w w' b j

theorem Rep.mono {w w' : World} {I I' : Im} {v : Value} {d : DV} (h : Rep w I v d) (hs : Same I w w') (hI : ∀ b j, I b j → I' b j) : Rep w' I' v d := by
  induction h with
  | v u => exact .v u
  | nil A c size => exact .nil A c size
  | sl b off n c size xs cells hn hcap hl hx hc h1 hr ih =>
    exact .sl b off n c size xs cells hn hcap hl hx (fun j x hj => ⟨(hs _ _ (hc j x hj).2).cell.trans (hc j x hj).1, hI _ _ (hc j x hj).2⟩) h1 ih
  | agg xs cells hx h1 hr ih => exact .agg xs cells hx h1 ih
  | pt b off xs cells hx hc h1 hr ih =>
    exact .pt b off xs cells hx (fun j x hj => ⟨(hs _ _ (hc j x hj).2).cell.trans (hc j x hj).1, hI _ _ (hc j x hj).2⟩) h1 ih
  | fn f xs caps hx hr ih => exact .fn f xs caps hx ih
  | mp b clock ents vs hh hb hx hr ih => exact .mp b clock ents vs ((hs _ _ hb).map _ _ hh) (hI _ _ hb) hx ih

/-- Pointwise. -/
def Pw {α β : Type} (R : α → β → Prop) (xs : List α) (ys : List β) : Prop :=
  xs.length = ys.length ∧ ∀ (j : Nat) x y, xs[j]? = some x → ys[j]? = some y → R x y
section
variable {α β : Type} {R R' : α → β → Prop} {xs xs' : List α} {ys ys' : List β}
theorem Pw.imp (h : Pw R xs ys) (hr : ∀ x y, R x y → R' x y) : Pw R' xs ys := ⟨h.1, fun j x d hx hd => hr _ _ (h.2 j x d hx hd)⟩
theorem Pw.nil : Pw R [] [] := ⟨rfl, fun j x d h => by simp at h⟩
theorem Pw.cons {x : α} {y : β} (h : R x y) (hs : Pw R xs ys) : Pw R (x :: xs) (y :: ys) := by
  refine ⟨by simp [hs.1], fun j y e hy he => ?_⟩
  cases j with
  | zero => simp at hy he; subst hy; subst he; exact h
  | succ j => simp at hy he; exact hs.2 j y e hy he
theorem Pw.append (h : Pw R xs ys) (k : Pw R xs' ys') : Pw R (xs ++ xs') (ys ++ ys') := by
  refine ⟨by simp [h.1, k.1], fun j x d hx hd => ?_⟩
  by_cases hj : j < xs.length
  · rw [List.getElem?_append_left hj] at hx; rw [List.getElem?_append_left (h.1 ▸ hj)] at hd; exact h.2 j x d hx hd
  · rw [List.getElem?_append_right (by omega)] at hx; rw [List.getElem?_append_right (by rw [← h.1]; omega)] at hd
    rw [← h.1] at hd
    exact k.2 _ x d hx hd
theorem Pw.take (h : Pw R xs ys) (n : Nat) : Pw R (xs.take n) (ys.take n) := by
  refine ⟨by simp [h.1], fun j x y hx hy => ?_⟩
  rw [List.getElem?_take] at hx hy
  split at hx
  · rename_i hlt; rw [if_pos hlt] at hy; exact h.2 j x y hx hy
  · cases hx
theorem Pw.drop (h : Pw R xs ys) (n : Nat) : Pw R (xs.drop n) (ys.drop n) := by
  refine ⟨by simp [h.1], fun j x y hx hy => ?_⟩
  rw [List.getElem?_drop] at hx hy
  exact h.2 _ x y hx hy
theorem Pw.set (h : Pw R xs ys) {x : α} {y : β} (hxy : R x y) (n : Nat) : Pw R (xs.set n x) (ys.set n y) := by
  refine ⟨by simp [h.1], fun j u v hu hv => ?_⟩
  rw [List.getElem?_set] at hu hv
  by_cases e : n = j
  · subst e
    by_cases hl : n < xs.length
    · simp [hl] at hu; rw [h.1] at hl; simp [hl] at hv; subst hu; subst hv; exact hxy
    · simp [hl] at hu
  · simp [e] at hu hv; exact h.2 j u v hu hv
end

abbrev Reps (w : World) (I : Im) (xs : List Value) (ds : List DV) : Prop := Pw (Rep w I) xs ds

theorem Reps.mono {w w' : World} {I I' : Im} {xs : List Value} {ds : List DV} (h : Reps w I xs ds) (hs : Same I w w') (hI : ∀ b j, I b j → I' b j) : Reps w' I' xs ds :=
  h.imp fun _ _ hr => hr.mono hs hI

/-- What a closure holds, or a part of what a call returns. -/
inductive Cap where
  | top
  | d (x : DV)
  | ptr (id off : Nat)
  | row (id : Nat)

inductive AV where
  | top
  | d (x : DV)
  | row (id : Nat)
  | ptr (id off : Nat)
  | ip (cells : List DV) (off : Nat)
  | tup (ds : List DV)
  | cond (g : Bool) (x : AV)
  | gh (k : Nat)
  | rs (id off n : Nat)
  | clo (f : FuncId) (caps : List Cap)
  | tupc (xs : List Cap)
  | wp (id off : Nat)
  | ws (id off n : Nat) (tight : Bool)
  | aggc (xs : List Cap)

inductive Blk where
  | none
  | row (e size : Nat) (sh : Bool) (cells : List DV)
  | box (e : Nat) (cells : List AV)
  | map (es : List (Value × DV))
  | win (e size k : Nat) (cells : List DV)

structure AState where
  tmps : List (Nat × AV)
  blks : List (Nat × Blk)

def look {α : Type} (dflt : α) : List (Nat × α) → Nat → α
  | [], _ => dflt
  | (i, x) :: r, k => if Nat.beq i k then x else look dflt r k

theorem look_cons {α : Type} (dflt : α) (i : Nat) (x : α) (r : List (Nat × α)) (k : Nat) : look dflt ((i, x) :: r) k = if i = k then x else look dflt r k := by
  simp only [look]; by_cases h : i = k <;> simp [h, Nat.beq_eq]

def AState.get (S : AState) (t : Nat) : AV := look .top S.tmps t
def AState.blk (S : AState) (id : Nat) : Blk := look .none S.blks id
def AState.put (S : AState) (t : Nat) (x : AV) : AState := { S with tmps := (t, x) :: S.tmps }
def AState.setBlk (S : AState) (id : Nat) (b : Blk) : AState := { S with blks := (id, b) :: S.blks }

theorem get_put (S : AState) (t u : Nat) (x : AV) : (S.put t x).get u = if t = u then x else S.get u := look_cons _ _ _ _ _
theorem blk_put (S : AState) (t u : Nat) (x : AV) : (S.put t x).blk u = S.blk u := rfl
theorem blk_setBlk (S : AState) (t u : Nat) (x : Blk) : (S.setBlk t x).blk u = if t = u then x else S.blk u := look_cons _ _ _ _ _
theorem get_setBlk (S : AState) (t u : Nat) (x : Blk) : (S.setBlk t x).get u = S.get u := rfl

/-- The slot of the ghost count: no function has so many slots. -/
def GT : Nat := 1000000
def AState.ghost (S : AState) : Nat := match S.get GT with
  | .gh k => k
  | _ => 0

/-- Blocks of cells and maps. -/
def isData : Obj → Bool
  | .cells _ _ _ => true
  | .map _ _ => true
  | _ => false

/-- w' is w but for block l, which is no cells. -/
structure Turned (l : Nat) (w w' : World) : Prop where
  os : w'.os = w.os
  tape : w'.tape = w.tape
  output : w'.output = w.output
  size : w'.heap.size = w.heap.size
  blk : ∀ k, k ≠ l → w'.heap[k]? = w.heap[k]?
  no : ∀ o, w.heap[l]? = some o → isData o = false
  no' : ∀ o, w'.heap[l]? = some o → isData o = false

/-- w' is w but for blocks of O, and new ones. -/
structure Chg (w w' : World) (O : Nat → Prop) : Prop where
  os : w'.os = w.os
  tape : w'.tape = w.tape
  output : w'.output = w.output
  size : w.heap.size ≤ w'.heap.size
  block : ∀ k, k < w.heap.size → ¬ O k → w'.heap[k]? = w.heap[k]?

theorem Chg.of {w w' : World} {row : Option Nat} (h : w.grownBy w' row) : Chg w w' (fun b => row = some b) :=
  ⟨h.os, h.tape, h.output, h.size, fun k hk hn => h.block k hk (fun e => hn e.symm)⟩

/-- What the package-level variables of the table hold, and that it is fixed. -/
def GlI (gdt : Nat → Option (List Value)) (w : World) (I : Im) : Prop := ∀ g zs, gdt g = some zs → ∀ j v, zs[j]? = some v → w.cell? ⟨g, j, none⟩ = some v ∧ I g j
theorem GlI.sub {gdt : Nat → Option (List Value)} {w : World} {I I' : Im} (h : GlI gdt w I) (hs : ∀ b j, I b j → I' b j) : GlI gdt w I' := fun g zs hg j v hj => ⟨(h g zs hg j v hj).1, hs _ _ (h g zs hg j v hj).2⟩
theorem GlI.none {w : World} {I : Im} : GlI (fun _ => none) w I := fun _ _ h => by cases h

structure Env where
  B : Nat
  I0 : Im
  n : Nat
  fr : Nat → (Nat → Prop) → World → Prop
  wrB : Bool
  nle : n ≤ 1000000
  mine : Nat → Prop
  mineB : ∀ b, B ≤ b → mine b
  nm : Nat → Option Value
  size : ∀ k C w, fr k C w → B ≤ w.heap.size
  csize : ∀ k C w, fr k C w → ∀ b, C b → b < w.heap.size
  grow : ∀ k C w w', fr k C w → Below w.heap.size w w' → fr k C w'
  wr : wrB = true → ∀ k C w w' O, fr k C w → Chg w w' O → (∀ b, O b → mine b ∧ ¬ C b ∧ ∃ o, w.heap[b]? = some o ∧ isData o = true) → Same I0 w w' → fr k C w'
  turn : wrB = true → ∀ k C w w' l, fr k C w → B ≤ l → Turned l w w' → Same I0 w w' → fr k C w'
  gdt : Nat → Option (List Value)
  gl : ∀ k C w, fr k C w → GlI gdt w I0

def blockOf : Value → Option Nat
  | .slice (some a) _ _ => some a.block
  | .pointer (some a) => some a.block
  | .map (some b) => some b
  | _ => none

section
variable (w : World) (I : Im) (ρ : Nat → Value)

def HoldsC : Value → Cap → Prop
  | _, .top => True
  | v, .d x => Rep w I v x
  | v, .row id => v = ρ id
  | v, .ptr id off => ∃ b, blockOf (ρ id) = some b ∧ v = .pointer (some ⟨b, off, none⟩)

def Holds : Value → AV → Prop
  | _, .top => True
  | v, .d x => Rep w I v x
  | v, .row id => v = ρ id
  | v, .ptr id off => ∃ b, blockOf (ρ id) = some b ∧ v = .pointer (some ⟨b, off, none⟩)
  | v, .ip cells k => ∃ b off xs, v = .pointer (some ⟨b, off + k, none⟩) ∧ Reps w I xs cells ∧ (∀ x ∈ xs, x.oneCell' = true) ∧ (∀ (j : Nat) x, xs[j]? = some x → w.cell? ⟨b, off + j, none⟩ = some x ∧ I b (off + j))
  | v, .tup ds => ∃ xs, v = .tuple xs.toArray ∧ Reps w I xs ds
  | v, .cond g x => (g = true → Holds v x) ∧ (g = false → v = undef)
  | _, .gh _ => True
  | v, .rs id off n => ∃ A c, v = .slice A n c ∧ n ≤ c ∧ (0 < n → ∃ b, blockOf (ρ id) = some b ∧ A = some ⟨b, off, none⟩)
  | v, .clo f caps => ∃ xs, v = .func (.func f) #[] xs.toArray ∧ Pw (HoldsC w I ρ) xs caps
  | v, .tupc cs => ∃ xs, v = .tuple xs.toArray ∧ Pw (HoldsC w I ρ) xs cs
  | v, .aggc cs => ∃ xs, v = .agg xs.toArray ∧ Pw (HoldsC w I ρ) xs cs ∧ ∀ x ∈ xs, x.oneCell' = true
  | v, .wp id off => ∃ b o n c, ρ id = .slice (some ⟨b, o, none⟩) n c ∧ v = .pointer (some ⟨b, o + off, none⟩)
  | v, .ws id off n tt => ∃ A c, v = .slice A n c ∧ n ≤ c ∧ (tt = true → c = n) ∧ (0 < n → ∃ b o n0 c0, ρ id = .slice (some ⟨b, o, none⟩) n0 c0 ∧ A = some ⟨b, o + off, none⟩)

def BlkOk (M : Nat → Prop) (id : Nat) : Blk → Prop
  | .none => True
  | .row e size sh cells => (0 < size ∧ ∀ g, (ρ id).ownBlock = some g → M g) ∧ ∃ n xs, cells.length = n * size ∧ w.ownsRow 0 e size (ρ id) n xs ∧ (∀ x ∈ xs, x.oneCell' = true) ∧ Reps w I xs cells ∧
      (∀ g j, (ρ id).ownBlock = some g → I g j → sh = true ∧ j < cells.length)
  | .box e cells => ∃ b arr, ρ id = .pointer (some ⟨b, 0, none⟩) ∧ M b ∧ w.heap[b]? = some (.cells arr e (0, 0)) ∧ (∀ x ∈ arr.toList, x.oneCell' = true) ∧
      Pw (Holds w I ρ) arr.toList cells ∧ (∀ j, ¬ I b j)
  | .map es => ∃ b ents clock, ρ id = .map (some b) ∧ M b ∧ w.heap[b]? = some (.map ents clock) ∧ Pw (fun (x : MapEntry) (y : Value × DV) => x.key = y.1 ∧ Rep w I x.val y.2) ents.toList es ∧ (∀ j, ¬ I b j)
  | .win e size k cells => ∃ A n c xs, ρ id = .slice A n c ∧ n ≤ c ∧ 0 < size ∧ cells.length = n * size ∧ Reps w I xs cells ∧ (∀ x ∈ xs, x.oneCell' = true) ∧
      ((A = none ∧ n = 0) ∨ ∃ b off arr, A = some ⟨b, off, none⟩ ∧ M b ∧ w.heap[b]? = some (.cells arr e (0, 0)) ∧ off + n * size ≤ arr.size ∧ (∀ (j : Nat) x, xs[j]? = some x → arr[off + j]? = some x) ∧ (∀ j, off ≤ j → j < off + n * size → I b j → j < off + k * size))
end

/-- What is deferred: the marks of ranges over functions, of which nothing is to be carried out. -/
structure DefOk (B : Nat) (wrB : Bool) (C : Nat → Prop) (w : World) (ds : List Deferred) : Prop where
  each : ∀ d ∈ ds, ∃ r, d.target = .collected r ∧ B ≤ r ∧ ¬ C r ∧ w.heap[r]? = some (.deferred (some []))
  dist : ds.Pairwise fun d e => ∀ r, d.target = .collected r → e.target ≠ .collected r
  wr : ds ≠ [] → wrB = true

theorem DefOk.nil {B : Nat} {wrB : Bool} {C : Nat → Prop} {w : World} : DefOk B wrB C w [] := ⟨by simp, .nil, fun h => absurd rfl h⟩
theorem DefOk.keep {B : Nat} {wrB : Bool} {C : Nat → Prop} {w w' : World} {ds : List Deferred} (h : DefOk B wrB C w ds) (hk : ∀ r : Nat, w.heap[r]? = some (Obj.deferred (some [])) → w'.heap[r]? = some (Obj.deferred (some []))) : DefOk B wrB C w' ds :=
  ⟨fun d hd => let ⟨r, h1, h2, h2', h3⟩ := h.each d hd; ⟨r, h1, h2, h2', hk r h3⟩, h.dist, h.wr⟩

structure SatAt (E : Env) (S : AState) (a : Act) (w : World) (I : Im) (ρ : Nat → Value) (C : Nat → Prop) : Prop where
  tmps : ∀ t, Holds w I ρ (a.tmps.getD t undef) (S.get t)
  blks : ∀ id, BlkOk w I ρ E.mine id (S.blk id)
  dist : ∀ id id' b, id ≠ id' → S.blk id ≠ .none → S.blk id' ≠ .none → blockOf (ρ id) = some b → blockOf (ρ id') ≠ some b
  frame : E.fr S.ghost C w
  sub : ∀ b j, E.I0 b j → I b j
  old : ∀ b j, I b j → b < w.heap.size ∧ (E.I0 b j ∨ E.mine b)
  size : a.tmps.size = E.n
  defers : DefOk E.B E.wrB C w a.defers
  cI : ∀ b j, I b j → ¬ C b
  cB : ∀ id b, S.blk id ≠ .none → blockOf (ρ id) = some b → ¬ C b
  nm : ∀ id v, E.nm id = some v → S.blk id ≠ .none → ρ id = v

def Sat (E : Env) (S : AState) (a : Act) (w : World) : Prop := ∃ I ρ C, SatAt E S a w I ρ C

theorem SatAt.gl {E : Env} {S : AState} {a : Act} {w : World} {I : Im} {ρ : Nat → Value} {C : Nat → Prop} (h : SatAt E S a w I ρ C) : GlI E.gdt w I := (E.gl _ _ _ h.frame).sub h.sub

theorem ghost_put (S : AState) {t : Nat} (x : AV) {E : Env} (h : t < E.n) : (S.put t x).ghost = S.ghost := by
  have hne : t ≠ GT := by have := E.nle; unfold GT; omega
  unfold AState.ghost
  rw [get_put, if_neg hne]

/-! ## Reading operands -/

def AV.un : AV → AV
  | .cond true x => x.un
  | y => y

def AState.ev (S : AState) : Operand → AV
  | .tmp t => (S.get t).un
  | .const v => .d (.v v)
  | .func f => .d (.v (.func (.func f) #[] #[]))
  | .global _ => .top

theorem Holds.un {w : World} {I : Im} {ρ : Nat → Value} {v : Value} : ∀ {x : AV}, Holds w I ρ v x → Holds w I ρ v x.un := by
  intro x
  induction x with
  | cond g x ih =>
    intro h
    cases g with
    | false => exact h
    | true => exact ih (h.1 rfl)
  | _ => exact id

theorem SatAt.ev {E : Env} {S : AState} {a : Act} {w : World} {I : Im} {ρ : Nat → Value} {C : Nat → Prop} (h : SatAt E S a w I ρ C) (x : Operand) : Holds w I ρ (a.eval x) (S.ev x) := by
  cases x with
  | tmp t => exact (h.tmps t).un
  | const v => exact .v v
  | func f => exact .v _
  | global g => trivial

theorem SatAt.val {E : Env} {S : AState} {a : Act} {w : World} {I : Im} {ρ : Nat → Value} {C : Nat → Prop} (h : SatAt E S a w I ρ C) {x : Operand} {v : Value} (hx : S.ev x = .d (.v v)) : a.eval x = v := by
  have := h.ev x
  rw [hx] at this
  generalize a.eval x = u at this ⊢
  cases this
  rfl

theorem SatAt.put {E : Env} {S : AState} {a : Act} {w : World} {I : Im} {ρ : Nat → Value} {C : Nat → Prop} (h : SatAt E S a w I ρ C) {d : Nat} {v : Value} {x : AV} (hd : d < E.n) (hv : Holds w I ρ v x) :
    SatAt E (S.put d x) (a.put (some d) v) w I ρ C := by
  refine ⟨fun t => ?_, h.blks, h.dist, by rw [ghost_put S x hd]; exact h.frame, h.sub, h.old, by simp [Act.put, h.size], h.defers, h.cI, h.cB, h.nm⟩
  rw [get_put]
  by_cases ht : d = t
  · subst ht
    simp only [if_true, Act.put]
    rw [Array.getD_eq_getD_getElem?, Array.getElem?_setIfInBounds_self_of_lt (by rw [h.size]; exact hd)]
    exact hv
  · simp only [ht, if_false, Act.put]
    have := h.tmps t
    rw [Array.getD_eq_getD_getElem?] at this ⊢
    rw [Array.getElem?_setIfInBounds_ne ht]
    exact this

/-! ## Steps -/

def fen (r : Option Nat) : Fence := { Fence.wide with round := r }

def Step (P : Program) (r : Option Nat) (E : Env) (o : Oper) (S S' : AState) : Prop :=
  ∀ a w (K : Act → World → Prop) (Q : Exit → Act → World → Prop), Sat E S a w → (∀ a' w', Sat E S' a' w' → K a' w') → o.wpIn (fen r) 0 P a w K Q

section
variable {P : Program} {r : Option Nat} {E : Env} {S : AState}

theorem step_run {o : Oper} {S' : AState} (hnd : ∀ c, o.op ≠ .defer c)
    (h : ∀ a w I ρ C, SatAt E S a w I ρ C → ∃ v w', (execOp a.eval o).run P w = .ok (.value v) w' ∧ Sat E S' (a.put o.dst v) w') : Step P r E o S S' := by
  rintro a w K Q ⟨I, ρ, C, hs⟩ hk
  obtain ⟨v, w', hr, hv⟩ := h a w I ρ C hs
  refine ⟨fun f _ => trivial, ?_⟩
  rw [Oper.semAt_eq _ _ _ hnd, hr]
  exact hk _ _ hv

theorem step_value {o : Oper} {d : Nat} {x : AV} (hd : o.dst = some d) (hn : d < E.n) (hnd : ∀ c, o.op ≠ .defer c)
    (h : ∀ a w I ρ C, SatAt E S a w I ρ C → ∃ v, (execOp a.eval o).run P w = .ok (.value v) w ∧ Holds w I ρ v x) : Step P r E o S (S.put d x) :=
  step_run hnd fun a w I ρ C hs => by
    obtain ⟨v, hr, hv⟩ := h a w I ρ C hs
    exact ⟨v, w, hr, I, ρ, C, by rw [hd]; exact hs.put hn hv⟩

variable {d : Nat} {ty : TypeId} {pos : String} {af : Array Edge} {g : Option (Nat × Bool)}

theorem step_move {x : Operand} (hn : d < E.n) : Step P r E ⟨some d, .move x, ty, pos, af, g⟩ S (S.put d (S.ev x)) :=
  step_value rfl hn (by simp) fun a w I ρ C hs => ⟨a.eval x, by simp [execOp], hs.ev x⟩
theorem step_assign {x : Operand} (hn : d < E.n) : Step P r E ⟨some d, .assign x, ty, pos, af, g⟩ S (S.put d (S.ev x)) :=
  step_value rfl hn (by simp) fun a w I ρ C hs => ⟨a.eval x, by simp [execOp], hs.ev x⟩

theorem step_val {o : Oper} {v : Value} (hd : o.dst = some d) (hn : d < E.n) (hnd : ∀ c, o.op ≠ .defer c)
    (h : ∀ a w I ρ C, SatAt E S a w I ρ C → (execOp a.eval o).run P w = .ok (.value v) w) : Step P r E o S (S.put d (.d (.v v))) :=
  step_value hd hn hnd fun a w I ρ C hs => ⟨v, h a w I ρ C hs, .v v⟩


section ints
variable {k : IntKind} {x y : Operand} {a b : Int} {tx tz : TypeId} (hn : d < E.n) (hx : S.ev x = .d (.v (.int k a))) (hy : S.ev y = .d (.v (.int k b)))
include hn hx hy
theorem step_add (hw : k.wrap (a + b) = a + b) : Step P r E ⟨some d, .binOp .add tx x y tz, ty, pos, af, g⟩ S (S.put d (.d (.v (.int k (a + b))))) :=
  step_val rfl hn (by simp) fun A w I ρ C hs => by
    simp only [execOp, hs.val hx, hs.val hy]
    simp [binOp, eqGuard, Op.intArith, hw]
theorem step_sub (hw : k.wrap (a - b) = a - b) : Step P r E ⟨some d, .binOp .sub tx x y tz, ty, pos, af, g⟩ S (S.put d (.d (.v (.int k (a - b))))) :=
  step_val rfl hn (by simp) fun A w I ρ C hs => by
    simp only [execOp, hs.val hx, hs.val hy]
    simp [binOp, eqGuard, Op.intArith, hw]
theorem step_mul (hw : k.wrap (a * b) = a * b) : Step P r E ⟨some d, .binOp .mul tx x y tz, ty, pos, af, g⟩ S (S.put d (.d (.v (.int k (a * b))))) :=
  step_val rfl hn (by simp) fun A w I ρ C hs => by
    simp only [execOp, hs.val hx, hs.val hy]
    simp [binOp, eqGuard, Op.intArith, hw]
theorem step_quo (ha : 0 ≤ a) (hb : 0 < b) (hw : k.wrap (a / b) = a / b) : Step P r E ⟨some d, .binOp .quo tx x y tz, ty, pos, af, g⟩ S (S.put d (.d (.v (.int k (a / b))))) :=
  step_val rfl hn (by simp) fun A w I ρ C hs => by
    simp only [execOp, hs.val hx, hs.val hy]
    have : b ≠ 0 := by omega
    simp [binOp, eqGuard, Op.intDiv, this, Int.tdiv_eq_ediv_of_nonneg ha, hw]
theorem step_rem (ha : 0 ≤ a) (hb : 0 < b) : Step P r E ⟨some d, .binOp .rem tx x y tz, ty, pos, af, g⟩ S (S.put d (.d (.v (.int k (a % b))))) :=
  step_val rfl hn (by simp) fun A w I ρ C hs => by
    simp only [execOp, hs.val hx, hs.val hy]
    have : b ≠ 0 := by omega
    simp [binOp, eqGuard, Op.intDiv, this, Int.tmod_eq_emod_of_nonneg ha]
theorem step_lss : Step P r E ⟨some d, .binOp .lss tx x y tz, ty, pos, af, g⟩ S (S.put d (.d (.v (.bool (decide (a < b)))))) :=
  step_val rfl hn (by simp) fun A w I ρ C hs => by
    simp only [execOp, hs.val hx, hs.val hy]
    simp [binOp, eqGuard, Op.intCmp]
theorem step_leq : Step P r E ⟨some d, .binOp .leq tx x y tz, ty, pos, af, g⟩ S (S.put d (.d (.v (.bool (decide (a ≤ b)))))) :=
  step_val rfl hn (by simp) fun A w I ρ C hs => by
    simp only [execOp, hs.val hx, hs.val hy]
    simp [binOp, eqGuard, Op.intCmp]
theorem step_gtr : Step P r E ⟨some d, .binOp .gtr tx x y tz, ty, pos, af, g⟩ S (S.put d (.d (.v (.bool (decide (b < a)))))) :=
  step_val rfl hn (by simp) fun A w I ρ C hs => by
    simp only [execOp, hs.val hx, hs.val hy]
    simp [binOp, eqGuard, Op.intCmp]
theorem step_geq : Step P r E ⟨some d, .binOp .geq tx x y tz, ty, pos, af, g⟩ S (S.put d (.d (.v (.bool (decide (b ≤ a)))))) :=
  step_val rfl hn (by simp) fun A w I ρ C hs => by
    simp only [execOp, hs.val hx, hs.val hy]
    simp [binOp, eqGuard, Op.intCmp]
theorem step_eql : Step P r E ⟨some d, .binOp .eql tx x y tz, ty, pos, af, g⟩ S (S.put d (.d (.v (.bool (decide (a = b)))))) :=
  step_val rfl hn (by simp) fun A w I ρ C hs => by
    simp only [execOp, hs.val hx, hs.val hy]
    have : (a == b) = decide (a = b) := rfl
    simp [binOp, eqGuard, Op.intCmp, this]
theorem step_neq : Step P r E ⟨some d, .binOp .neq tx x y tz, ty, pos, af, g⟩ S (S.put d (.d (.v (.bool (!decide (a = b)))))) :=
  step_val rfl hn (by simp) fun A w I ρ C hs => by
    simp only [execOp, hs.val hx, hs.val hy]
    have : (a != b) = !decide (a = b) := rfl
    simp [binOp, eqGuard, Op.intCmp, this]
end ints

theorem step_shr {k k' : IntKind} {x y : Operand} {a : Int} {m : Nat} {tx tz : TypeId} (hn : d < E.n) (hx : S.ev x = .d (.v (.int k a))) (hy : S.ev y = .d (.v (.int k' (m : Int))))
    (hm : m ≤ k.bits) : Step P r E ⟨some d, .binOp .shr tx x y tz, ty, pos, af, g⟩ S (S.put d (.d (.v (.int k (a / 2 ^ m))))) :=
  step_val rfl hn (by simp) fun A w I ρ C hs => by
    simp only [execOp, hs.val hx, hs.val hy]
    have h1 : ¬ ((m : Int) < 0) := by omega
    have h2 : min m k.bits = m := Nat.min_eq_left hm
    have h3 : a.fdiv (2 ^ m) = a / 2 ^ m := Int.fdiv_eq_ediv_of_nonneg a (Int.le_of_lt (Int.pow_pos (by decide)))
    simp [binOp, eqGuard, Op.shift, h1, h2, h3]

theorem step_not {x : Operand} {b : Bool} {tx : TypeId} (hn : d < E.n) (hx : S.ev x = .d (.v (.bool b))) : Step P r E ⟨some d, .unOp .not tx x, ty, pos, af, g⟩ S (S.put d (.d (.v (.bool (!b))))) :=
  step_val rfl hn (by simp) fun A w I ρ C hs => by
    simp only [execOp, hs.val hx]
    simp [Op.unary]
theorem step_neg {k : IntKind} {x : Operand} {a : Int} {tx : TypeId} (hn : d < E.n) (hx : S.ev x = .d (.v (.int k a))) (hw : k.wrap (-a) = -a) : Step P r E ⟨some d, .unOp .neg tx x, ty, pos, af, g⟩ S (S.put d (.d (.v (.int k (-a))))) :=
  step_val rfl hn (by simp) fun A w I ρ C hs => by
    simp only [execOp, hs.val hx]
    simp [Op.unary, Op.intArith, hw]

theorem step_pick_t {c x y : Operand} (hn : d < E.n) (hc : S.ev c = .d (.v (.bool true))) : Step P r E ⟨some d, .pick c x y, ty, pos, af, g⟩ S (S.put d (S.ev x)) :=
  step_value rfl hn (by simp) fun a w I ρ C hs => ⟨a.eval x, by simp only [execOp, hs.val hc]; simp [asBool], hs.ev x⟩
theorem step_pick_f {c x y : Operand} (hn : d < E.n) (hc : S.ev c = .d (.v (.bool false))) : Step P r E ⟨some d, .pick c x y, ty, pos, af, g⟩ S (S.put d (S.ev y)) :=
  step_value rfl hn (by simp) fun a w I ρ C hs => ⟨a.eval y, by simp only [execOp, hs.val hc]; simp [asBool], hs.ev y⟩
theorem step_pick_and {c : Operand} {t : Nat} {b b' : Bool} (hn : d < E.n) (hc : S.ev c = .d (.v (.bool b))) (ht : S.get t = .cond b (.d (.v (.bool b')))) :
    Step P r E ⟨some d, .pick c (.tmp t) (.const (.bool false)), ty, pos, af, g⟩ S (S.put d (.d (.v (.bool (b && b'))))) :=
  step_val rfl hn (by simp) fun A w I ρ C hs => by
    have hh := hs.tmps t
    rw [ht] at hh
    simp only [execOp, hs.val hc]
    cases b with
    | false => simp [asBool, Act.eval]
    | true =>
      have h2 := hh.1 rfl
      generalize hv : A.tmps.getD t undef = v at h2
      cases h2
      simp only [Act.eval, hv]
      simp [asBool]
theorem step_pick_or {c : Operand} {t : Nat} {b b' : Bool} (hn : d < E.n) (hc : S.ev c = .d (.v (.bool b))) (ht : S.get t = .cond (!b) (.d (.v (.bool b')))) :
    Step P r E ⟨some d, .pick c (.const (.bool true)) (.tmp t), ty, pos, af, g⟩ S (S.put d (.d (.v (.bool (b || b'))))) :=
  step_val rfl hn (by simp) fun A w I ρ C hs => by
    have hh := hs.tmps t
    rw [ht] at hh
    simp only [execOp, hs.val hc]
    cases b with
    | true => simp [asBool, Act.eval]
    | false =>
      have h2 := hh.1 rfl
      generalize hv : A.tmps.getD t undef = v at h2
      cases h2
      simp only [Act.eval, hv]
      simp [asBool]

section strs
variable {x y : Operand} {a b : ByteArray} {tx tz : TypeId} (hn : d < E.n) (hx : S.ev x = .d (.v (.string a))) (hy : S.ev y = .d (.v (.string b)))
include hn hx hy
theorem step_str {op : BinOp} {v : Value} (hop : op ≠ .shl ∧ op ≠ .shr) (h : ∀ w, (Op.stringOp op a b).run P w = .ok v w) : Step P r E ⟨some d, .binOp op tx x y tz, ty, pos, af, g⟩ S (S.put d (.d (.v v))) :=
  step_val rfl hn (by simp) fun A w I ρ C hs => by
    simp only [execOp, hs.val hx, hs.val hy]
    have e1 : (eqGuard op tx x y (.string a) (.string b)).run P w = .ok () w := by cases op <;> simp [eqGuard]
    have e2 : binOp op tx (.string a) (.string b) = Op.stringOp op a b := by cases op <;> simp_all [binOp]
    simp [e1, e2, h]
theorem step_seql : Step P r E ⟨some d, .binOp .eql tx x y tz, ty, pos, af, g⟩ S (S.put d (.d (.v (.bool (a.toList == b.toList))))) := step_str hn hx hy (by simp) (fun _ => by simp [Op.stringOp])
theorem step_sneq : Step P r E ⟨some d, .binOp .neq tx x y tz, ty, pos, af, g⟩ S (S.put d (.d (.v (.bool (!(a.toList == b.toList)))))) := step_str hn hx hy (by simp) (fun _ => by simp [Op.stringOp])
theorem step_slss : Step P r E ⟨some d, .binOp .lss tx x y tz, ty, pos, af, g⟩ S (S.put d (.d (.v (.bool (Op.bytesLess a.toList b.toList))))) := step_str hn hx hy (by simp) (fun _ => by simp [Op.stringOp])
theorem step_sgeq : Step P r E ⟨some d, .binOp .geq tx x y tz, ty, pos, af, g⟩ S (S.put d (.d (.v (.bool (!Op.bytesLess a.toList b.toList))))) := step_str hn hx hy (by simp) (fun _ => by simp [Op.stringOp])
end strs

theorem step_conv_int {k k' : IntKind} {x : Operand} {a : Int} {ts td : TypeId} {ds : TypeDesc} (hn : d < E.n) (hs : P.underlying ts = some ds) (hd : P.underlying td = some (.int k')) (hx : S.ev x = .d (.v (.int k a))) :
    Step P r E ⟨some d, .convert ts td x, ty, pos, af, g⟩ S (S.put d (.d (.v (.int k' (k'.wrap a))))) :=
  step_val rfl hn (by simp) fun A w I ρ C h => by
    simp only [execOp, h.val hx]
    simp [convert, run_underlying hs, run_underlying hd, Conv.intToInt]

theorem step_extract {x : Operand} {i : Nat} {ds : List DV} {e : DV} (hn : d < E.n) (hx : S.ev x = .tup ds) (hi : ds[i]? = some e) : Step P r E ⟨some d, .extract x i, ty, pos, af, g⟩ S (S.put d (.d e)) :=
  step_value rfl hn (by simp) fun A w I ρ C hs => by
    have h := hs.ev x
    rw [hx] at h
    obtain ⟨xs, hv, hr⟩ := h
    have hlt : i < xs.length := by rw [hr.1]; exact (List.getElem?_eq_some_iff.1 hi).1
    refine ⟨xs[i], ?_, hr.2 i _ e (List.getElem?_eq_getElem hlt) hi⟩
    simp only [execOp, hv]
    simp [Instr.extract, List.getElem?_eq_getElem hlt]
end

/-! ## Memory -/

def Cap.mentions (id : Nat) : Cap → Bool
  | .row i => Nat.beq i id
  | .ptr i _ => Nat.beq i id
  | _ => false

def AV.mentions (id : Nat) : AV → Bool
  | .row i => Nat.beq i id
  | .ptr i _ => Nat.beq i id
  | .rs i _ _ => Nat.beq i id
  | .wp i _ => Nat.beq i id
  | .ws i _ _ _ => Nat.beq i id
  | .clo _ caps => caps.any (Cap.mentions id)
  | .tupc caps => caps.any (Cap.mentions id)
  | .aggc caps => caps.any (Cap.mentions id)
  | .cond _ x => x.mentions id
  | _ => false

def killAV (id : Nat) (x : AV) : AV := if x.mentions id then .top else x
def killBlk (id : Nat) : Blk → Blk
  | .box e cells => .box e (cells.map (killAV id))
  | b => b
def AState.kill (S : AState) (id : Nat) : AState :=
  { tmps := S.tmps.map fun p => (p.1, killAV id p.2), blks := S.blks.map fun p => (p.1, killBlk id p.2) }

theorem look_map {α : Type} (dflt : α) (f : α → α) (hf : f dflt = dflt) (l : List (Nat × α)) (k : Nat) : look dflt (l.map fun p => (p.1, f p.2)) k = f (look dflt l k) := by
  induction l with
  | nil => simp [look, hf]
  | cons p l ih => obtain ⟨i, x⟩ := p; simp only [List.map_cons, look_cons, ih]; split <;> rfl
theorem get_kill (S : AState) (id t : Nat) : (S.kill id).get t = killAV id (S.get t) := look_map _ _ rfl _ _
theorem blk_kill (S : AState) (id i : Nat) : (S.kill id).blk i = killBlk id (S.blk i) := look_map _ _ rfl _ _

theorem gh_kill (id : Nat) (x : AV) : (match killAV id x with | .gh k => k | _ => 0) = (match x with | .gh k => k | _ => 0) := by
  unfold killAV
  by_cases h : x.mentions id = true
  · simp only [h, if_true]
    cases x <;> first | rfl | (simp [AV.mentions] at h)
  · simp only [h]
    rfl

def upd (ρ : Nat → Value) (id : Nat) (v : Value) : Nat → Value := fun i => if i = id then v else ρ i

theorem HoldsC.upd {w w' : World} {I I' : Im} {ρ : Nat → Value} {v : Value} {x : Cap} (h : HoldsC w I ρ v x) (hs : Same I w w') (hI : ∀ b j, I b j → I' b j) (id : Nat) (u : Value) (hm : x.mentions id = false) :
    HoldsC w' I' (upd ρ id u) v x := by
  cases x with
  | top => trivial
  | d y => exact Rep.mono h hs hI
  | row i =>
    have : i ≠ id := by intro e; subst e; simp [Cap.mentions] at hm
    simpa [HoldsC, Go.AV.upd, this] using h
  | ptr i off =>
    have : i ≠ id := by intro e; subst e; simp [Cap.mentions] at hm
    simpa [HoldsC, Go.AV.upd, this] using h
theorem HoldsC.updL {w w' : World} {I I' : Im} {ρ : Nat → Value} {xs : List Value} {cs : List Cap} (h : Pw (HoldsC w I ρ) xs cs) (hs : Same I w w') (hI : ∀ b j, I b j → I' b j) (id : Nat) (u : Value) (hm : cs.any (Cap.mentions id) = false) :
    Pw (HoldsC w' I' (Go.AV.upd ρ id u)) xs cs := ⟨h.1, fun j x c hx hc => (h.2 j x c hx hc).upd hs hI id u (by
      have := List.any_eq_false.1 hm c (List.mem_of_getElem? hc); simpa using this)⟩
theorem HoldsC.mono {w w' : World} {I I' : Im} {ρ : Nat → Value} {v : Value} {x : Cap} (h : HoldsC w I ρ v x) (hs : Same I w w') (hI : ∀ b j, I b j → I' b j) : HoldsC w' I' ρ v x := by
  cases x with
  | top => trivial
  | d y => exact Rep.mono h hs hI
  | row i => exact h
  | ptr i off => exact h

theorem Holds.upd {w w' : World} {I I' : Im} {ρ : Nat → Value} {v : Value} {x : AV} (h : Holds w I ρ v x) (hs : Same I w w') (hI : ∀ b j, I b j → I' b j) (id : Nat) (u : Value) :
    Holds w' I' (upd ρ id u) v (killAV id x) := by
  unfold killAV
  by_cases hm : x.mentions id = true
  · simp [hm, Holds]
  · simp only [hm]
    show Holds w' I' (Go.AV.upd ρ id u) v x
    induction x with
    | top => trivial
    | d y => exact Rep.mono h hs hI
    | row i =>
      have : i ≠ id := by intro e; subst e; simp [AV.mentions] at hm
      simpa [Holds, Go.AV.upd, this] using h
    | ptr i off =>
      have : i ≠ id := by intro e; subst e; simp [AV.mentions] at hm
      simpa [Holds, Go.AV.upd, this] using h
    | ip cells k =>
      obtain ⟨b, off, xs, hv, hr, h1, hc⟩ := h
      exact ⟨b, off, xs, hv, hr.mono hs hI, h1, fun j y hj => ⟨(hs _ _ (hc j y hj).2).cell.trans (hc j y hj).1, hI _ _ (hc j y hj).2⟩⟩
    | tup ds => obtain ⟨xs, hv, hr⟩ := h; exact ⟨xs, hv, hr.mono hs hI⟩
    | cond g y ih => exact ⟨fun hg => ih (h.1 hg) (by simpa [AV.mentions] using hm), h.2⟩
    | gh k => trivial
    | rs i off n =>
      have : i ≠ id := by intro e; subst e; simp [AV.mentions] at hm
      simpa [Holds, Go.AV.upd, this] using h
    | clo f caps =>
      obtain ⟨xs, hv, hp⟩ := h
      exact ⟨xs, hv, HoldsC.updL hp hs hI id u (by simpa [AV.mentions] using hm)⟩
    | tupc caps =>
      obtain ⟨xs, hv, hp⟩ := h
      exact ⟨xs, hv, HoldsC.updL hp hs hI id u (by simpa [AV.mentions] using hm)⟩
    | aggc caps =>
      obtain ⟨xs, hv, hp, h1⟩ := h
      exact ⟨xs, hv, HoldsC.updL hp hs hI id u (by simpa [AV.mentions] using hm), h1⟩
    | wp i off =>
      have : i ≠ id := by intro e; subst e; simp [AV.mentions] at hm
      simpa [Holds, Go.AV.upd, this] using h
    | ws i off n tt =>
      have : i ≠ id := by intro e; subst e; simp [AV.mentions] at hm
      simpa [Holds, Go.AV.upd, this] using h

theorem Holds.mono {w w' : World} {I I' : Im} {ρ : Nat → Value} {v : Value} {x : AV} (h : Holds w I ρ v x) (hs : Same I w w') (hI : ∀ b j, I b j → I' b j) : Holds w' I' ρ v x := by
  induction x with
  | top => trivial
  | d y => exact Rep.mono h hs hI
  | row i => exact h
  | ptr i off => exact h
  | ip cells k =>
    obtain ⟨b, off, xs, hv, hr, h1, hc⟩ := h
    exact ⟨b, off, xs, hv, hr.mono hs hI, h1, fun j y hj => ⟨(hs _ _ (hc j y hj).2).cell.trans (hc j y hj).1, hI _ _ (hc j y hj).2⟩⟩
  | tup ds => obtain ⟨xs, hv, hr⟩ := h; exact ⟨xs, hv, hr.mono hs hI⟩
  | cond g y ih => exact ⟨fun hg => ih (h.1 hg), h.2⟩
  | gh k => trivial
  | rs i off n => exact h
  | clo f caps => obtain ⟨xs, hv, hp⟩ := h; exact ⟨xs, hv, hp.imp fun _ _ h => h.mono hs hI⟩
  | tupc caps => obtain ⟨xs, hv, hp⟩ := h; exact ⟨xs, hv, hp.imp fun _ _ h => h.mono hs hI⟩
  | aggc caps => obtain ⟨xs, hv, hp, h1⟩ := h; exact ⟨xs, hv, hp.imp fun _ _ h => h.mono hs hI, h1⟩
  | wp i off => exact h
  | ws i off n tt => exact h

theorem ownsRow_block {w w' : World} {B e size n : Nat} {v : Value} {xs : List Value} (h : w.ownsRow B e size v n xs) (hb : ∀ g, v.ownBlock = some g → w'.heap[g]? = w.heap[g]?) : w'.ownsRow B e size v n xs := by
  refine ⟨h.1, ?_⟩
  rcases h.2 with hn | ⟨g, cap, cur, rfl, hB, hh, rest⟩
  · exact .inl hn
  · exact .inr ⟨g, cap, cur, rfl, hB, by rw [hb g rfl]; exact hh, rest⟩

theorem ownBlock_of {v : Value} {g : Nat} (h : v.ownBlock = some g) : blockOf v = some g := by
  unfold Value.ownBlock at h
  split at h
  · simpa [blockOf] using h
  · cases h

theorem BlkOk.mono {w w' : World} {I : Im} {ρ : Nat → Value} {M : Nat → Prop} {i : Nat} {x : Blk} (h : BlkOk w I ρ M i x) (hs : Same I w w')
    (hb : ∀ b, blockOf (ρ i) = some b → w'.heap[b]? = w.heap[b]?) : BlkOk w' I ρ M i x := by
  cases x with
  | none => trivial
  | row e size sh cells =>
    obtain ⟨h0, n, xs, hl, hown, h1, hr, hI⟩ := h
    exact ⟨h0, n, xs, hl, ownsRow_block hown (fun g hg => hb g (ownBlock_of hg)), h1, hr.mono hs (fun _ _ h => h), hI⟩
  | box e cells =>
    obtain ⟨b, arr, hv, hB, hh, h1, hr, hI⟩ := h
    exact ⟨b, arr, hv, hB, by rw [hb b (by rw [hv]; rfl)]; exact hh, h1, hr.imp fun _ _ h => h.mono hs (fun _ _ h => h), hI⟩
  | map es =>
    obtain ⟨b, ents, clock, hv, hB, hh, hr, hI⟩ := h
    exact ⟨b, ents, clock, hv, hB, by rw [hb b (by rw [hv]; rfl)]; exact hh, hr.imp fun _ _ h => ⟨h.1, h.2.mono hs (fun _ _ h => h)⟩, hI⟩
  | win e size k cells =>
    obtain ⟨A, n, c, xs, hv, hnc, hp, hl, hr, h1, hA⟩ := h
    refine ⟨A, n, c, xs, hv, hnc, hp, hl, hr.mono hs (fun _ _ h => h), h1, ?_⟩
    rcases hA with hA | ⟨b, off, arr, hA, hB, hh, hrest⟩
    · exact .inl hA
    · exact .inr ⟨b, off, arr, hA, hB, by rw [hb b (by rw [hv, hA]; rfl)]; exact hh, hrest⟩

/-- What holds of a block of another id. -/
theorem BlkOk.upd {w w' : World} {I : Im} {ρ : Nat → Value} {M : Nat → Prop} {i : Nat} {x : Blk} (h : BlkOk w I ρ M i x) (hs : Same I w w')
    (hb : ∀ b, blockOf (ρ i) = some b → w'.heap[b]? = w.heap[b]?) {id : Nat} (hne : i ≠ id) (u : Value) : BlkOk w' I (upd ρ id u) M i (killBlk id x) := by
  have hρ : Go.AV.upd ρ id u i = ρ i := by simp [Go.AV.upd, hne]
  cases x with
  | none => trivial
  | row e size sh cells =>
    obtain ⟨h0, n, xs, hl, hown, h1, hr, hI⟩ := h
    refine ⟨by rw [hρ]; exact h0, n, xs, hl, ?_, h1, hr.mono hs (fun _ _ h => h), ?_⟩
    · rw [hρ]; exact ownsRow_block hown (fun g hg => hb g (ownBlock_of hg))
    · rw [hρ]; exact hI
  | box e cells =>
    obtain ⟨b, arr, hv, hB, hh, h1, hr, hI⟩ := h
    refine ⟨b, arr, by rw [hρ]; exact hv, hB, by rw [hb b (by rw [hv]; rfl)]; exact hh, h1, ⟨by simpa using hr.1, fun j y av hj hav => ?_⟩, hI⟩
    rw [List.getElem?_map] at hav
    cases hc : cells[j]? with
    | none => simp [hc] at hav
    | some av' =>
      simp [hc] at hav
      subst hav
      exact (hr.2 j y av' hj hc).upd hs (fun _ _ h => h) id u
  | map es =>
    obtain ⟨b, ents, clock, hv, hB, hh, hr, hI⟩ := h
    exact ⟨b, ents, clock, by rw [hρ]; exact hv, hB, by rw [hb b (by rw [hv]; rfl)]; exact hh, hr.imp fun _ _ h => ⟨h.1, h.2.mono hs (fun _ _ h => h)⟩, hI⟩
  | win e size k cells =>
    obtain ⟨A, n, c, xs, hv, hnc, hp, hl, hr, h1, hA⟩ := h
    refine ⟨A, n, c, xs, by rw [hρ]; exact hv, hnc, hp, hl, hr.mono hs (fun _ _ h => h), h1, ?_⟩
    rcases hA with hA | ⟨b, off, arr, hA, hB, hh, hrest⟩
    · exact .inl hA
    · exact .inr ⟨b, off, arr, hA, hB, by rw [hb b (by rw [hv, hA]; rfl)]; exact hh, hrest⟩

/-- More is immutable, but nothing of this block. -/
theorem BlkOk.widenI {w : World} {I I' : Im} {ρ : Nat → Value} {M : Nat → Prop} {i : Nat} {x : Blk} (h : BlkOk w I ρ M i x) (hsub : ∀ b j, I b j → I' b j)
    (hx : ∀ b j, x ≠ .none → blockOf (ρ i) = some b → I' b j → I b j) : BlkOk w I' ρ M i x := by
  have hs : Same I w w := fun _ _ _ => KeepB.refl
  cases x with
  | none => trivial
  | row e size sh cells =>
    obtain ⟨h0, n, xs, hl, hown, h1, hr, hI⟩ := h
    exact ⟨h0, n, xs, hl, hown, h1, hr.mono hs hsub, fun g j hg hi => hI g j hg (hx g j (by simp) (ownBlock_of hg) hi)⟩
  | box e cells =>
    obtain ⟨b, arr, hv, hB, hh, h1, hr, hI⟩ := h
    exact ⟨b, arr, hv, hB, hh, h1, hr.imp fun _ _ h => h.mono hs hsub, fun j hi => hI j (hx b j (by simp) (by rw [hv]; rfl) hi)⟩
  | map es =>
    obtain ⟨b, ents, clock, hv, hB, hh, hr, hI⟩ := h
    exact ⟨b, ents, clock, hv, hB, hh, hr.imp fun _ _ h => ⟨h.1, h.2.mono hs hsub⟩, fun j hi => hI j (hx b j (by simp) (by rw [hv]; rfl) hi)⟩
  | win e size k cells =>
    obtain ⟨A, n, c, xs, hv, hnc, hp, hl, hr, h1, hA⟩ := h
    refine ⟨A, n, c, xs, hv, hnc, hp, hl, hr.mono hs hsub, h1, ?_⟩
    rcases hA with hA | ⟨b, off, arr, hA, hB, hh, hf, hc, hI⟩
    · exact .inl hA
    · exact .inr ⟨b, off, arr, hA, hB, hh, hf, hc, fun j h1 h2 hi => hI j h1 h2 (hx b j (by simp) (by rw [hv, hA]; rfl) hi)⟩

theorem BlkOk.mineM {w : World} {I : Im} {ρ : Nat → Value} {M M' : Nat → Prop} {i : Nat} {x : Blk} (h : BlkOk w I ρ M i x)
    (hM : ∀ b, x ≠ .none → blockOf (ρ i) = some b → M b → M' b) : BlkOk w I ρ M' i x := by
  cases x with
  | none => trivial
  | row e size sh cells =>
    obtain ⟨h0, rest⟩ := h
    exact ⟨⟨h0.1, fun g hg => hM g (by simp) (ownBlock_of hg) (h0.2 g hg)⟩, rest⟩
  | box e cells =>
    obtain ⟨b, arr, hv, hB, rest⟩ := h
    exact ⟨b, arr, hv, hM b (by simp) (by rw [hv]; rfl) hB, rest⟩
  | map es =>
    obtain ⟨b, ents, clock, hv, hB, rest⟩ := h
    exact ⟨b, ents, clock, hv, hM b (by simp) (by rw [hv]; rfl) hB, rest⟩
  | win e size k cells =>
    obtain ⟨A, n, c, xs, hv, hnc, hp, hl, hr, h1, hA⟩ := h
    refine ⟨A, n, c, xs, hv, hnc, hp, hl, hr, h1, ?_⟩
    rcases hA with hA | ⟨b, off, arr, hA, hB, rest⟩
    · exact .inl hA
    · exact .inr ⟨b, off, arr, hA, hM b (by simp) (by rw [hv, hA]; rfl) hB, rest⟩

theorem SatAt.blt {E : Env} {S : AState} {a : Act} {w : World} {I : Im} {ρ : Nat → Value} {C : Nat → Prop} (h : SatAt E S a w I ρ C) : ∀ i b, S.blk i ≠ .none → blockOf (ρ i) = some b → E.mine b ∧ b < w.heap.size := by
  intro i b hi hb
  have := h.blks i
  cases hx : S.blk i with
  | none => exact absurd hx hi
  | row e size sh cells =>
    rw [hx] at this
    obtain ⟨hM, n, xs, hl, hown, _⟩ := this
    rcases hown.2 with ⟨hn, _⟩ | ⟨g, cap, cur, hv, hB, hh, _⟩
    · rw [hn] at hb; simp [blockOf] at hb
    · have hM2 := hM.2 g (by rw [hv]; rfl)
      rw [hv] at hb
      simp [blockOf] at hb
      subst hb
      exact ⟨hM2, (Array.getElem?_eq_some_iff.1 hh).1⟩
  | box e cells =>
    rw [hx] at this
    obtain ⟨b', arr, hv, hB, hh, _⟩ := this
    rw [hv] at hb
    simp [blockOf] at hb
    subst hb
    exact ⟨hB, (Array.getElem?_eq_some_iff.1 hh).1⟩
  | map es =>
    rw [hx] at this
    obtain ⟨b', ents, clock, hv, hB, hh, _⟩ := this
    rw [hv] at hb
    simp [blockOf] at hb
    subst hb
    exact ⟨hB, (Array.getElem?_eq_some_iff.1 hh).1⟩
  | win e size k cells =>
    rw [hx] at this
    obtain ⟨A, n, c, xs, hv, _, _, _, _, _, hA⟩ := this
    rcases hA with ⟨hA, _⟩ | ⟨b', off, arr, hA, hB, hh, _⟩
    · rw [hv, hA] at hb; simp [blockOf] at hb
    · rw [hv, hA] at hb
      simp [blockOf] at hb
      subst hb
      exact ⟨hB, (Array.getElem?_eq_some_iff.1 hh).1⟩

/-- All that was there is as it was. -/
theorem SatAt.grow {E : Env} {S : AState} {a : Act} {w w' : World} {I : Im} {ρ : Nat → Value} {C : Nat → Prop} (h : SatAt E S a w I ρ C) (hb : Below w.heap.size w w') : SatAt E S a w' I ρ C := by
  have hs : Same I w w' := fun b j hi => KeepB.of (hb.block b (h.old b j hi).1)
  refine ⟨fun t => (h.tmps t).mono hs (fun _ _ h => h), fun i => ?_, h.dist, E.grow _ _ _ _ h.frame hb, h.sub, fun b j hi => ⟨Nat.lt_of_lt_of_le (h.old b j hi).1 hb.size, (h.old b j hi).2⟩, h.size, h.defers.keep fun r hr => (hb.block r (Array.getElem?_eq_some_iff.1 hr).1).trans hr, h.cI, h.cB, h.nm⟩
  cases hx : S.blk i with
  | none => trivial
  | _ =>
    rw [← hx]
    exact (h.blks i).mono hs (fun b hb' => hb.block b (h.blt i b (by rw [hx]; simp) hb').2)

theorem SatAt.cellBlk {E : Env} {S : AState} {a : Act} {w : World} {I : Im} {ρ : Nat → Value} {C : Nat → Prop} (h : SatAt E S a w I ρ C) {id b : Nat} (hid : S.blk id ≠ .none) (hρ : blockOf (ρ id) = some b) : ∃ o, w.heap[b]? = some o ∧ isData o = true := by
  have := h.blks id
  cases hx : S.blk id with
  | none => exact absurd hx hid
  | row e size sh cells =>
    rw [hx] at this
    obtain ⟨_, n, xs, hl, hown, _⟩ := this
    rcases hown.2 with ⟨hn, _⟩ | ⟨g, cap, cur, hv, hB, hh, _⟩
    · rw [hn] at hρ; simp [blockOf] at hρ
    · rw [hv] at hρ
      simp [blockOf] at hρ
      subst hρ
      exact ⟨_, hh, rfl⟩
  | box e cells =>
    rw [hx] at this
    obtain ⟨b', arr, hv, hB, hh, _⟩ := this
    rw [hv] at hρ
    simp [blockOf] at hρ
    subst hρ
    exact ⟨_, hh, rfl⟩
  | map es =>
    rw [hx] at this
    obtain ⟨b', ents, clock, hv, hB, hh, _⟩ := this
    rw [hv] at hρ
    simp [blockOf] at hρ
    subst hρ
    exact ⟨_, hh, rfl⟩
  | win e size k cells =>
    rw [hx] at this
    obtain ⟨A, n, c, xs, hv, _, _, _, _, _, hA⟩ := this
    rcases hA with ⟨hA, _⟩ | ⟨b', off, arr, hA, hB, hh, _⟩
    · rw [hv, hA] at hρ; simp [blockOf] at hρ
    · rw [hv, hA] at hρ
      simp [blockOf] at hρ
      subst hρ
      exact ⟨_, hh, rfl⟩

/-- The block of 'id' is written. -/
theorem SatAt.modify {E : Env} {S : AState} {a : Act} {w w' : World} {I : Im} {ρ : Nat → Value} {C : Nat → Prop} (h : SatAt E S a w I ρ C) {id b : Nat} {x : Blk} (hg : w.grownBy w' (some b))
    (hid : S.blk id ≠ .none) (hρ : blockOf (ρ id) = some b) (hs : Same I w w') (hx : BlkOk w' I ρ E.mine id x) (hE : E.wrB = true) : SatAt E (S.setBlk id x) a w' I ρ C := by
  have hcell : ∃ o, w.heap[b]? = some o ∧ isData o = true := h.cellBlk hid hρ
  refine ⟨fun t => (h.tmps t).mono hs (fun _ _ h => h), fun i => ?_, fun i i' b' hne hi hi' hb => ?_, E.wr hE _ _ _ _ _ h.frame (Chg.of hg) (fun k hk => by cases hk; exact ⟨(h.blt id _ hid hρ).1, h.cB id _ hid hρ, hcell⟩) (fun b j hi => hs b j (h.sub b j hi)), h.sub,
    fun b j hi => ⟨Nat.lt_of_lt_of_le (h.old b j hi).1 hg.size, (h.old b j hi).2⟩, h.size, h.defers.keep fun r hr => (hg.block r (Array.getElem?_eq_some_iff.1 hr).1 (fun e => by cases e; obtain ⟨o, hc, hd⟩ := hcell; rw [hc] at hr; cases hr; cases hd)).trans hr, h.cI, fun i b' hi hb' => ?_, fun i v hv hi => h.nm i v hv ?_⟩
  · rw [blk_setBlk]
    by_cases e : id = i
    · subst e; simpa using hx
    · simp only [e, if_false]
      cases hb : S.blk i with
      | none => trivial
      | _ =>
        rw [← hb]
        have hne' : S.blk i ≠ .none := by rw [hb]; simp
        exact (h.blks i).mono hs (fun b' hb' => hg.block b' (h.blt i b' hne' hb').2 (fun he => h.dist i id b' (fun e' => e e'.symm) hne' hid hb' (by rw [hρ, he])))
  · have key : ∀ i, (S.setBlk id x).blk i ≠ .none → S.blk i ≠ .none := by
      intro i hi
      rw [blk_setBlk] at hi
      by_cases e : id = i
      · subst e; exact hid
      · simpa [e] using hi
    exact h.dist i i' b' hne (key i hi) (key i' hi') hb
  · refine h.cB i b' ?_ hb'
    rw [blk_setBlk] at hi
    by_cases e : id = i
    · subst e; exact hid
    · simpa [e] using hi
  · rw [blk_setBlk] at hi
    by_cases e : id = i
    · subst e; exact hid
    · simpa [e] using hi

/-- The world has turned at the block of 'id' alone (or new blocks came). -/
theorem SatAt.update {E : Env} {S : AState} {a : Act} {w w' : World} {I : Im} {ρ : Nat → Value} {C : Nat → Prop} (h : SatAt E S a w I ρ C) {row : Option Nat} (hg : w.grownBy w' row) {id : Nat} {u : Value} {x : Blk}
    (hrow : ∀ k, row = some k → S.blk id ≠ .none ∧ blockOf (ρ id) = some k)
    (hs : Same I w w') (hu : ∀ b, blockOf u = some b → w.heap.size ≤ b ∨ (S.blk id ≠ .none ∧ blockOf (ρ id) = some b)) (hx : BlkOk w' I (upd ρ id u) E.mine id x) (hE : row = none ∨ E.wrB = true) (hnm : E.nm id = none) :
    SatAt E ((S.kill id).setBlk id x) a w' I (upd ρ id u) C := by
  have hfr : E.fr ((S.kill id).setBlk id x).ghost C w' := by
    have hgh : ((S.kill id).setBlk id x).ghost = S.ghost := by
      unfold AState.ghost
      rw [get_setBlk, get_kill]
      exact gh_kill id _
    rw [hgh]
    rcases hE with rfl | hE
    · exact E.grow _ _ _ _ h.frame ⟨hg.os, hg.tape, hg.output, hg.size, fun k hk => hg.block k hk (by simp)⟩
    · exact E.wr hE _ _ _ _ _ h.frame (Chg.of hg) (fun k hk => ⟨(h.blt id k (hrow k hk).1 (hrow k hk).2).1, h.cB id k (hrow k hk).1 (hrow k hk).2, h.cellBlk (hrow k hk).1 (hrow k hk).2⟩) (fun b j hi => hs b j (h.sub b j hi))
  have blt : ∀ i b, S.blk i ≠ .none → blockOf (ρ i) = some b → b < w.heap.size := fun i b hi hb => (h.blt i b hi hb).2
  refine ⟨fun t => ?_, fun i => ?_, fun i i' b hne hi hi' hb => ?_, hfr, h.sub, fun b j hb => ⟨Nat.lt_of_lt_of_le (h.old b j hb).1 hg.size, (h.old b j hb).2⟩, h.size, h.defers.keep fun r hr => (hg.block r (Array.getElem?_eq_some_iff.1 hr).1 (fun e => by
    obtain ⟨h1, h2⟩ := hrow r e.symm
    obtain ⟨o, hc, hd⟩ := h.cellBlk h1 h2
    rw [hc] at hr; cases hr; cases hd)).trans hr, h.cI, fun i b hi hb => ?_, fun i v hv hi => ?_⟩
  · rw [get_setBlk, get_kill]
    exact (h.tmps t).upd hs (fun _ _ h => h) id u
  · rw [blk_setBlk]
    by_cases e : id = i
    · subst e; simpa using hx
    · simp only [e, if_false]
      rw [blk_kill]
      cases hb : S.blk i with
      | none => trivial
      | _ =>
        rw [← hb]
        refine (h.blks i).upd hs (fun b hb' => ?_) (fun e' => e e'.symm) u
        have hne' : S.blk i ≠ .none := by rw [hb]; simp
        refine hg.block b (blt i b hne' hb') (fun he => ?_)
        obtain ⟨h1, h2⟩ := hrow b he.symm
        exact h.dist i id b (fun e' => e e'.symm) hne' h1 hb' h2
  · have key : ∀ i, ((S.kill id).setBlk id x).blk i ≠ .none → i ≠ id → S.blk i ≠ .none := by
      intro i hi hn
      rw [blk_setBlk, if_neg (fun e => hn e.symm), blk_kill] at hi
      intro e; rw [e] at hi; exact hi rfl
    have updne : ∀ i, i ≠ id → upd ρ id u i = ρ i := fun i hn => by simp [upd, hn]
    have upde : upd ρ id u id = u := by simp [upd]
    by_cases e : i = id
    · have e' : i' ≠ id := fun e' => hne (e.trans e'.symm)
      subst e
      rw [upde] at hb
      rw [updne i' e']
      intro hb'
      rcases hu b hb with hb2 | ⟨h1, h2⟩
      · have := blt i' b (key i' hi' e') hb'; omega
      · exact h.dist i i' b hne h1 (key i' hi' e') h2 hb'
    · by_cases e' : i' = id
      · subst e'
        rw [updne i e] at hb
        rw [upde]
        intro hb'
        rcases hu b hb' with hb2 | ⟨h1, h2⟩
        · have := blt i b (key i hi e) hb; omega
        · exact h.dist i i' b hne (key i hi e) h1 hb h2
      · rw [updne i e] at hb
        rw [updne i' e']
        exact h.dist i i' b hne (key i hi e) (key i' hi' e') hb
  · by_cases e : i = id
    · subst e
      have hb' : blockOf u = some b := by simpa [upd] using hb
      rcases hu b hb' with h1 | ⟨h1, h2⟩
      · intro hc
        have := E.csize _ _ _ h.frame _ hc
        omega
      · exact h.cB i b h1 h2
    · refine h.cB i b ?_ (by simpa [upd, e] using hb)
      rw [blk_setBlk, if_neg (fun e' => e e'.symm), blk_kill] at hi
      intro e'; rw [e'] at hi; exact hi rfl
  · have hne : i ≠ id := fun e => by rw [e, hnm] at hv; cases hv
    have : upd ρ id u i = ρ i := by simp [upd, hne]
    rw [this]
    refine h.nm i v hv ?_
    rw [blk_setBlk, if_neg (fun e' => hne e'.symm), blk_kill] at hi
    intro e'; rw [e'] at hi; exact hi rfl
end Go.AV

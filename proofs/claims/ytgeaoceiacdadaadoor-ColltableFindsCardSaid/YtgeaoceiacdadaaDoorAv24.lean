/- The layer of abstract values: what a temporary holds, said once; every rule of it is proved from the model. Conditions: none. -/
import Derived.Test.YtgeaoceiacdadaaDoorAv23
set_option linter.unusedSimpArgs false
set_option linter.unusedVariables false
set_option linter.unnecessarySimpa false
namespace Go.AV
open Go.RowKit Go.M

section
variable {P : Program}

/-- A field of one cell whose values are compared. -/
structure EqFld (P : Program) (f : Field) : Prop where
  name : f.name ≠ "_"
  agg : ∀ w, (isAgg f.type).run P w = .ok false w
  und : (∃ k, P.underlying f.type = some (.int k)) ∨ P.underlying f.type = some .bool ∨ P.underlying f.type = some .string

theorem run_equalIn_int {t : TypeId} {k k' : IntKind} (hu : P.underlying t = some (.int k)) (d : Nat) (a b : Int) (w : World) : (Op.equalIn (d + 1) t (.int k' a) (.int k' b)).run P w = .ok (decide (a = b)) w := by
  rw [Op.equalIn]
  simp only [Sem.run_bind, run_underlying hu, Result.andThen_ok, if_true, Sem.run_pure]
  rfl
theorem run_equalIn_bool {t : TypeId} (hu : P.underlying t = some .bool) (d : Nat) (a b : Bool) (w : World) : (Op.equalIn (d + 1) t (.bool a) (.bool b)).run P w = .ok (decide (a = b)) w := by
  rw [Op.equalIn]
  simp only [Sem.run_bind, run_underlying hu, Result.andThen_ok, Sem.run_pure]
  cases a <;> cases b <;> rfl
theorem run_equalIn_str {t : TypeId} (hu : P.underlying t = some .string) (d : Nat) (a b : Str) (w : World) : (Op.equalIn (d + 1) t (.string ⟨a.toArray⟩) (.string ⟨b.toArray⟩)).run P w = .ok (decide (a = b)) w := by
  rw [Op.equalIn]
  simp only [Sem.run_bind, run_underlying hu, Result.andThen_ok, Sem.run_pure, ba_beq]

theorem run_part {t : TypeId} {xs : Array Value} {off : Nat} {a : Value} (h : ∀ w, (isAgg t).run P w = .ok false w) (hx : xs[off]? = some a) (w : World) : (part t xs off).run P w = .ok a w := by
  simp [part, h, hx]

theorem run_forEq {w : World} {F : Field → Option Bool × PUnit → Sem (ForInStep (Option Bool × PUnit))} : ∀ (fs : List Field) (cs : List Bool), Pw (fun (f : Field) c => ∀ s, (F f s).run P w = .ok (if c then .yield (none, ()) else .done (some false, ())) w) fs cs →
    (forIn fs ((none, ()) : Option Bool × PUnit) F).run P w = .ok (if cs.all id then (none, ()) else (some false, ())) w
  | [], cs, h => by cases cs with
    | nil => simp
    | cons c cs => have := h.1; simp at this
  | f :: fs, cs, h => by cases cs with
    | nil => have := h.1; simp at this
    | cons c cs =>
      obtain ⟨h1, ht⟩ := pw_tail h
      have ih := run_forEq fs cs ht
      rw [List.forIn_cons]
      simp only [Sem.run_bind, h1, Result.andThen_ok]
      cases c with
      | false => simp
      | true => simpa using ih

/-- The comparisons of the fields, one after the other. -/
def Eqs (P : Program) (d : Nat) (xs ys : Array Value) (w : World) (fs : List Field) (cs : List Bool) : Prop :=
  Pw (fun (f : Field) c => f.name ≠ "_" ∧ (∀ w, (isAgg f.type).run P w = .ok false w) ∧ ∃ a b, xs[f.offset]? = some a ∧ ys[f.offset]? = some b ∧ (Op.equalIn d f.type a b).run P w = .ok c w) fs cs
theorem eqs_nil {d : Nat} {xs ys : Array Value} {w : World} : Eqs P d xs ys w [] [] := Pw.nil
section
variable {d : Nat} {xs ys : Array Value} {w : World} {f : Field} {fs : List Field} {cs : List Bool} (hn : (f.name == "_") = false) (ho : OneTy P f.type) (hs : Eqs P (d + 1) xs ys w fs cs)
include hn ho hs
theorem eqs_int {k k' : IntKind} {a b : Int} (hu : P.underlying f.type = some (.int k)) (hx : xs[f.offset]? = some (.int k' a)) (hy : ys[f.offset]? = some (.int k' b)) : Eqs P (d + 1) xs ys w (f :: fs) (decide (a = b) :: cs) :=
  Pw.cons ⟨by simpa using hn, ho.agg, _, _, hx, hy, run_equalIn_int hu d a b w⟩ hs
theorem eqs_bool {a b : Bool} (hu : P.underlying f.type = some .bool) (hx : xs[f.offset]? = some (.bool a)) (hy : ys[f.offset]? = some (.bool b)) : Eqs P (d + 1) xs ys w (f :: fs) (decide (a = b) :: cs) :=
  Pw.cons ⟨by simpa using hn, ho.agg, _, _, hx, hy, run_equalIn_bool hu d a b w⟩ hs
theorem eqs_str {a b : Str} (hu : P.underlying f.type = some .string) (hx : xs[f.offset]? = some (.string ⟨a.toArray⟩)) (hy : ys[f.offset]? = some (.string ⟨b.toArray⟩)) : Eqs P (d + 1) xs ys w (f :: fs) (decide (a = b) :: cs) :=
  Pw.cons ⟨by simpa using hn, ho.agg, _, _, hx, hy, run_equalIn_str hu d a b w⟩ hs
end

/-- == on a struct type, for values that are laid by en. -/
structure EqTy {α : Type} [DecidableEq α] (P : Program) (t : TypeId) (en : En α) : Prop where
  eq : ∀ (a b : α) (va vb : Value) w I, Rep w I va (en.dv a) → Rep w I vb (en.dv b) → (∃ xs ys, va = .agg xs ∧ vb = .agg ys) ∧ (Op.equal t va vb).run P w = .ok (decide (a = b)) w
  guard : ∀ (op : BinOp) (x y : Operand) xs ys w, (eqGuard op t x y (.agg xs) (.agg ys)).run P w = .ok () w

theorem rep_v {w : World} {I : Im} {u v : Value} (h : Rep w I u (.v v)) : u = v := by cases h; rfl
theorem rep_agg_v {w : World} {I : Im} {v : Value} {vs : List Value} (h : Rep w I v (.agg (vs.map DV.v))) : v = .agg vs.toArray := by
  cases h with
  | agg xs cells hx h1 hr =>
    congr 2
    apply List.ext_getElem?
    intro j
    have hlen : xs.length = vs.length := by simpa using hx
    by_cases hj : j < xs.length
    · have h1 : xs[j]? = some xs[j] := List.getElem?_eq_getElem hj
      have h2 : vs[j]? = some (vs[j]'(by omega)) := List.getElem?_eq_getElem (by omega)
      have := hr j xs[j] (.v (vs[j]'(by omega))) h1 (by simp [h2])
      rw [h1, h2, rep_v this]
    · rw [List.getElem?_eq_none (by omega), List.getElem?_eq_none (by omega)]

theorem EqTy.of {α : Type} [DecidableEq α] {t : TypeId} {en : En α} {fields : Array Field} {vals : α → List Value} {cs : α → α → List Bool} (hu : P.underlying t = some (.struct fields)) (hst : P.stoodInHeld t = false) (hg : P.eqGuardType P.depth t = false)
    (hv : ∀ a, en.dv a = .agg ((vals a).map DV.v)) (he : ∀ a b w, Eqs P (9998 + 1) (vals a).toArray (vals b).toArray w fields.toList (cs a b)) (hc : ∀ a b, (cs a b).all id = decide (a = b)) : EqTy P t en where
  eq := fun a b va vb w I h1 h2 => by
    rw [hv] at h1 h2
    rw [rep_agg_v h1, rep_agg_v h2]
    refine ⟨⟨_, _, rfl, rfl⟩, ?_⟩
    show (Op.equalIn (9999 + 1) t _ _).run P w = _
    rw [Op.equalIn]
    simp only [Sem.run_bind, run_underlying hu, Result.andThen_ok]
    have hp : (program).run P w = .ok P w := by rfl
    simp only [hp, hst, Result.andThen_ok, Bool.false_eq_true, if_false, Sem.run_pure]
    rw [← Array.forIn_toList, ← hc a b]
    have hfor := fun F h => run_forEq (P := P) (w := w) (F := F) fields.toList (cs a b) h
    simp only [Sem.run_bind]
    rw [hfor _ ⟨(he a b w).1, fun j f c hf hcj s => ?_⟩]
    · simp only [Result.andThen_ok]
      cases (cs a b).all id <;> simp
    · obtain ⟨q1, q2, x, y, q3, q4, q5⟩ := (he a b w).2 j f c hf hcj
      simp only [q1, ne_eq, not_false_eq_true, if_true, Sem.run_bind, run_part q2 q3, run_part q2 q4, Result.andThen_ok]
      have q5' : (Op.equalIn 9999 f.type x y).run P w = .ok c w := q5
      rw [q5']
      cases c <;> simp
  guard := fun op x y xs ys w => by
    have hp : (program).run P w = .ok P w := by rfl
    cases op <;> simp [eqGuard, hp, hg]

variable {r : Option Nat} {E : Env} {S : AState} {d : Nat} {ty : TypeId} {pos : String} {af : Array Edge} {g : Option (Nat × Bool)}
theorem m_steql {α : Type} [DecidableEq α] {en : En α} {x y : Operand} {a b : α} {tx tz : TypeId} (hn : d < E.n) (hT : EqTy P tx en) (hx : S.ev x = .d (en.dv a)) (hy : S.ev y = .d (en.dv b)) :
    AOp P r E S ⟨some d, .binOp .eql tx x y tz, ty, pos, af, g⟩ d (.d (.v (.bool (decide (a = b))))) :=
  ⟨rfl, hn, fun S' h => step_val rfl hn (by simp) fun A w I ρ C hs => by
    have h1 := hs.ev x
    rw [(h.ev (by simp [Op.operands])).trans hx] at h1
    have h2 := hs.ev y
    rw [(h.ev (by simp [Op.operands])).trans hy] at h2
    obtain ⟨⟨xs, ys, e1, e2⟩, h3⟩ := hT.eq a b _ _ w I h1 h2
    rw [e1, e2] at h3
    have hb : binOp .eql tx (.agg xs) (.agg ys) = (do pure (.bool (← Op.equal tx (.agg xs) (.agg ys)))) := rfl
    simp only [execOp, e1, e2, Sem.run_bind, hT.guard, Result.andThen_ok, hb, h3, Sem.run_pure]⟩
theorem m_stneq {α : Type} [DecidableEq α] {en : En α} {x y : Operand} {a b : α} {tx tz : TypeId} (hn : d < E.n) (hT : EqTy P tx en) (hx : S.ev x = .d (en.dv a)) (hy : S.ev y = .d (en.dv b)) :
    AOp P r E S ⟨some d, .binOp .neq tx x y tz, ty, pos, af, g⟩ d (.d (.v (.bool (!decide (a = b))))) :=
  ⟨rfl, hn, fun S' h => step_val rfl hn (by simp) fun A w I ρ C hs => by
    have h1 := hs.ev x
    rw [(h.ev (by simp [Op.operands])).trans hx] at h1
    have h2 := hs.ev y
    rw [(h.ev (by simp [Op.operands])).trans hy] at h2
    obtain ⟨⟨xs, ys, e1, e2⟩, h3⟩ := hT.eq a b _ _ w I h1 h2
    rw [e1, e2] at h3
    have hb : binOp .neq tx (.agg xs) (.agg ys) = (do pure (.bool (!(← Op.equal tx (.agg xs) (.agg ys))))) := rfl
    simp only [execOp, e1, e2, Sem.run_bind, hT.guard, Result.andThen_ok, hb, h3, Sem.run_pure]⟩

/-- A whole struct is written into its variable. -/
theorem s_store_boxA {t n : Nat} {x y : Operand} {id eb : Nat} {cells : List AV} {ds : List DV} (hT : AggTy P t n) (hx : S.ev x = .ptr id 0) (hb : S.blk id = .box eb cells) (hy : S.ev y = .d (.agg ds)) (hl : cells.length = n) (hl2 : ds.length = n) (hE : E.wrB = true) :
    Step P r E ⟨none, .store t x y, ty, pos, af, g⟩ S (S.setBlk id (.box eb (ds.map AV.d))) :=
  step_skip rfl (by simp) fun A w I ρ C hs => by
    have h := hs.ev x
    rw [hx] at h
    obtain ⟨b, hρ, hv⟩ := h
    have hbk := hs.blks id
    rw [hb] at hbk
    obtain ⟨b', arr, hρ', hB, hh, h1', hpw, hI⟩ := hbk
    have hbb : b' = b := by rw [hρ'] at hρ; simpa [blockOf] using hρ
    subst hbb
    have hyv := hs.ev y
    rw [hy] at hyv
    have hyv' : Rep w I (A.eval y) (.agg ds) := hyv
    generalize he : A.eval y = vy at hyv'
    cases hyv' with
    | agg xs cells' hlx h1 hr =>
      have hsz : arr.size = n := by rw [← Array.length_toList, hpw.1]; exact hl
      have hxl : xs.length = n := by rw [hlx]; exact hl2
      have hst := run_storeN (P := P) w hT (b := b') (off := 0) (vs := xs) hh (by omega) hxl h1
      have e1 : arr.toList.take 0 ++ xs ++ arr.toList.drop (0 + n) = xs := by
        rw [List.drop_eq_nil_of_le (by simp; omega)]; simp
      rw [e1] at hst
      refine ⟨_, ?_, I, ρ, C, hs.modify (grownBy_setRow w b' xs.toArray) (by rw [hb]; simp) hρ (same_setRow hI) ⟨b', xs.toArray, hρ', hB, setRow_heap w b' arr _ eb _ hh, by simpa using h1, ?_, hI⟩ hE⟩
      · simp only [execOp, hv, he, Sem.run_bind, hst]
        rfl
      · have hrp : Reps w I xs ds := ⟨hlx, hr⟩
        exact pw_d (ρ := ρ) (Reps.mono hrp (same_setRow hI) (fun _ _ h => h))
end
end Go.AV

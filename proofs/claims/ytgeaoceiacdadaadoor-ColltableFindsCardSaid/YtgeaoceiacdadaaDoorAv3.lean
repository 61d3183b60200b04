/- The layer of abstract values: what a temporary holds, said once; every rule of it is proved from the model. Conditions: none. -/
import Derived.Test.YtgeaoceiacdadaaDoorAv2
set_option linter.unusedSimpArgs false
set_option linter.unusedVariables false
set_option linter.unnecessarySimpa false
namespace Go.AV
open Go.RowKit

/-! ## Rows handed on as data -/

def AState.dv (S : AState) : AV → Option DV
  | .d x => some x
  | .row id => match S.blk id with
    | .row _ size _ cells => some (.sl size cells)
    | _ => none
  | _ => none
def AState.shareAV (S : AState) : AV → AState
  | .row id => match S.blk id with
    | .row e size _ cells => S.setBlk id (.row e size true cells)
    | _ => S
  | _ => S

theorem ownsRow_cells {w : World} {B e size n : Nat} {v : Value} {xs : List Value} (h : w.ownsRow B e size v n xs) {b : Nat} (hb : v.ownBlock = some b) : ∃ arr e' fr, w.heap[b]? = some (.cells arr e' fr) := by
  rcases h.2 with ⟨hn, _⟩ | ⟨g, cap, cur, hv, hB, hh, _⟩
  · rw [hn] at hb; simp [Value.ownBlock] at hb
  · rw [hv] at hb; simp [Value.ownBlock] at hb; subst hb; exact ⟨_, _, _, hh⟩
theorem same_refl (I : Im) (w : World) : Same I w w := fun _ _ _ => KeepB.refl

theorem SatAt.shareRow {E : Env} {S : AState} {a : Act} {w : World} {I : Im} {ρ : Nat → Value} {C : Nat → Prop} (h : SatAt E S a w I ρ C) {id e size : Nat} {sh : Bool} {cells : List DV} (hb : S.blk id = .row e size sh cells) :
    ∃ I' : Im, (∀ b j, I b j → I' b j) ∧ SatAt E (S.setBlk id (.row e size true cells)) a w I' ρ C ∧ Rep w I' (ρ id) (.sl size cells) := by
  have hk := h.blks id
  rw [hb] at hk
  obtain ⟨hp, n, xs, hl, hown, h1, hpw, hI⟩ := hk
  have hne : S.blk id ≠ .none := by rw [hb]; simp
  let I' : Im := fun b j => I b j ∨ ((ρ id).ownBlock = some b ∧ j < cells.length)
  have hsub : ∀ b j, I b j → I' b j := fun b j hi => .inl hi
  refine ⟨I', hsub, ⟨fun t => (h.tmps t).mono (same_refl I w) hsub, fun i => ?_, fun i i' b hn hi hi' => ?_, h.frame, fun b j hi => hsub b j (h.sub b j hi), fun b j hi => ?_, h.size, h.defers, fun b j hi => ?_, fun i b hi hb' => ?_, fun i v hv hi => h.nm i v hv ?_⟩, ?_⟩
  · rw [blk_setBlk]
    by_cases e' : id = i
    · subst e'
      simp only [if_true]
      refine ⟨hp, n, xs, hl, hown, h1, hpw.mono (same_refl I w) hsub, fun g j hg hi => ⟨rfl, ?_⟩⟩
      rcases hi with hi | ⟨_, hi⟩
      · exact (hI g j hg hi).2
      · exact hi
    · simp only [e', if_false]
      refine (h.blks i).widenI hsub fun b j hx hbo hi => ?_
      rcases hi with hi | ⟨hi, _⟩
      · exact hi
      · exact absurd hbo (h.dist id i b e' hne hx (ownBlock_of hi))
  · have key : ∀ i, (S.setBlk id (.row e size true cells)).blk i ≠ .none → S.blk i ≠ .none := by
      intro i hi
      rw [blk_setBlk] at hi
      by_cases e' : id = i
      · subst e'; exact hne
      · simpa [e'] using hi
    exact h.dist i i' b hn (key i hi) (key i' hi')
  · rcases hi with hi | ⟨hi, _⟩
    · exact h.old b j hi
    · have := h.blt id b hne (ownBlock_of hi)
      exact ⟨this.2, .inr this.1⟩
  · rcases hi with hi | ⟨hi, _⟩
    · exact h.cI b j hi
    · exact h.cB id b hne (ownBlock_of hi)
  · refine h.cB i b ?_ hb'
    rw [blk_setBlk] at hi
    by_cases e' : id = i
    · subst e'; exact hne
    · simpa [e'] using hi
  · rw [blk_setBlk] at hi
    by_cases e' : id = i
    · subst e'; exact hne
    · simpa [e'] using hi
  · rcases hown.2 with ⟨hn, rfl⟩ | ⟨gb, cap, cur, hn, hB, hh, hnc, hcm, hcs, htk⟩
    · have : cells = [] := List.eq_nil_of_length_eq_zero (by simpa using hl)
      subst this
      rw [hn]
      exact .nil _ _ _
    · rw [hn]
      by_cases h0 : n = 0
      · subst h0
        have : cells = [] := List.eq_nil_of_length_eq_zero (by simpa using hl)
        subst this
        exact .nil _ _ _
      · refine .sl gb 0 n cap size xs cells (by omega) hnc hl hpw.1 (fun j x hj => ⟨?_, .inr ⟨by rw [hn]; rfl, ?_⟩⟩) h1 (hpw.mono (same_refl I w) hsub).2
        · have := hown.cells (g := gb) (by rw [hn]; rfl) j x hj
          rw [add_lit] at this
          exact this
        · rw [← hpw.1, Nat.zero_add]
          exact (List.getElem?_eq_some_iff.1 hj).1

theorem SatAt.dv {E : Env} {S : AState} {a : Act} {w : World} {I : Im} {ρ : Nat → Value} {C : Nat → Prop} (h : SatAt E S a w I ρ C) {v : Value} {x : AV} {y : DV} (hv : Holds w I ρ v x) (hx : S.dv x = some y) :
    ∃ I' : Im, (∀ b j, I b j → I' b j) ∧ SatAt E (S.shareAV x) a w I' ρ C ∧ Rep w I' v y := by
  cases x with
  | d z => simp [AState.dv] at hx; subst hx; exact ⟨I, fun _ _ h => h, h, hv⟩
  | row id =>
    simp only [AState.dv] at hx
    cases hb : S.blk id with
    | row e size sh cells =>
      rw [hb] at hx
      simp at hx
      subst hx
      obtain ⟨I', h1, h2, h3⟩ := h.shareRow hb
      have hv' : v = ρ id := hv
      refine ⟨I', h1, ?_, by rw [hv']; exact h3⟩
      simp only [AState.shareAV, hb]
      exact h2
    | none => rw [hb] at hx; simp at hx
    | box e c => rw [hb] at hx; simp at hx
    | map es => rw [hb] at hx; simp at hx
    | win e s k c => rw [hb] at hx; simp at hx
  | _ => simp [AState.dv] at hx

theorem dv_share (S : AState) (x y : AV) : (S.shareAV x).dv y = S.dv y := by
  unfold AState.shareAV
  split
  · rename_i id
    split
    · rename_i e size sh cells hb
      cases y with
      | row i =>
        simp only [AState.dv, blk_setBlk]
        by_cases e' : id = i
        · subst e'; simp [hb]
        · simp [e']
      | _ => rfl
    · rfl
  · rfl

def AState.dvL (S : AState) : List AV → Option (List DV)
  | [] => some []
  | x :: r => match S.dv x, S.dvL r with
    | some y, some ys => some (y :: ys)
    | _, _ => none
def AState.shareL (S : AState) : List AV → AState
  | [] => S
  | x :: r => (S.shareAV x).shareL r

theorem dvL_share (S : AState) (x : AV) (l : List AV) : (S.shareAV x).dvL l = S.dvL l := by
  induction l with
  | nil => rfl
  | cons y l ih => simp only [AState.dvL, dv_share, ih]

theorem SatAt.dvL {E : Env} {a : Act} {w : World} {ρ : Nat → Value} {C : Nat → Prop} (l : List AV) : ∀ {S : AState} {I : Im} (_ : SatAt E S a w I ρ C) {vs : List Value} {ds : List DV} (_ : Pw (Holds w I ρ) vs l) (_ : S.dvL l = some ds),
    ∃ I' : Im, (∀ b j, I b j → I' b j) ∧ SatAt E (S.shareL l) a w I' ρ C ∧ Reps w I' vs ds := by
  induction l with
  | nil =>
    intro S I h vs ds hp hd
    simp [AState.dvL] at hd
    subst hd
    have : vs = [] := List.eq_nil_of_length_eq_zero hp.1
    subst this
    exact ⟨I, fun _ _ h => h, h, Pw.nil⟩
  | cons x l ih =>
    intro S I h vs ds hp hd
    cases vs with
    | nil => have := hp.1; simp at this
    | cons v vs =>
      simp only [AState.dvL] at hd
      cases hx : S.dv x with
      | none => simp [hx] at hd
      | some y =>
        cases hl : S.dvL l with
        | none => simp [hx, hl] at hd
        | some ys =>
          simp [hx, hl] at hd
          subst hd
          obtain ⟨I1, h1, h2, h3⟩ := h.dv (hp.2 0 v x rfl rfl) hx
          have hp' : Pw (Holds w I1 ρ) vs l := ⟨by have := hp.1; simpa using this, fun j u z hu hz => (hp.2 (j + 1) u z (by simpa using hu) (by simpa using hz)).mono (same_refl I w) h1⟩
          obtain ⟨I2, h4, h5, h6⟩ := ih h2 hp' (by rw [dvL_share]; exact hl)
          exact ⟨I2, fun b j hi => h4 b j (h1 b j hi), h5, Pw.cons (h3.mono (same_refl I1 w) h4) h6⟩

/-! ## Contracts -/

def RetOk (w : World) (I : Im) (v : Value) : List DV → Prop
  | [y] => Rep w I v y
  | ys => ∃ xs, v = .tuple xs.toArray ∧ Reps w I xs ys

/-- The package-level variables that are read, by their names, and what they hold. -/
def gdNames : List (String × List Value) := [("unicodetext/ordering.hangulRanges", [.int .i64 4352, .int .i64 4370, .int .i64 4449, .int .i64 4469, .int .i64 4520, .int .i64 4546, .int .i64 44032, .int .i64 55203])]
def gdOf (P : Program) (g : Nat) : Option (List Value) := (gdNames.find? fun p => P.globalNamed p.1 == some g).map Prod.snd

def Contract (P : Program) (f : FuncId) (ds rs : List DV) : Prop :=
  (∃ fn, P.funcs[f]? = some fn ∧ (fn.name == "runtime.NumGoroutine") = false ∧ fn.body.isNone = false) ∧
  ∀ (w : World) (I : Im) (vs : List Value), (∀ b j, I b j → b < w.heap.size) → GlI (gdOf P) w I → Reps w I vs ds →
    Calls P f vs.toArray w fun e w' => ∃ v I', e = .returned v ∧ Below w.heap.size w w' ∧ (∀ b j, I b j → I' b j) ∧ (∀ b j, I' b j → b < w'.heap.size ∧ (I b j ∨ w.heap.size ≤ b)) ∧ RetOk w' I' v rs

def retAV : List DV → AV
  | [y] => .d y
  | ys => .tup ys

theorem retOk_holds {w : World} {I : Im} {ρ : Nat → Value} {v : Value} : ∀ {rs : List DV}, RetOk w I v rs → Holds w I ρ v (retAV rs)
  | [], h => h
  | [_], h => h
  | _ :: _ :: _, h => h

section
variable {P : Program} {r : Option Nat} {E : Env} {S : AState} {d : Nat} {ty : TypeId} {pos : String} {af : Array Edge} {g : Option (Nat × Bool)}

/-- More may be immutable: all of the new blocks, and what the callee has made so. -/
theorem SatAt.widen {a : Act} {w : World} {I I' : Im} {ρ : Nat → Value} {C : Nat → Prop} {B : Nat} (h : SatAt E S a w I ρ C) (hsub : ∀ b j, I b j → I' b j) (hnew : ∀ b j, I' b j → b < w.heap.size ∧ (I b j ∨ B ≤ b))
    (hB : ∀ i b, S.blk i ≠ .none → blockOf (ρ i) = some b → b < B) (hEB : E.B ≤ B) (hC : ∀ b, C b → b < B) : SatAt E S a w I' ρ C := by
  refine ⟨fun t => (h.tmps t).mono (same_refl I w) hsub, fun i => ?_, h.dist, h.frame, fun b j hi => hsub b j (h.sub b j hi), fun b j hi => ⟨(hnew b j hi).1, ?_⟩, h.size, h.defers, fun b j hi => ?_, h.cB, h.nm⟩
  · refine (h.blks i).widenI hsub fun b j hx hbo hi => ?_
    rcases (hnew b j hi).2 with hi | hi
    · exact hi
    · have := hB i b hx hbo; omega
  · rcases (hnew b j hi).2 with hi | hi
    · exact (h.old b j hi).2
    · exact .inr (E.mineB b (by omega))
  · rcases (hnew b j hi).2 with hi | hi
    · exact h.cI b j hi
    · intro hc; have := hC b hc; omega

theorem holds_args {A : Act} {w : World} {I : Im} {ρ : Nat → Value} {C : Nat → Prop} (hs : SatAt E S A w I ρ C) (xs : List Operand) : Pw (Holds w I ρ) (xs.map A.eval) (xs.map S.ev) := by
  induction xs with
  | nil => exact Pw.nil
  | cons x xs ih => exact Pw.cons (hs.ev x) ih

theorem step_call {f : FuncId} {xs : List Operand} {ats : Array TypeId} {ds rs : List DV} (hn : d < E.n) (hds : S.dvL (xs.map S.ev) = some ds) (hc : Contract P f ds rs) (hG : E.gdt = gdOf P := by rfl) :
    Step P r E ⟨some d, .call { callee := .value (.func f), args := xs.toArray, argTypes := ats }, ty, pos, af, g⟩ S ((S.shareL (xs.map S.ev)).put d (retAV rs)) := by
  rintro A w K Q ⟨I, ρ, C, hs⟩ hk
  obtain ⟨⟨fn, hf, hname, hbody⟩, hcall⟩ := hc
  obtain ⟨I1, h1, h2, h3⟩ := SatAt.dvL _ hs (holds_args hs xs) hds
  have hcl := hcall w I1 (xs.map A.eval) (fun b j hi => (h2.old b j hi).1) (hG ▸ h2.gl) h3
  refine ⟨fun f _ => trivial, ?_⟩
  rw [Oper.semAt_eq _ _ _ (by simp)]
  have hrun : (execOp A.eval ⟨some d, .call { callee := .value (.func f), args := xs.toArray, argTypes := ats }, ty, pos, af, g⟩).run P w = .ok (.enter f (xs.map A.eval).toArray) w := by
    simp only [execOp, resolve, Act.eval, Deferred.ofValue]
    have hn1 : ¬ fn.name = "runtime.NumGoroutine" := by simpa using hname
    have hn2 : ¬ fn.body = none := by intro e; simp [e] at hbody
    simp [invoke, callFunc, hf, hn1, hn2, List.map_toArray]
  rw [hrun]
  refine ⟨by simp [fen, Fence.wide], ?_⟩
  show CallsIn Fence.wide 0 P f _ w _
  refine callsIn_wide.2 (hcl.mono ?_)
  rintro e w' ⟨v, I', rfl, hb, hsub, hnew, hret⟩
  refine hk _ _ ⟨I', ρ, C, SatAt.put ?_ hn (retOk_holds hret)⟩
  have h4 := h2.grow hb
  exact h4.widen hsub hnew (fun i b hi hbk => (h2.blt i b hi hbk).2) (E.size _ _ _ h2.frame) (fun b hc => E.csize _ _ _ h2.frame b hc)
end
end Go.AV

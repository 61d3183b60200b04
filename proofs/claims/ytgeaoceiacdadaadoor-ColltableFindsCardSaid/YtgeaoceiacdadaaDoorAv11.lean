/- The layer of abstract values: what a temporary holds, said once; every rule of it is proved from the model. Conditions: none. -/
import Derived.Test.YtgeaoceiacdadaaDoorAv10
set_option linter.unusedSimpArgs false
set_option linter.unusedVariables false
set_option linter.unnecessarySimpa false
namespace Go.AV
open Go.RowKit

/-! ## Ranges over functions -/

/-- What lay outside C is as it was. -/
structure Kept (C : Nat → Prop) (w w' : World) : Prop where
  size : w.heap.size ≤ w'.heap.size
  blk : ∀ b, b < w.heap.size → ¬ C b → w'.heap[b]? = w.heap[b]?

/-- A call of yield, at the loop l: the round goes on (it hands back true). -/
def YieldsTo (P : Program) (l : Nat) (ys : List Value) (w : World) (R : World → Prop) : Prop :=
  ∃ fn tmps assign body, (Instr.yield l ys.toArray).run P w = .ok (.round l fn tmps assign body) w ∧
    RoundIn Fence.wide 0 P l fn tmps assign body w fun e w' => e = .returned (.bool true) ∧ R w'

def EYield (P : Program) (E : Env) (l : Nat) (xs : List (List DV)) : Prop :=
  ∀ k C w (I : Im) ys x, xs[k]? = some x → E.fr k C w → (∀ b j, I b j → b < w.heap.size ∧ ¬ C b ∧ (E.I0 b j ∨ E.mine b)) → Reps w I ys x →
    YieldsTo P l ys w fun w2 => ∃ C', E.fr (k + 1) C' w2 ∧ Kept C w w2 ∧ ∀ b, C' b → C b ∨ w.heap.size ≤ b

section
variable {P : Program} {r : Option Nat} {E : Env} {S : AState} {d : Nat} {ty : TypeId} {pos : String} {af : Array Edge} {g : Option (Nat × Bool)}

theorem SatAt.kept {a : Act} {w w' : World} {I : Im} {ρ : Nat → Value} {C C' : Nat → Prop} {k : Nat} (h : SatAt E S a w I ρ C) (hk : Kept C w w') (hC : ∀ b, C' b → C b ∨ w.heap.size ≤ b) (hfr : E.fr k C' w') :
    SatAt E (S.put GT (.gh k)) a w' I ρ C' := by
  have hs : Same I w w' := fun b j hi => KeepB.of (hk.blk b (h.old b j hi).1 (h.cI b j hi))
  have hCn : ∀ b, b < w.heap.size → ¬ C b → ¬ C' b := fun b hb hc hc' => by rcases hC b hc' with h1 | h1; exact hc h1; omega
  have hgh : (S.put GT (.gh k)).ghost = k := by unfold AState.ghost; rw [get_put]; simp
  refine ⟨fun t => ?_, fun i => ?_, h.dist, by rw [hgh]; exact hfr, h.sub, fun b j hi => ⟨Nat.lt_of_lt_of_le (h.old b j hi).1 hk.size, (h.old b j hi).2⟩, h.size, ?_, fun b j hi => hCn b (h.old b j hi).1 (h.cI b j hi), fun i b hi hb => hCn b (h.blt i b hi hb).2 (h.cB i b hi hb), h.nm⟩
  · rw [get_put]
    by_cases e : GT = t
    · simp only [e, if_true]; trivial
    · simp only [e, if_false]; exact (h.tmps t).mono hs (fun _ _ h => h)
  · show BlkOk w' I ρ E.mine i (S.blk i)
    cases hx : S.blk i with
    | none => trivial
    | _ =>
      rw [← hx]
      have hne : S.blk i ≠ .none := by rw [hx]; simp
      exact (h.blks i).mono hs (fun b hb => hk.blk b (h.blt i b hne hb).2 (h.cB i b hne hb))
  · refine ⟨fun dd hd => ?_, h.defers.dist, h.defers.wr⟩
    obtain ⟨q, h1, h2, h3, h4⟩ := h.defers.each dd hd
    have hlt := (Array.getElem?_eq_some_iff.1 h4).1
    exact ⟨q, h1, h2, hCn q hlt h3, (hk.blk q hlt h3).trans h4⟩

theorem s_yield {l k : Nat} {x : Operand} {args : List Operand} {ats : Array TypeId} {xs : List (List DV)} {it : List DV} (hn : d < E.n) (hE : EYield P E l xs) (hx : S.ev x = .d (.v (.func (.yield l) #[] #[]))) (hds : unD (args.map S.ev) = some it)
    (hk : S.ghost = k) (hit : xs[k]? = some it) :
    Step P r E ⟨some d, .call { callee := .value x, args := args.toArray, argTypes := ats }, ty, pos, af, g⟩ S ((S.put GT (.gh (k + 1))).put d (.d (.v (.bool true)))) := by
  rintro A w K Q ⟨I, ρ, C, hs⟩ hkn
  obtain ⟨hd1, hd2⟩ := unD_spec S hds
  obtain ⟨I1, h1, h2, h3⟩ := SatAt.dvL _ hs (holds_args hs args) hd1
  rw [hd2] at h2
  have hfr := h2.frame
  rw [hk] at hfr
  obtain ⟨fn, tmps, assign, body, hrun, hround⟩ := hE k C w I1 (args.map A.eval) it hit hfr (fun b j hi => ⟨(h2.old b j hi).1, h2.cI b j hi, (h2.old b j hi).2⟩) h3
  refine ⟨fun f _ => trivial, ?_⟩
  rw [Oper.semAt_eq _ _ _ (by simp)]
  have hr2 : (execOp A.eval ⟨some d, .call { callee := .value x, args := args.toArray, argTypes := ats }, ty, pos, af, g⟩).run P w = .ok (.round l fn tmps assign body) w := by
    have hxv := hs.val hx
    have hmap : args.toArray.map A.eval = (args.map A.eval).toArray := by simp
    simp only [execOp, resolve, hxv, hmap, Deferred.ofValue, Sem.run_bind, Sem.run_pure, Result.andThen_ok, invoke]
    simpa using hrun
  rw [hr2]
  refine ⟨by simp [fen, Fence.wide], ?_⟩
  show RoundIn Fence.wide 0 P l fn tmps assign body w _
  refine hround.mono ?_
  rintro e w' ⟨rfl, C', hfr', hkept, hC'⟩
  exact hkn _ _ ⟨I1, ρ, C', (h2.kept hkept hC' hfr').put hn (.v _)⟩

/-! ### The iterator's side -/

/-- 'f' (its captured values 'caps') yields the items, one after the other. -/
def IterC (P : Program) (f : FuncId) (caps : List DV) (xs : List (List DV)) : Prop :=
  (∃ fn, P.funcs[f]? = some fn ∧ (fn.name == "runtime.NumGoroutine") = false ∧ fn.body.isNone = false) ∧
  ∀ (w : World) (I : Im) (vs : List Value) (C : Nat → Prop) (l : Nat) (J : Nat → (Nat → Prop) → World → Prop),
    (∀ b j, I b j → b < w.heap.size ∧ ¬ C b) → Reps w I vs caps → (∀ k C w, J k C w → ∀ b, C b → b < w.heap.size) → (∀ k C w w', J k C w → Below w.heap.size w w' → J k C w') → (∀ k C w, J k C w → GlI (gdOf P) w I) → J 0 C w →
    (∀ k C w' (I' : Im) ys x, xs[k]? = some x → J k C w' → (∀ b j, I' b j → b < w'.heap.size ∧ ¬ C b ∧ (I b j ∨ w.heap.size ≤ b)) → Reps w' I' ys x → YieldsTo P l ys w' fun w2 => ∃ C', J (k + 1) C' w2 ∧ Kept C w' w2 ∧ ∀ b, C' b → C b ∨ w'.heap.size ≤ b) →
    Calls P f (.func (.yield l) #[] #[] :: vs).toArray w fun e w' => e = .returned (.tuple #[]) ∧ ∃ C', J xs.length C' w'

def Env.iter (gdt : Nat → Option (List Value)) (w0 : World) (I0 : Im) (J : Nat → (Nat → Prop) → World → Prop) (n : Nat) (hn : n ≤ 1000000) (hc : ∀ k C w, J k C w → ∀ b, C b → b < w.heap.size) (hg : ∀ k C w w', J k C w → Below w.heap.size w w' → J k C w') (hG : ∀ k C w, J k C w → GlI gdt w I0) : Env where
  B := w0.heap.size
  I0 := I0
  n := n
  fr := fun k C w => J k C w ∧ w0.heap.size ≤ w.heap.size
  wrB := false
  nle := hn
  mine := fun b => w0.heap.size ≤ b
  mineB := fun _ h => h
  nm := fun _ => none
  size := fun _ _ _ h => h.2
  csize := fun k C w h => hc k C w h.1
  grow := fun k C w w' h hb => ⟨hg k C w w' h.1 hb, Nat.le_trans h.2 hb.size⟩
  wr := fun h => by cases h
  turn := fun h => by cases h
  gdt := gdt
  gl := fun k C w h => hG k C w h.1

def retKI (fn : Func) (n : Nat) : Exit → AState → Prop
  | .ret, S | .normal, S => fn.results = #[] ∧ S.ghost = n
  | _, _ => False

theorem iter_of {f : FuncId} {fn : Func} {c : Code} {caps : List DV} {xs : List (List DV)} (hf : P.funcs[f]? = some fn) (hname : (fn.name == "runtime.NumGoroutine") = false) (hb : fn.body = some c) (hn : caps.length + 1 ≤ fn.ntmps) (hn2 : fn.ntmps ≤ 1000000)
    (h : ∀ w0 I0 J hc hg hG l, EYield P (Env.iter (gdOf P) w0 I0 J fn.ntmps hn2 hc hg hG) l xs → Avc P none (Env.iter (gdOf P) w0 I0 J fn.ntmps hn2 hc hg hG) c (retKI fn xs.length) ⟨(GT, .gh 0) :: (0, .d (.v (.func (.yield l) #[] #[]))) :: initS caps 1, []⟩) : IterC P f caps xs := by
  refine ⟨⟨fn, hf, hname, by simp [hb]⟩, fun w I vs C l J hI hvs hc hg hG h0 hy => ?_⟩
  have hy' : EYield P (Env.iter (gdOf P) w I J fn.ntmps hn2 hc hg hG) l xs := by
    intro k C w2 I2 ys x hx hfr hI2 hr
    obtain ⟨fn', tmps, assign, body, hrun, hround⟩ := hy k C w2 I2 ys x hx hfr.1 hI2 hr
    refine ⟨fn', tmps, assign, body, hrun, hround.mono ?_⟩
    rintro e w3 ⟨rfl, C', h1, h2, h3⟩
    exact ⟨rfl, C', ⟨h1, Nat.le_trans hfr.2 h2.size⟩, h2, h3⟩
  refine callsIn_wide (n := 0) |>.1 (callsIn_of_wp_marks hf hb trivial ?_)
  have hlen : vs.length = caps.length := hvs.1
  have hsat : Sat (Env.iter (gdOf P) w I J fn.ntmps hn2 hc hg hG) ⟨(GT, .gh 0) :: (0, .d (.v (.func (.yield l) #[] #[]))) :: initS caps 1, []⟩ { tmps := (.func (.yield l) #[] #[] :: vs).toArray ++ Array.replicate (fn.ntmps - (Value.func (.yield l) #[] #[] :: vs).toArray.size) undef, defers := [] } w := by
    refine ⟨I, fun _ => undef, C, ⟨fun t => ?_, fun _ => trivial, fun _ _ _ _ h => absurd rfl h, ⟨h0, Nat.le_refl _⟩, fun _ _ h => h, fun b j h => ⟨(hI b j h).1, .inl h⟩, by simp [Env.iter]; omega, DefOk.nil, fun b j h => (hI b j h).2, fun _ _ h => absurd rfl h, fun _ _ h => by cases h⟩⟩
    show Holds _ _ _ _ (look AV.top ((GT, .gh 0) :: (0, .d (.v (.func (.yield l) #[] #[]))) :: initS caps 1) t)
    rw [look_cons]
    by_cases eg : GT = t
    · simp only [eg, if_true]; trivial
    · simp only [eg, if_false]
      rw [look_cons]
      by_cases e0 : 0 = t
      · subst e0
        simp only [if_true]
        have : ((Value.func (.yield l) #[] #[] :: vs).toArray ++ Array.replicate (fn.ntmps - (Value.func (.yield l) #[] #[] :: vs).toArray.size) undef).getD 0 undef = .func (.yield l) #[] #[] := by
          simp [Array.getD_eq_getD_getElem?, Array.getElem?_append]
        rw [this]
        exact .v _
      · simp only [e0, if_false]
        rcases look_init caps 1 t with ⟨h1t, x, hx, hlk⟩ | hlk
        · rw [hlk]
          have ht : t - 1 < vs.length := by rw [hlen]; exact (List.getElem?_eq_some_iff.1 hx).1
          refine hvs.2 (t - 1) _ x ?_ hx
          have e1 : t = (t - 1) + 1 := by omega
          have : ((Value.func (.yield l) #[] #[] :: vs).toArray ++ Array.replicate (fn.ntmps - (Value.func (.yield l) #[] #[] :: vs).toArray.size) undef)[t]? = vs[t - 1]? := by
            rw [Array.getElem?_append_left (by simp; omega)]
            simp only [List.getElem?_toArray]
            conv => lhs; rw [e1]
            simp
          simp only [Array.getD_eq_getD_getElem?, this]
          simp [ht]
        · rw [hlk]; trivial
  refine wpIn_mono (h w I J hc hg hG l hy' _ w hsat) ?_
  rintro en a w' ⟨S, hK, I1, ρ, C1, hs⟩
  have fin : (fn.results = #[] ∧ S.ghost = xs.length) → LeavesInM (fen none) 0 P fn a.tmps (fun e w' => e = .returned (.tuple #[]) ∧ ∃ C', J xs.length C' w') a.defers .returning w' := by
    rintro ⟨hres, hgh⟩
    have hfr := hs.frame
    rw [hgh] at hfr
    have hnil : a.defers = [] := by
      cases hd : a.defers with
      | nil => rfl
      | cons q qs => have := hs.defers.wr (by rw [hd]; simp); cases this
    rw [hnil]
    exact ⟨_, results_none hres _ _ _, rfl, C1, hfr.1⟩
  cases en with
  | normal => exact fin hK
  | ret => exact fin hK
  | _ => exact hK.elim
end
end Go.AV

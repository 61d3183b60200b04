/- The layer of abstract values: what a temporary holds, said once; every rule of it is proved from the model. Conditions: none. -/
import Derived.Test.YtgeaoceiacdadaaDoorAv3
import Derived.LoopNIn
set_option linter.unusedSimpArgs false
set_option linter.unusedVariables false
set_option linter.unnecessarySimpa false
namespace Go.AV
open Go.RowKit

/-! ## Code -/

def Post (E : Env) (K : Exit → AState → Prop) : Exit → Act → World → Prop := fun e a w => ∃ S, K e S ∧ Sat E S a w

def Avc (P : Program) (r : Option Nat) (E : Env) (c : Code) (K : Exit → AState → Prop) (S : AState) : Prop :=
  ∀ a w, Sat E S a w → c.wpIn (fen r) 0 P (Post E K) a w

def Ops (P : Program) (r : Option Nat) (E : Env) (ops : Array Oper) (l : List Oper) (J : AState → Prop) (S : AState) : Prop :=
  ∀ a w Q, Sat E S a w → (∀ S' a' w', J S' → Sat E S' a' w' → Q .normal a' w') → wpListIn (fen r) 0 P ops Q l a w

def Weak (E : Env) (S S' : AState) : Prop := ∀ a w, Sat E S a w → Sat E S' a w

def thenK (J : AState → Prop) (K : Exit → AState → Prop) : Exit → AState → Prop
  | .normal, S => J S
  | e, S => K e S
def blockK (id : Nat) (K : Exit → AState → Prop) : Exit → AState → Prop
  | .exit i, S => if Nat.beq i id then K .normal S else K (.exit i) S
  | e, S => K e S

def gd (want b : Bool) : Bool := match want with
  | true => b
  | false => !b

section
variable {P : Program} {r : Option Nat} {E : Env} {S S' : AState} {K : Exit → AState → Prop} {J : AState → Prop} {ops : Array Oper} {rest : List Oper} {o : Oper} {d : Nat}

theorem ops_nil (h : J S) : Ops P r E ops [] J S := fun a w _ hs hq => hq S a w h hs
theorem ops_cons (hg : o.guard = none) (h : Step P r E o S S') (k : Ops P r E ops rest J S') : Ops P r E ops (o :: rest) J S := fun a w Q hs hq =>
  wpListIn_plain hg fun K hK => h a w K Q hs fun a' w' hs' => hK a' w' (k a' w' Q hs' hq)

theorem SatAt.yield {a : Act} {w : World} {I : Im} {ρ : Nat → Value} {C : Nat → Prop} (hs : SatAt E S a w I ρ C) {j t : Nat} {b : Bool} (hj : (ops[j]?).bind (·.dst) = some t) (ht : S.get t = .d (.v (.bool b))) (hn : t < E.n) :
    yielded ops a.tmps j = some b := by
  have h := hs.tmps t
  rw [ht] at h
  have hlt : t < a.tmps.size := by rw [hs.size]; exact hn
  have e : a.tmps.getD t undef = a.tmps[t] := by simp [Array.getD_eq_getD_getElem?, hlt]
  rw [e] at h
  generalize hv : a.tmps[t] = v at h
  cases h
  simp [yielded, hj, hlt, hv]
theorem SatAt.yield2 {a : Act} {w : World} {I : Im} {ρ : Nat → Value} {C : Nat → Prop} (hs : SatAt E S a w I ρ C) {j t : Nat} {b c : Bool} (hj : (ops[j]?).bind (·.dst) = some t) (ht : S.get t = .cond c (.d (.v (.bool b)))) (hn : t < E.n) :
    yielded ops a.tmps j = if c then some b else none := by
  have h := hs.tmps t
  rw [ht] at h
  have hlt : t < a.tmps.size := by rw [hs.size]; exact hn
  have e : a.tmps.getD t undef = a.tmps[t] := by simp [Array.getD_eq_getD_getElem?, hlt]
  rw [e] at h
  generalize hv : a.tmps[t] = v at h
  cases c with
  | true =>
    have h := h.1 rfl
    cases h
    simp [yielded, hj, hlt, hv]
  | false =>
    have h := h.2 rfl
    subst h
    simp [yielded, hj, hlt, hv, undef]

/-- A guarded operation: it is run where the guard says so; else its slot is undefined. -/
theorem ops_guard {j t : Nat} {want b : Bool} {x : AV} {S1 : AState} (hg : o.guard = some (j, want)) (hj : (ops[j]?).bind (·.dst) = some t) (hd : o.dst = some d) (hn : d < E.n) (hnt : t < E.n) (ht : S.get t = .d (.v (.bool b)))
    (h : gd want b = true → Step P r E o S (S1.put d x)) (hw : gd want b = false → Weak E S S1)
    (k : Ops P r E ops rest J (S1.put d (.cond (gd want b) x))) : Ops P r E ops (o :: rest) J S := by
  intro a w Q hs hq
  obtain ⟨I, ρ, C, hsat⟩ := hs
  have hy := hsat.yield (ops := ops) hj ht hnt
  refine wpListIn_step fun Kn hK => ?_
  have hwant : Region.wanted o (yielded ops a.tmps) = gd want b := by
    simp only [Region.wanted, hg, hy]
    cases want <;> cases b <;> rfl
  rw [hwant]
  cases hb : gd want b with
  | true =>
    simp only [if_true]
    refine h hb a w Kn Q ⟨I, ρ, C, hsat⟩ fun a' w' hs' => hK a' w' (k a' w' Q ?_ hq)
    obtain ⟨I', ρ', C', h'⟩ := hs'
    refine ⟨I', ρ', C', ⟨fun u => ?_, h'.blks, h'.dist, by have := h'.frame; rw [ghost_put _ _ hn] at this ⊢; exact this, h'.sub, h'.old, h'.size, h'.defers, h'.cI, h'.cB, h'.nm⟩⟩
    have := h'.tmps u
    rw [get_put] at this ⊢
    by_cases e : d = u
    · simp only [e, if_true] at this ⊢
      exact ⟨fun _ => this, fun hf => by rw [hb] at hf; cases hf⟩
    · simp only [e, if_false] at this ⊢
      exact this
  | false =>
    simp only [Bool.false_eq_true, if_false]
    refine ⟨fun _ _ => trivial, hK _ _ (k _ _ Q ?_ hq)⟩
    obtain ⟨I', ρ', C', h'⟩ := hw hb a w ⟨I, ρ, C, hsat⟩
    rw [hd]
    refine ⟨I', ρ', C', h'.put hn ⟨fun hf => (by rw [hb] at hf; cases hf), fun _ => rfl⟩⟩

theorem ops_guard2 {j t : Nat} {want b c : Bool} {x : AV} {S1 : AState} (hg : o.guard = some (j, want)) (hj : (ops[j]?).bind (·.dst) = some t) (hd : o.dst = some d) (hn : d < E.n) (hnt : t < E.n) (ht : S.get t = .cond c (.d (.v (.bool b))))
    (h : (c && gd want b) = true → Step P r E o S (S1.put d x)) (hw : (c && gd want b) = false → Weak E S S1)
    (k : Ops P r E ops rest J (S1.put d (.cond (c && gd want b) x))) : Ops P r E ops (o :: rest) J S := by
  intro a w Q hs hq
  obtain ⟨I, ρ, C, hsat⟩ := hs
  have hy := hsat.yield2 (ops := ops) hj ht hnt
  refine wpListIn_step fun Kn hK => ?_
  have hwant : Region.wanted o (yielded ops a.tmps) = (c && gd want b) := by
    simp only [Region.wanted, hg, hy]
    cases want <;> cases b <;> cases c <;> rfl
  rw [hwant]
  cases hb : (c && gd want b) with
  | true =>
    simp only [if_true]
    refine h hb a w Kn Q ⟨I, ρ, C, hsat⟩ fun a' w' hs' => hK a' w' (k a' w' Q ?_ hq)
    obtain ⟨I', ρ', C', h'⟩ := hs'
    refine ⟨I', ρ', C', ⟨fun u => ?_, h'.blks, h'.dist, by have := h'.frame; rw [ghost_put _ _ hn] at this ⊢; exact this, h'.sub, h'.old, h'.size, h'.defers, h'.cI, h'.cB, h'.nm⟩⟩
    have := h'.tmps u
    rw [get_put] at this ⊢
    by_cases e : d = u
    · simp only [e, if_true] at this ⊢
      exact ⟨fun _ => this, fun hf => by rw [hb] at hf; cases hf⟩
    · simp only [e, if_false] at this ⊢
      exact this
  | false =>
    simp only [Bool.false_eq_true, if_false]
    refine ⟨fun _ _ => trivial, hK _ _ (k _ _ Q ?_ hq)⟩
    obtain ⟨I', ρ', C', h'⟩ := hw hb a w ⟨I, ρ, C, hsat⟩
    rw [hd]
    refine ⟨I', ρ', C', h'.put hn ⟨fun hf => (by rw [hb] at hf; cases hf), fun _ => rfl⟩⟩

theorem weak_refl : Weak E S S := fun _ _ h => h

/-! ### Control -/

theorem avc_mono {c : Code} {K' : Exit → AState → Prop} (h : Avc P r E c K S) (hk : ∀ e S, K e S → K' e S) : Avc P r E c K' S := fun a w hs =>
  wpIn_mono (h a w hs) fun e _ _ ⟨S', hK, hs'⟩ => ⟨S', hk e S' hK, hs'⟩
theorem avc_weak {c : Code} (hw : Weak E S S') (h : Avc P r E c K S') : Avc P r E c K S := fun a w hs => h a w (hw a w hs)
theorem avc_region {id : Nat} {l : List Oper} (h : Ops P r E l.toArray l (K .normal) S) : Avc P r E (.region id l.toArray false) K S := fun a w hs =>
  wpIn_region_lit (h a w _ hs fun S' _ _ hj hs' => ⟨S', hj, hs'⟩)
theorem avc_seq {x y : Code} (h : ∀ J : AState → Prop, (∀ S, Avc P r E y K S → J S) → Avc P r E x (thenK J K) S) : Avc P r E (.seq x y) K S := fun a w hs =>
  wpIn_seq (wpIn_mono (h _ (fun _ h => h) a w hs) fun e a' w' ⟨S', hK, hs'⟩ => by
    cases e with
    | normal => exact hK a' w' hs'
    | _ => exact ⟨S', hK, hs'⟩)
theorem avc_cond {c : Operand} {x y : Code} {b : Bool} (hc : S.ev c = .d (.v (.bool b))) (ht : b = true → Avc P r E x K S) (hf : b = false → Avc P r E y K S) : Avc P r E (.cond c x y) K S := fun a w hs => by
  obtain ⟨I, ρ, C, h⟩ := hs
  exact wpIn_cond_split (h.val hc) (fun hb => ht hb a w ⟨I, ρ, C, h⟩) (fun hb => hf hb a w ⟨I, ρ, C, h⟩)
theorem avc_block {id : Nat} {c : Code} (h : Avc P r E c (blockK id K) S) : Avc P r E (.block id c) K S := fun a w hs =>
  wpIn_block (wpIn_mono (h a w hs) fun e a' w' ⟨S', hK, hs'⟩ => by
    cases e with
    | exit i =>
      simp only [blockK, Nat.beq_eq] at hK
      simp only [Exit.inBlock]
      by_cases e : i = id
      · simp only [e, if_true] at hK ⊢; exact ⟨S', hK, hs'⟩
      · simp only [e, if_false] at hK ⊢; exact ⟨S', hK, hs'⟩
    | _ => exact ⟨S', hK, hs'⟩)
theorem avc_exit {id : Nat} (h : K (.exit id) S) : Avc P r E (.exit id) K S := fun _ _ hs => wpIn_exit ⟨S, h, hs⟩
theorem avc_ret (h : K .ret S) : Avc P r E .ret K S := fun _ _ hs => wpIn_ret ⟨S, h, hs⟩
theorem avc_skip (h : K .normal S) : Avc P r E .skip K S := fun _ _ hs => wpIn_skip ⟨S, h, hs⟩

theorem avc_loop {c : Code} {ι : Type} (T : ι → AState) (pre : ι → Prop) (μ : ι → Nat) (i0 : ι) (h0 : pre i0) (hS : Weak E S (T i0))
    (round : ∀ i, pre i → Avc P r E c (thenK (fun S' => ∃ j, pre j ∧ μ j < μ i ∧ Weak E S' (T j)) K) (T i)) : Avc P r E (.loop c) K S := by
  intro a w hs
  have key : ∀ n i a w, pre i → μ i < n → Sat E (T i) a w → Code.roundsIn (fen r) 0 P c (Post E K) n a w := by
    intro n
    induction n with
    | zero => intro i a w _ h; omega
    | succ n ih =>
      intro i a w hp hn hs
      rw [roundsIn_succ]
      exact wpIn_mono (round i hp a w hs) fun e a' w' ⟨S', hK, hs'⟩ => by
        cases e with
        | normal => obtain ⟨j, hj, hlt, hw⟩ := hK; exact ih j a' w' hj (by omega) (hw a' w' hs')
        | _ => exact ⟨S', hK, hs'⟩
  exact wpIn_loop_rounds _ (key (μ i0 + 1) i0 a w h0 (by omega) (hS a w hs))

/-! ### Forgetting -/

theorem blk_none_list {l : List (Nat × Blk)} {id : Nat} (h : ∀ p ∈ l, p.1 ≠ id) : look Blk.none l id = .none := by
  induction l with
  | nil => rfl
  | cons p l ih =>
    obtain ⟨i, x⟩ := p
    rw [look_cons, if_neg (h (i, x) (by simp))]
    exact ih fun q hq => h q (by simp [hq])

/-- Less is known: each slot and each block that S' lists reads so in S. -/
theorem weak_of (ht : ∀ p ∈ S'.tmps, S.get p.1 = p.2 ∨ p.2 = .top) (hb : ∀ p ∈ S'.blks, S.blk p.1 = p.2) (hgh : ∀ C w, E.fr S.ghost C w → E.fr S'.ghost C w) : Weak E S S' := by
  have hget : ∀ t, S'.get t = .top ∨ S.get t = S'.get t := by
    intro t
    unfold AState.get
    generalize hl : S'.tmps = l at ht
    clear hl
    induction l with
    | nil => exact .inl rfl
    | cons p l ih =>
      obtain ⟨i, x⟩ := p
      rw [look_cons]
      by_cases e : i = t
      · simp only [e, if_true]
        have := ht (i, x) (by simp)
        simp only [e] at this
        exact this.symm
      · simp only [e, if_false]
        exact ih fun q hq => ht q (by simp [hq])
  have hblk : ∀ t, S'.blk t = .none ∨ S.blk t = S'.blk t := by
    intro t
    unfold AState.blk
    generalize hl : S'.blks = l at hb
    clear hl
    induction l with
    | nil => exact .inl rfl
    | cons p l ih =>
      obtain ⟨i, x⟩ := p
      rw [look_cons]
      by_cases e : i = t
      · simp only [e, if_true]
        have := hb (i, x) (by simp)
        simp only [e] at this
        exact .inr this
      · simp only [e, if_false]
        exact ih fun q hq => hb q (by simp [hq])
  rintro a w ⟨I, ρ, C, h⟩
  refine ⟨I, ρ, C, ⟨fun t => ?_, fun i => ?_, fun i i' b hn hi hi' => ?_, hgh _ _ h.frame, h.sub, h.old, h.size, h.defers, h.cI, fun i b hi hb' => ?_, fun i v hv hi => h.nm i v hv ?_⟩⟩
  · rcases hget t with e | e
    · rw [e]; trivial
    · rw [← e]; exact h.tmps t
  · rcases hblk i with e | e
    · rw [e]; trivial
    · rw [← e]; exact h.blks i
  · refine h.dist i i' b hn ?_ ?_
    · rcases hblk i with e | e
      · exact absurd e hi
      · rw [e]; exact hi
    · rcases hblk i' with e | e
      · exact absurd e hi'
      · rw [e]; exact hi'
  · refine h.cB i b ?_ hb'
    rcases hblk i with e | e
    · exact absurd e hi
    · rw [e]; exact hi
  · rcases hblk i with e | e
    · exact absurd e hi
    · rw [e]; exact hi

/-- The nil slice as a row of its own. -/
theorem weak_nil {t : Nat} (id e size : Nat) (hp : 0 < size) (hn : t < E.n) (hnm : E.nm id = none) (ht : S.get t = .d (.v (.slice none 0 0))) : Weak E S (((S.kill id).setBlk id (.row e size false [])).put t (.row id)) := by
  rintro a w ⟨I, ρ, C, h⟩
  have h2 := h.update (World.grownBy.refl w none) (id := id) (u := .slice none 0 0) (x := .row e size false []) (by simp) (same_refl I w) (by simp [blockOf])
    ⟨⟨hp, by simp [upd, Value.ownBlock]⟩, 0, [], by simp, by simp only [upd, if_true]; exact World.ownsRow_nil w _ e size, by simp, Pw.nil, by simp [upd, Value.ownBlock]⟩ (.inl rfl) hnm
  refine ⟨I, _, C, ⟨fun u => ?_, h2.blks, h2.dist, by have := h2.frame; rw [ghost_put _ _ hn]; exact this, h2.sub, h2.old, h2.size, h2.defers, h2.cI, h2.cB, h2.nm⟩⟩
  rw [get_put]
  by_cases e : t = u
  · subst e
    simp only [if_true]
    have := h.tmps t
    rw [ht] at this
    generalize a.tmps.getD t undef = v at this ⊢
    cases this
    simp [Holds, upd]
  · simp only [e, if_false]
    exact h2.tmps u

/-! ### A function -/

def initS : List DV → Nat → List (Nat × AV)
  | [], _ => []
  | x :: r, k => (k, .d x) :: initS r (k + 1)

theorem look_init (ds : List DV) : ∀ (k t : Nat), (k ≤ t ∧ ∃ x, ds[t - k]? = some x ∧ look AV.top (initS ds k) t = .d x) ∨ look AV.top (initS ds k) t = .top := by
  induction ds with
  | nil => intro k t; exact .inr rfl
  | cons x ds ih =>
    intro k t
    simp only [initS, look_cons]
    by_cases e : k = t
    · subst e; simp
    · simp only [e, if_false]
      rcases ih (k + 1) t with ⟨h1, y, hy, hl⟩ | h
      · refine .inl ⟨by omega, y, ?_, hl⟩
        have : t - k = (t - (k + 1)) + 1 := by omega
        rw [this]; simpa using hy
      · exact .inr h

/-- How a function's results are read off its last state. -/
def LoadS (P : Program) (S : AState) (t : TypeId) (cells : List AV) (y : DV) : Prop :=
  (OneTy P t ∧ ∃ av, cells = [av] ∧ S.dv av = some y) ∨ (∃ ds, AggTy P t cells.length ∧ S.dvL cells = some ds ∧ y = .agg ds)

def RetS (P : Program) (S : AState) : List ResultVar → List DV → Prop
  | [], ys => ys = []
  | .tmp t :: rs, ys => ∃ y zs, ys = y :: zs ∧ S.dv (S.get t).un = some y ∧ RetS P S rs zs
  | .cell a t :: rs, ys => ∃ y zs id e cells, ys = y :: zs ∧ (S.get a).un = .ptr id 0 ∧ S.blk id = .box e cells ∧ LoadS P S t cells y ∧ RetS P S rs zs

def retK (P : Program) (fn : Func) (rs : List DV) : Exit → AState → Prop
  | .ret, S | .normal, S => RetS P S fn.results.toList rs
  | _, _ => False

theorem get_share (S : AState) (x : AV) (t : Nat) : (S.shareAV x).get t = S.get t := by
  unfold AState.shareAV
  split
  · split <;> rfl
  · rfl
theorem blk_share {S : AState} {x : AV} {id e : Nat} {cells : List AV} (h : S.blk id = .box e cells) : (S.shareAV x).blk id = .box e cells := by
  unfold AState.shareAV
  split
  · rename_i i
    split
    · rename_i e2 size sh cs hb
      rw [blk_setBlk]
      by_cases e' : i = id
      · subst e'; rw [h] at hb; cases hb
      · simp [e', h]
    · exact h
  · exact h
theorem RetS.share {S : AState} (x : AV) : ∀ {l : List ResultVar} {ys : List DV}, RetS P S l ys → RetS P (S.shareAV x) l ys
  | [], _, h => h
  | .tmp t :: rs, _, ⟨y, zs, e, h1, h2⟩ => ⟨y, zs, e, by rw [dv_share, get_share]; exact h1, RetS.share x h2⟩
  | .cell a t :: rs, _, ⟨y, zs, id, e, cells, h0, h1, h2, h3, h4⟩ => ⟨y, zs, id, e, cells, h0, by rw [get_share]; exact h1, blk_share h2, by
      rcases h3 with ⟨ho, av, hc, hd⟩ | ⟨ds, ha, hd, hy⟩
      · exact .inl ⟨ho, av, hc, by rw [dv_share]; exact hd⟩
      · exact .inr ⟨ds, ha, by rw [dvL_share]; exact hd, hy⟩, RetS.share x h4⟩
theorem RetS.shareL (xs : List AV) : ∀ {S : AState} {l : List ResultVar} {ys : List DV}, RetS P S l ys → RetS P (S.shareL xs) l ys := by
  induction xs with
  | nil => exact fun h => h
  | cons x xs ih => exact fun h => ih (h.share x)

def resF (tmps : Array Value) : ResultVar → Sem Value
  | .tmp t => pure (tmps.getD t undef)
  | .cell a t => do loadVar t (← asAddr (tmps.getD a undef))

theorem RetS.holds {a : Act} {w : World} {ρ : Nat → Value} {C : Nat → Prop} : ∀ (l : List ResultVar) (rs : List DV) {S : AState} {I : Im} (_ : SatAt E S a w I ρ C) (_ : RetS P S l rs),
    ∃ I' : Im, (∀ b j, I b j → I' b j) ∧ ∃ S2, SatAt E S2 a w I' ρ C ∧ ∃ xs : List Value, (l.mapM (resF a.tmps)).run P w = .ok xs w ∧ Reps w I' xs rs := by
  intro l
  induction l with
  | nil =>
    intro rs S I h hr
    cases hr
    exact ⟨I, fun _ _ h => h, S, h, [], by simp, Pw.nil⟩
  | cons x l ih =>
    intro rs S I h hr
    cases x with
    | tmp t =>
      obtain ⟨y, ys, rfl, h1, h2⟩ := hr
      obtain ⟨I1, hs1, hsat, hrep⟩ := h.dv (h.tmps t).un h1
      obtain ⟨I2, hs2, S2, hsat2, xs, hxs, hreps⟩ := ih ys hsat (h2.share _)
      exact ⟨I2, fun b j hi => hs2 b j (hs1 b j hi), S2, hsat2, _ :: xs, by simp [List.mapM_cons, resF, hxs], Pw.cons (hrep.mono (same_refl I1 w) hs2) hreps⟩
    | cell ad t =>
      obtain ⟨y, ys, id, e, cells, rfl, h1, h2, h3, h4⟩ := hr
      have hp := (h.tmps ad).un
      rw [h1] at hp
      obtain ⟨b, hρ, hv⟩ := hp
      have hbk := h.blks id
      rw [h2] at hbk
      obtain ⟨b', arr, hρ', hB, hh, h1', hpw, hI⟩ := hbk
      have hbb : b' = b := by rw [hρ'] at hρ; simpa [blockOf] using hρ
      subst hbb
      have hcell : ∀ (j : Nat) v, arr.toList[j]? = some v → w.cell? ⟨b', 0 + j, none⟩ = some v := fun j v hj => by
        rw [Nat.zero_add, cell_of_row w b' j arr e (0, 0) hh]; simpa using hj
      rcases h3 with ⟨ho, av, hc, hd⟩ | ⟨ds, ha, hd, rfl⟩
      · subst hc
        have hlen := hpw.1
        match harr : arr.toList, hlen with
        | [v0], _ =>
          rw [harr] at hpw hcell
          obtain ⟨I1, hs1, hsat, hrep⟩ := h.dv (hpw.2 0 v0 av rfl rfl) hd
          obtain ⟨I2, hs2, S2, hsat2, xs, hxs, hreps⟩ := ih ys hsat (h4.share _)
          refine ⟨I2, fun b j hi => hs2 b j (hs1 b j hi), S2, hsat2, v0 :: xs, ?_, Pw.cons (hrep.mono (same_refl I1 w) hs2) hreps⟩
          have hc0 := hcell 0 v0 rfl
          simp only [Nat.add_zero] at hc0
          simp [List.mapM_cons, resF, hv, asAddr, loadVar, ho.agg, run_load, hc0, hxs]
      · obtain ⟨I1, hs1, hsat, hrep⟩ := SatAt.dvL cells h hpw hd
        obtain ⟨I2, hs2, S2, hsat2, xs, hxs, hreps⟩ := ih ys hsat (h4.shareL _)
        have hrr := hrep.mono (same_refl I1 w) hs2
        refine ⟨I2, fun b j hi => hs2 b j (hs1 b j hi), S2, hsat2, .agg arr.toList.toArray :: xs, ?_, Pw.cons (.agg _ _ hrr.1 h1' hrr.2) hreps⟩
        have hload := run_loadAgg (P := P) w ha b' 0 arr.toList hpw.1 hcell
        simp only [Instr.loadAt, Instr.sureAddr, Sem.run_bind, Sem.run_pure, Result.andThen_ok] at hload
        simp only [List.mapM_cons, resF, hv, asAddr, Sem.run_bind, Sem.run_pure, Result.andThen_ok, hload, hxs]

theorem run_results {fn : Func} {tmps : Array Value} {w : World} {xs : List Value} (h : (fn.results.toList.mapM (resF tmps)).run P w = .ok xs w) :
    (results fn tmps).run P w = .ok (if h : xs.toArray.size = 1 then xs.toArray[0] else .tuple xs.toArray) w := by
  have e : results fn tmps = (do let vs ← fn.results.mapM (resF tmps); pure (if h : vs.size = 1 then vs[0] else .tuple vs)) := by
    unfold results
    congr 1
  rw [e, Array.mapM_eq_mapM_toList]
  simp only [Sem.run_bind, Sem.run_pure, h, Result.andThen_ok, Sem.run_map]

/-- The plain surroundings: what lay below is as it was. -/
def Env.norm (gdt : Nat → Option (List Value)) (w0 : World) (I0 : Im) (hI : ∀ b j, I0 b j → b < w0.heap.size) (hG : GlI gdt w0 I0) (n : Nat) (hn : n ≤ 1000000) : Env where
  B := w0.heap.size
  I0 := I0
  n := n
  fr := fun _ C w => Below w0.heap.size w0 w ∧ ∀ b, ¬ C b
  wrB := true
  nle := hn
  mine := fun b => w0.heap.size ≤ b
  mineB := fun _ h => h
  nm := fun _ => none
  size := fun _ _ _ h => h.1.size
  csize := fun _ _ _ h b hb => absurd hb (h.2 b)
  grow := fun _ _ _ _ h hb => ⟨h.1.trans (hb.mono h.1.size), h.2⟩
  wr := fun _ _ _ _ _ _ h hg hr _ => ⟨h.1.trans ⟨hg.os, hg.tape, hg.output, hg.size, fun k hk => hg.block k (Nat.lt_of_lt_of_le hk h.1.size) (fun e => by have := (hr k e).1; omega)⟩, h.2⟩
  turn := fun _ _ _ w w' l h hl ht _ => ⟨h.1.trans ⟨ht.os, ht.tape, ht.output, by rw [ht.size]; exact Nat.le_refl _, fun k hk => ht.blk k (by omega)⟩, h.2⟩
  gdt := gdt
  gl := fun _ _ w h g zs hg j v hj => ⟨(World.cell?_of_block (a := ⟨g, j, none⟩) (h.1.block g (hI g j (hG g zs hg j v hj).2))).trans (hG g zs hg j v hj).1, (hG g zs hg j v hj).2⟩

theorem run_takeDeferred' {w : World} {D : Nat} (h : w.heap[D]? = some (.deferred (some []))) : (Instr.takeDeferred D).run P w = .ok [] { w with heap := w.heap.setIfInBounds D (.deferred none) } := by
  simp [Instr.takeDeferred, getObj, setObj, Sem.run, h]

/-- The marks of w may have been taken in w'. -/
structure Taken (w w' : World) : Prop where
  blk : ∀ k : Nat, w'.heap[k]? = w.heap[k]? ∨ (w.heap[k]? = some (Obj.deferred (some [])) ∧ w'.heap[k]? = some (Obj.deferred none))
  size : w'.heap.size = w.heap.size

theorem Taken.same {I : Im} {w w' : World} (h : Taken w w') : Same I w w' := by
  intro b j _
  rcases h.blk b with e | ⟨e, e'⟩
  · exact KeepB.of e
  · exact ⟨by simp [World.cell?, e, e'], fun _ _ q => by rw [e] at q; cases q⟩

/-- The marks are taken, one after the other. -/
theorem leaves_marks {fn : Func} {tmps : Array Value} {R : Ending → World → Prop} {B : Nat} {wrB : Bool} {C : Nat → Prop} : ∀ (ds : List Deferred) (w : World), DefOk B wrB C w ds →
    (∀ w', Below B w w' → Taken w w' → ∃ v, (results fn tmps).run P w' = .ok v w' ∧ R (.returned v) w') →
    LeavesInM (fen none) 0 P fn tmps R ds .returning w := by
  intro ds
  induction ds with
  | nil => intro w _ h; exact h w (Below.refl _ _) ⟨fun _ => .inl rfl, rfl⟩
  | cons d ds ih =>
    intro w hd h
    obtain ⟨r, h1, h2, h2c, h3⟩ := hd.each d (by simp)
    refine ⟨by simp, .inl ⟨r, _, h1, run_takeDeferred' h3, ih _ ?_ ?_⟩⟩
    · refine ⟨fun e he => ?_, (List.pairwise_cons.1 hd.dist).2, fun _ => hd.wr (by simp)⟩
      obtain ⟨r', h1', h2', h2c', h3'⟩ := hd.each e (by simp [he])
      have hne : r ≠ r' := fun hrr => (List.pairwise_cons.1 hd.dist).1 e he r h1 (hrr ▸ h1')
      exact ⟨r', h1', h2', h2c', by simp only [Array.getElem?_setIfInBounds_ne hne]; exact h3'⟩
    · intro w' hb hk
      refine h w' ?_ ⟨fun k => ?_, ?_⟩
      · refine ⟨hb.os, hb.tape, hb.output, by have := hb.size; simpa using this, fun k hkB => ?_⟩
        rw [hb.block k hkB]
        exact Array.getElem?_setIfInBounds_ne (by omega)
      · have hlt := (Array.getElem?_eq_some_iff.1 h3).1
        by_cases hne : r = k
        · subst hne
          refine .inr ⟨h3, ?_⟩
          rcases hk.blk r with e | ⟨e, _⟩
          · rw [e]; simp [hlt]
          · simp [hlt] at e
        · have e1 : (w.heap.setIfInBounds r (Obj.deferred none))[k]? = w.heap[k]? := Array.getElem?_setIfInBounds_ne hne
          rcases hk.blk k with e | ⟨e, e'⟩
          · exact .inl (e.trans e1)
          · exact .inr ⟨e1.symm.trans e, e'⟩
      · rw [hk.size]; simp

theorem SatAt.taken {S : AState} {a : Act} {w w' : World} {I : Im} {ρ : Nat → Value} {C : Nat → Prop} (h : SatAt E S a w I ρ C) (ht : Taken w w') (hfr : E.fr S.ghost C w') : SatAt E S { a with defers := [] } w' I ρ C := by
  refine ⟨fun t => (h.tmps t).mono ht.same (fun _ _ h => h), fun i => ?_, h.dist, hfr, h.sub, fun b j hi => ⟨by rw [ht.size]; exact (h.old b j hi).1, (h.old b j hi).2⟩, h.size, DefOk.nil, h.cI, h.cB, h.nm⟩
  cases hx : S.blk i with
  | none => trivial
  | _ =>
    rw [← hx]
    refine (h.blks i).mono ht.same (fun b hb => ?_)
    obtain ⟨o, hc, hd⟩ := h.cellBlk (by rw [hx]; simp) hb
    rcases ht.blk b with e | ⟨e, _⟩
    · exact e
    · rw [hc] at e; cases e; cases hd

theorem RetS.run {S : AState} {a : Act} {w : World} {I : Im} {ρ : Nat → Value} {C : Nat → Prop} {fn : Func} {rs : List DV} (hs : SatAt E S a w I ρ C) (hret : RetS P S fn.results.toList rs) :
    ∃ v I', (results fn a.tmps).run P w = .ok v w ∧ (∀ b j, I b j → I' b j) ∧ (∀ b j, I' b j → b < w.heap.size ∧ (E.I0 b j ∨ E.mine b)) ∧ RetOk w I' v rs := by
  obtain ⟨I2, hsub, S2, hs2, xs, hxs, hreps⟩ := RetS.holds _ _ hs hret
  refine ⟨_, I2, run_results hxs, hsub, hs2.old, ?_⟩
  have hl := hreps.1
  match xs, rs, hl, hreps with
  | [], [], _, hr => exact ⟨_, rfl, hr⟩
  | [x], [y], _, hr => exact hr.2 0 _ y rfl rfl
  | x :: u :: xs, y :: z :: ys, _, hr => exact ⟨x :: u :: xs, by simp, hr⟩

theorem contract_of {f : FuncId} {fn : Func} {c : Code} {ds rs : List DV} (hf : P.funcs[f]? = some fn) (hname : (fn.name == "runtime.NumGoroutine") = false) (hb : fn.body = some c) (hn : ds.length ≤ fn.ntmps) (hn2 : fn.ntmps ≤ 1000000)
    (h : ∀ w0 I0 hI hG, Avc P none (Env.norm (gdOf P) w0 I0 hI hG fn.ntmps hn2) c (retK P fn rs) ⟨initS ds 0, []⟩) : Contract P f ds rs := by
  refine ⟨⟨fn, hf, hname, by simp [hb]⟩, fun w I vs hI hG hvs => ?_⟩
  refine callsIn_wide (n := 0) |>.1 (callsIn_of_wp_marks hf hb trivial ?_)
  have hlen : vs.length = ds.length := hvs.1
  have hsat : Sat (Env.norm (gdOf P) w I hI hG fn.ntmps hn2) ⟨initS ds 0, []⟩ { tmps := vs.toArray ++ Array.replicate (fn.ntmps - vs.toArray.size) undef, defers := [] } w := by
    refine ⟨I, fun _ => undef, fun _ => False, ⟨fun t => ?_, fun _ => trivial, fun _ _ _ _ h => absurd rfl h, ⟨Below.refl _ _, fun _ h => h⟩, fun _ _ h => h, fun b j h => ⟨hI b j h, .inl h⟩, by simp [Env.norm]; omega, DefOk.nil, fun _ _ _ h => h, fun _ _ h => absurd rfl h, fun _ _ h => by cases h⟩⟩
    rcases look_init ds 0 t with ⟨_, x, hx, hl⟩ | hl
    · show Holds _ _ _ _ (look AV.top (initS ds 0) t)
      rw [hl]
      simp only [Nat.sub_zero] at hx
      have ht : t < vs.length := by rw [hlen]; exact (List.getElem?_eq_some_iff.1 hx).1
      refine hvs.2 t _ x ?_ hx
      simp [Array.getD_eq_getD_getElem?, Array.getElem?_append, ht]
    · show Holds _ _ _ _ (look AV.top (initS ds 0) t)
      rw [hl]
      trivial
  refine wpIn_mono (h w I hI hG _ w hsat) ?_
  rintro e a w' ⟨S, hK, I1, ρ, C, hs⟩
  have fin : RetS P S fn.results.toList rs → LeavesInM (fen none) 0 P fn a.tmps (fun e w' => ∃ v I', e = .returned v ∧ Below w.heap.size w w' ∧ (∀ b j, I b j → I' b j) ∧ (∀ b j, I' b j → b < w'.heap.size ∧ (I b j ∨ w.heap.size ≤ b)) ∧ RetOk w' I' v rs) a.defers .returning w' := by
    intro hret
    refine leaves_marks (B := w.heap.size) a.defers w' hs.defers fun w2 hb2 hk2 => ?_
    have hs2 := hs.taken hk2 ⟨hs.frame.1.trans hb2, hs.frame.2⟩
    obtain ⟨v, I2, h1, h2, h3, h4⟩ := RetS.run hs2 hret
    exact ⟨v, h1, v, I2, rfl, hs.frame.1.trans hb2, fun b j hi => h2 b j (hs.sub b j hi), h3, h4⟩
  cases e with
  | normal => exact fin hK
  | ret => exact fin hK
  | _ => exact hK.elim
end
end Go.AV

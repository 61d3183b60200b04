/- The layer of abstract values: what a temporary holds, said once; every rule of it is proved from the model. Conditions: none. -/
import Derived.Test.YtgeaoceiacdadaaDoorAv11
set_option linter.unusedSimpArgs false
set_option linter.unusedVariables false
set_option linter.unnecessarySimpa false
namespace Go.AV
open Go.RowKit

theorem SatAt.weak {E : Env} {S S' : AState} {a : Act} {w : World} {I : Im} {ρ : Nat → Value} {C : Nat → Prop} (h : SatAt E S a w I ρ C) (hget : ∀ t, S'.get t = .top ∨ S.get t = S'.get t) (hblk : ∀ t, S'.blk t = .none ∨ S.blk t = S'.blk t) (hgh : E.fr S'.ghost C w) : SatAt E S' a w I ρ C := by
  have hb : ∀ i, S'.blk i ≠ .none → S.blk i ≠ .none := fun i hi => by
    rcases hblk i with e | e
    · exact absurd e hi
    · rw [e]; exact hi
  refine ⟨fun t => ?_, fun i => ?_, fun i i' b hn hi hi' => h.dist i i' b hn (hb i hi) (hb i' hi'), hgh, h.sub, h.old, h.size, h.defers, h.cI, fun i b hi hb' => h.cB i b (hb i hi) hb', fun i v hv hi => h.nm i v hv (hb i hi)⟩
  · rcases hget t with e | e
    · rw [e]; trivial
    · rw [← e]; exact h.tmps t
  · rcases hblk i with e | e
    · rw [e]; trivial
    · rw [← e]; exact h.blks i

theorem cov_get {S : AState} : ∀ {l : List (Nat × AV)}, Cov S l → ∀ t, look AV.top l t = .top ∨ S.get t = look AV.top l t
  | [], _, _ => .inl rfl
  | (i, x) :: l, h, t => by
    rw [look_cons]
    by_cases e : i = t
    · simp only [e, if_true]; exact .inr (e ▸ h.1)
    · simp only [e, if_false]; exact cov_get h.2 t
theorem covB_blk {S : AState} : ∀ {l : List (Nat × Blk)}, CovB S l → ∀ t, look Blk.none l t = .none ∨ S.blk t = look Blk.none l t
  | [], _, _ => .inl rfl
  | (i, x) :: l, h, t => by
    rw [look_cons]
    by_cases e : i = t
    · simp only [e, if_true]; exact .inr (e ▸ h.1)
    · simp only [e, if_false]; exact covB_blk h.2 t

/-- The blocks that a list of blocks owns. -/
def ownedBy (T : List (Nat × Blk)) (ρ : Nat → Value) (b : Nat) : Prop := ∃ id, look Blk.none T id ≠ .none ∧ blockOf (ρ id) = some b

structure RndOk (E : Env) (w1 : World) (Iall : Im) (C0 : Nat → Prop) : Prop where
  lt : ∀ b j, Iall b j → b < w1.heap.size
  sub : ∀ b j, E.I0 b j → Iall b j
  size : E.B ≤ w1.heap.size

/-- The surroundings of a round. -/
def Env.rnd (E : Env) (w1 : World) (Iall : Im) (X C0 : Nat → Prop) (boxes : List Nat) (ρ0 : Nat → Value) (defs : List Deferred) (l D : Nat) (lp : Loop) (hok : RndOk E w1 Iall C0) : Env where
  B := w1.heap.size
  I0 := Iall
  n := E.n
  fr := fun _ C w => E.fr 0 C0 w ∧ Same Iall w1 w ∧ Kept (fun b => X b ∨ b = l) w1 w ∧ (∀ b, C b ↔ C0 b) ∧ w.heap[l]? = some (.loop lp) ∧ (l < w1.heap.size ∧ D < w1.heap.size ∧ l ≠ D) ∧ w.heap[D]? = some (.deferred (some [])) ∧ DefOk E.B E.wrB C0 w defs ∧ (∀ d ∈ defs, ∀ q, d.target = .collected q → q < w1.heap.size)
  wrB := E.wrB
  nle := E.nle
  mine := fun b => (X b ∧ E.mine b) ∨ w1.heap.size ≤ b
  mineB := fun _ h => .inr h
  nm := fun id => if boxes.contains id then some (ρ0 id) else E.nm id
  size := fun _ _ _ h => h.2.2.1.size
  csize := fun _ C w h b hb => E.csize _ _ _ h.1 b ((h.2.2.2.1 b).1 hb)
  grow := fun _ C w w' h hb => by
    obtain ⟨h1, h2, h3, h4, h5, h8, h6, h7, h9⟩ := h
    refine ⟨E.grow _ _ _ _ h1 hb, fun b j hi => ?_, ⟨Nat.le_trans h3.size hb.size, fun b hlt hn => (hb.block b (Nat.lt_of_lt_of_le hlt h3.size)).trans (h3.blk b hlt hn)⟩, h4, (hb.block l (Array.getElem?_eq_some_iff.1 h5).1).trans h5, h8, (hb.block D (Array.getElem?_eq_some_iff.1 h6).1).trans h6, h7.keep fun q hq => (hb.block q (Array.getElem?_eq_some_iff.1 hq).1).trans hq, h9⟩
    exact (KeepB.of (hb.block b (Nat.lt_of_lt_of_le (hok.lt b j hi) h3.size))).trans (h2 b j hi)
  wr := fun hE _ C w w' row h hg hr hs => by
    obtain ⟨h1, h2, h3, h4, h5, h8, h6, h7, h9⟩ := h
    have hm : ∀ b, row b → E.mine b ∧ ¬ C0 b ∧ ∃ o, w.heap[b]? = some o ∧ isData o = true := fun b hb => by
      obtain ⟨m1, m2, m3⟩ := hr b hb
      refine ⟨?_, fun hc => m2 ((h4 b).2 hc), m3⟩
      rcases m1 with m1 | m1
      · exact m1.2
      · exact E.mineB b (Nat.le_trans hok.size m1)
    have hnot : ∀ q o, w.heap[q]? = some o → isData o = false → ¬ row q := fun q o hq ho e => by
      obtain ⟨_, _, o', hc, hd⟩ := hr q e
      rw [hq] at hc
      cases hc
      rw [ho] at hd; cases hd
    refine ⟨E.wr hE _ _ _ _ _ h1 hg hm (fun b j hi => hs b j (hok.sub b j hi)), fun b j hi => (hs b j hi).trans (h2 b j hi), ⟨Nat.le_trans h3.size hg.size, fun b hlt hn => ?_⟩, h4, (hg.block l (Array.getElem?_eq_some_iff.1 h5).1 (hnot l _ h5 rfl)).trans h5, h8, (hg.block D (Array.getElem?_eq_some_iff.1 h6).1 (hnot D _ h6 rfl)).trans h6, ?_, h9⟩
    · refine (hg.block b (Nat.lt_of_lt_of_le hlt h3.size) (fun e => ?_)).trans (h3.blk b hlt hn)
      rcases (hr b e).1 with m | m
      · exact hn (.inl m.1)
      · omega
    · exact h7.keep fun q hq => (hg.block q (Array.getElem?_eq_some_iff.1 hq).1 (hnot q _ hq rfl)).trans hq
  turn := fun hE _ C w w' q h hq ht hs => by
    obtain ⟨h1, h2, h3, h4, h5, h8, h6, h7, h9⟩ := h
    refine ⟨E.turn hE _ _ _ _ _ h1 (Nat.le_trans hok.size hq) ht (fun b j hi => hs b j (hok.sub b j hi)), fun b j hi => (hs b j hi).trans (h2 b j hi), ⟨by rw [ht.size]; exact h3.size, fun b hlt hn => (ht.blk b (by omega)).trans (h3.blk b hlt hn)⟩, h4, (ht.blk l (by omega)).trans h5, h8, (ht.blk D (by omega)).trans h6, ?_, h9⟩
    refine ⟨fun dd hd => ?_, h7.dist, h7.wr⟩
    obtain ⟨u, e1, e2, e3, e4⟩ := h7.each dd hd
    have := h9 dd hd u e1
    exact ⟨u, e1, e2, e3, (ht.blk u (by omega)).trans e4⟩
  gdt := E.gdt
  gl := fun _ _ _ h => (E.gl _ _ _ h.1).sub hok.sub

theorem noCell {w : World} {b j : Nat} (h : ∀ o, w.heap[b]? = some o → isData o = false) : w.cell? ⟨b, j, none⟩ = none := by
  unfold World.cell?
  cases hb : w.heap[b]? with
  | none => rfl
  | some o =>
    cases o with
    | cells c e f => have := h _ hb; cases this
    | _ => rfl

/-- A block that is no cells is turned. -/
theorem Turned.same {l : Nat} {w w' : World} (ht : Turned l w w') (I : Im) : Same I w w' := by
  intro b j _
  by_cases e : b = l
  · subst e
    exact ⟨by rw [noCell ht.no', noCell ht.no], fun _ _ q => by have := ht.no _ q; cases this⟩
  · exact KeepB.of (ht.blk b e)

theorem SatAt.turn {E : Env} {S : AState} {a : Act} {w w' : World} {I : Im} {ρ : Nat → Value} {C : Nat → Prop} (h : SatAt E S a w I ρ C) {l : Nat} (ht : Turned l w w') (hd : ∀ d ∈ a.defers, d.target ≠ .collected l) (hfr : E.fr S.ghost C w') : SatAt E S a w' I ρ C := by
  have hs := ht.same I
  refine ⟨fun t => (h.tmps t).mono hs (fun _ _ h => h), fun i => ?_, h.dist, hfr, h.sub, fun b j hi => ⟨by rw [ht.size]; exact (h.old b j hi).1, (h.old b j hi).2⟩, h.size, ⟨fun dd hdd => ?_, h.defers.dist, h.defers.wr⟩, h.cI, h.cB, h.nm⟩
  · cases hx : S.blk i with
    | none => trivial
    | _ =>
      rw [← hx]
      refine (h.blks i).mono hs (fun b hbo => ht.blk b ?_)
      rintro rfl
      obtain ⟨o, hc, hd⟩ := h.cellBlk (by rw [hx]; simp) hbo
      rw [ht.no o hc] at hd; cases hd
  · obtain ⟨q, e1, e2, e3, e4⟩ := h.defers.each dd hdd
    exact ⟨q, e1, e2, e3, (ht.blk q (fun e => hd dd hdd (e ▸ e1))).trans e4⟩

theorem SatAt.turn2 {E E' : Env} {S : AState} {a : Act} {w w' : World} {I : Im} {ρ : Nat → Value} {C : Nat → Prop} (h : SatAt E S a w I ρ C) (eB : E'.B = E.B) (eI : E'.I0 = E.I0) (en : E'.n = E.n) (em : E'.mine = E.mine) (enm : E'.nm = E.nm) (ew : E'.wrB = E.wrB)
    {l : Nat} (ht : Turned l w w') (hd : ∀ d ∈ a.defers, d.target ≠ .collected l) (hfr : E'.fr S.ghost C w') : SatAt E' S a w' I ρ C := by
  have hs := ht.same I
  refine ⟨fun t => (h.tmps t).mono hs (fun _ _ h => h), fun i => ?_, h.dist, hfr, by rw [eI]; exact h.sub, fun b j hi => ⟨by rw [ht.size]; exact (h.old b j hi).1, by rw [eI, em]; exact (h.old b j hi).2⟩, by rw [en]; exact h.size, ⟨fun dd hdd => ?_, h.defers.dist, by rw [ew]; exact h.defers.wr⟩, h.cI, h.cB, by rw [enm]; exact h.nm⟩
  · rw [em]
    cases hx : S.blk i with
    | none => trivial
    | _ =>
      rw [← hx]
      refine (h.blks i).mono hs (fun b hbo => ht.blk b ?_)
      rintro rfl
      obtain ⟨o, hc, hd⟩ := h.cellBlk (by rw [hx]; simp) hbo
      rw [ht.no o hc] at hd; cases hd
  · obtain ⟨q, e1, e2, e3, e4⟩ := h.defers.each dd hdd
    exact ⟨q, e1, by rw [eB]; exact e2, e3, (ht.blk q (fun e => hd dd hdd (e ▸ e1))).trans e4⟩

def unshL (T : List (Nat × Blk)) : Bool := T.all fun p => match p.2 with
  | .row _ _ sh _ => !sh
  | .win _ _ _ _ => false
  | _ => true
theorem unshL_win {T : List (Nat × Blk)} (h : unshL T = true) {id e size k : Nat} {cells : List DV} (hb : look Blk.none T id = .win e size k cells) : False := by
  induction T with
  | nil => cases hb
  | cons p T ih =>
    obtain ⟨i, x⟩ := p
    simp only [unshL, List.all_cons, Bool.and_eq_true] at h
    rw [look_cons] at hb
    by_cases e' : i = id
    · simp only [e', if_true] at hb; subst hb; simp at h
    · simp only [e', if_false] at hb; exact ih h.2 hb
theorem unshL_spec {T : List (Nat × Blk)} (h : unshL T = true) {id e size : Nat} {sh : Bool} {cells : List DV} (hb : look Blk.none T id = .row e size sh cells) : sh = false := by
  induction T with
  | nil => cases hb
  | cons p T ih =>
    obtain ⟨i, x⟩ := p
    simp only [unshL, List.all_cons, Bool.and_eq_true] at h
    rw [look_cons] at hb
    by_cases e' : i = id
    · simp only [e', if_true] at hb; subst hb; simpa using h.1
    · simp only [e', if_false] at hb; exact ih h.2 hb

def keepOk (boxes : List Nat) : List (Nat × AV) → Bool
  | [] => true
  | (_, .d _) :: r => keepOk boxes r
  | (_, .ptr id _) :: r => boxes.contains id && keepOk boxes r
  | _ => false
theorem keepOk_spec {boxes : List Nat} : ∀ {l : List (Nat × AV)}, keepOk boxes l = true → ∀ t, look AV.top l t = .top ∨ (∃ y, look AV.top l t = .d y) ∨ ∃ id off, look AV.top l t = .ptr id off ∧ boxes.contains id = true
  | [], _, _ => .inl rfl
  | (i, x) :: l, h, t => by
    rw [look_cons]
    by_cases e : i = t
    · simp only [e, if_true]
      cases x with
      | d y => exact .inr (.inl ⟨y, rfl⟩)
      | ptr id off => simp only [keepOk, Bool.and_eq_true] at h; exact .inr (.inr ⟨id, off, rfl, h.1⟩)
      | _ => simp [keepOk] at h
    · simp only [e, if_false]
      cases x with
      | d y => exact keepOk_spec (l := l) (by simpa [keepOk] using h) t
      | ptr id off => simp only [keepOk, Bool.and_eq_true] at h; exact keepOk_spec h.2 t
      | _ => simp [keepOk] at h

def parS : List Tmp → List DV → List (Nat × AV)
  | p :: ps, x :: xs => parS ps xs ++ [(p, .d x)]
  | _, _ => []

/-- The temporaries of a round: the loop's, the items set. -/
theorem par_fold {w : World} {I : Im} {ρ : Nat → Value} {n : Nat} : ∀ (ps : List Tmp) (ys : List Value) (xs : List DV) (tm : Array Value) (l : List (Nat × AV)), ps.length = xs.length → Reps w I ys xs → (∀ p ∈ ps, p < n) → tm.size = n →
    (∀ t, Holds w I ρ (tm.getD t undef) (look AV.top l t)) →
    ((ps.zip ys).foldl (fun (tmps : Array Value) (q : Tmp × Value) => tmps.setIfInBounds q.1 q.2) tm).size = n ∧
    ∀ t, Holds w I ρ (((ps.zip ys).foldl (fun (tmps : Array Value) (q : Tmp × Value) => tmps.setIfInBounds q.1 q.2) tm).getD t undef) (look AV.top (parS ps xs ++ l) t)
  | [], ys, xs, tm, l, hl, hr, hp, hsz, h => by
    have hx : xs = [] := List.eq_nil_of_length_eq_zero (by simpa using hl.symm)
    subst hx
    have : ys = [] := List.eq_nil_of_length_eq_zero hr.1
    subst this
    exact ⟨hsz, h⟩
  | p :: ps, ys, xs, tm, l, hl, hr, hp, hsz, h => by
    match xs, ys, hl, hr with
    | x :: xs, y :: ys, hl, hr =>
      have hr' : Reps w I ys xs := ⟨by have := hr.1; simpa using this, fun j u z hu hz => hr.2 (j + 1) u z (by simpa using hu) (by simpa using hz)⟩
      have := par_fold ps ys xs (tm.setIfInBounds p y) ((p, .d x) :: l) (by simpa using hl) hr' (fun q hq => hp q (by simp [hq])) (by simp [hsz]) (fun t => by
        rw [look_cons]
        have hpn : p < tm.size := by rw [hsz]; exact hp p (by simp)
        by_cases e : p = t
        · subst e
          simp only [if_true]
          have : (tm.setIfInBounds p y).getD p undef = y := by simp [Array.getD_eq_getD_getElem?, hpn]
          rw [this]
          exact hr.2 0 y x rfl rfl
        · simp only [e, if_false]
          have : (tm.setIfInBounds p y).getD t undef = tm.getD t undef := by
            rw [Array.getD_eq_getD_getElem?, Array.getD_eq_getD_getElem?, Array.getElem?_setIfInBounds_ne e]
          rw [this]
          exact h t)
      simp only [List.zip_cons_cons, List.foldl_cons, parS, List.append_assoc, List.singleton_append]
      exact this
    | [], _, hl, _ => simp at hl
    | _ :: _, [], _, hr => have := hr.1; simp at this

/-- The round's assignments are done; its body follows. -/
def asgK (P : Program) (l : Nat) (E2 : Env) (body : Code) (KR : Exit → AState → Prop) : Exit → AState → Prop
  | .normal, S => Avc P (some l) E2 body KR S
  | _, _ => False
def rndK (T' : List (Nat × Blk)) : Exit → AState → Prop
  | .normal, S => CovB S T'
  | _, _ => False

theorem avc_range {P : Program} {E : Env} {S : AState} {g : Operand} {ps : List Tmp} {assign body : Code} {f : FuncId} {caps : List DV} {xs : List (List DV)} {K : Exit → AState → Prop}
    (keep : List (Nat × AV)) (boxes : List Nat) (T : Nat → List (Nat × Blk)) (hg : S.ev g = .d (.fn f caps)) (hit : IterC P f caps xs) (hE : E.wrB = true) (hgi : ∀ k k' C w, E.fr k C w → E.fr k' C w)
    (hkeep : Cov S keep) (hT0 : CovB S (T 0)) (hko : keepOk boxes keep = true) (hun : ∀ k, unshL (T k) = true) (hbx : ∀ k id, boxes.contains id = true → look Blk.none (T k) id ≠ .none) (hnm : ∀ id, boxes.contains id = true → E.nm id = none)
    (hps : ∀ x ∈ xs, ps.length = x.length) (hpn : ∀ p ∈ ps, p < E.n)
    (round : ∀ w1 Iall X C0 ρ0 defs l D lp1 lp2 hok k x, xs[k]? = some x →
      Avc P (some l) (Env.rnd E w1 Iall X C0 boxes ρ0 defs l D lp1 hok) assign (asgK P l (Env.rnd E w1 Iall X C0 boxes ρ0 defs l D lp2 hok) body (rndK (T (k + 1)))) ⟨parS ps x ++ keep, T k⟩)
    (hK : K .normal ⟨keep, T xs.length⟩) (hG : E.gdt = gdOf P := by rfl) : Avc P none E (.rangeFunc g ps.toArray assign body) K S := by
  rintro a w ⟨I, ρ, C0, hs⟩
  obtain ⟨⟨fnI, hfI, hnameI, hbodyI⟩, hiter⟩ := hit
  have hgv := hs.ev g
  rw [hg] at hgv
  have hgv' : Rep w I (a.eval g) (.fn f caps) := hgv
  generalize hvg : a.eval g = vg at hgv'
  cases hgv' with
  | fn f cvs caps hcx hcr =>
  refine wpIn_rangeFunc fun fn _ => ?_
  let D := w.heap.size
  let l := w.heap.size + 1
  let rec0 : Loop := { state := .ready, pending := none, fn, tmps := a.tmps, params := ps.toArray, assign, body, defers := D }
  let w1 := (w.alloc (.deferred (some []))).alloc (.loop rec0)
  refine ⟨l, [{ target := .collected D, args := #[] }], w1, { target := .fn (.func f) cvs.toArray, args := #[.func (.yield l) #[] #[]] }, w1, f, (.func (.yield l) #[] #[] :: cvs).toArray, w1, ?_, ?_, fun _ _ => trivial, ?_, by simp [fen, Fence.wide], ?_⟩
  · simp [Instr.enterLoop, w1, l, D, rec0, fen]
  · have : (resolve a.eval (rangeCall g l) 0) = Deferred.ofValue (a.eval g) #[.func (.yield l) #[] #[]] := by
      simp [resolve, rangeCall, Act.eval]
    rw [this, hvg]
    simp [Deferred.ofValue]
  · have hn1 : ¬ fnI.name = "runtime.NumGoroutine" := by simpa using hnameI
    have hn2 : ¬ fnI.body = none := by intro e; simp [e] at hbodyI
    simp [invoke, callFunc, hfI, hn1, hn2]
  show CallsIn Fence.wide 0 P f _ w1 _
  have hw1s : w1.heap.size = w.heap.size + 2 := by simp [w1]
  have hB1 : Below w.heap.size w w1 := ((Below.refl _ _).alloc (Nat.le_refl _) _).alloc (by simp) _
  have hl1 : w1.heap[l]? = some (.loop rec0) := by
    have := heap_alloc_new (w.alloc (.deferred (some []))) (.loop rec0)
    simpa [w1, l] using this
  have hD1 : w1.heap[D]? = some (.deferred (some [])) := by
    have h1 : w1.heap[D]? = (w.alloc (.deferred (some []))).heap[D]? := Below.heap_alloc _ _ _ (by simp [D])
    rw [h1]
    exact heap_alloc_new w _
  let S0 : Nat → AState := fun k => ⟨keep, T k⟩
  have hcvs : Reps w I cvs caps := ⟨hcx, hcr⟩
  have hdq : ∀ dd ∈ a.defers, ∀ q, dd.target = .collected q → q < w.heap.size := fun dd hd q hq => by
    obtain ⟨u, e1, _, _, e4⟩ := hs.defers.each dd hd
    rw [hq] at e1; cases e1
    exact (Array.getElem?_eq_some_iff.1 e4).1
  let J : Nat → (Nat → Prop) → World → Prop := fun k C w' => ∃ I' ρ', SatAt E (S0 k) a w' I' ρ' C0 ∧ (∀ b j, I b j → I' b j) ∧ w1.heap.size ≤ w'.heap.size ∧ w'.heap[l]? = some (.loop rec0) ∧ w'.heap[D]? = some (.deferred (some [])) ∧ ∀ b, C b ↔ (C0 b ∨ ownedBy (T k) ρ' b)
  have hJc : ∀ k C w', J k C w' → ∀ b, C b → b < w'.heap.size := by
    rintro k C w' ⟨I', ρ', h1, _, _, _, _, h6⟩ b hb
    rcases (h6 b).1 hb with hc | ⟨id, h7, h8⟩
    · exact E.csize _ _ _ h1.frame b hc
    · exact (h1.blt id b h7 h8).2
  have hJg : ∀ k C w' w'', J k C w' → Below w'.heap.size w' w'' → J k C w'' := by
    rintro k C w' w'' ⟨I', ρ', h1, h2, h3, h4, h5, h6⟩ hb
    exact ⟨I', ρ', h1.grow hb, h2, Nat.le_trans h3 hb.size, (hb.block l (Array.getElem?_eq_some_iff.1 h4).1).trans h4, (hb.block D (Array.getElem?_eq_some_iff.1 h5).1).trans h5, h6⟩
  have hsat0 : SatAt E (S0 0) a w1 I ρ C0 := (hs.weak (S' := S0 0) (cov_get hkeep) (covB_blk hT0) (hgi _ _ _ _ hs.frame)).grow hB1
  have nown : ∀ k w' (I' : Im) ρ', SatAt E (S0 k) a w' I' ρ' C0 → ∀ b j, I' b j → ¬ ownedBy (T k) ρ' b := by
    rintro k w' I' ρ' h b j hi ⟨id, h1, h2⟩
    have hk := h.blks id
    have hb0 : (S0 k).blk id = look Blk.none (T k) id := rfl
    cases hx : look Blk.none (T k) id with
    | none => exact h1 hx
    | row e size sh cells =>
      rw [hb0, hx] at hk
      obtain ⟨hp, n, ys, hl, hown, _, _, hIr⟩ := hk
      have hsh := unshL_spec (hun k) hx
      subst hsh
      have hob : (ρ' id).ownBlock = some b := by
        rcases hown.2 with ⟨hn', _⟩ | ⟨gb, cap, cur, hn', _⟩
        · rw [hn'] at h2; cases h2
        · rw [hn'] at h2 ⊢; exact h2
      have := (hIr b j hob hi).1
      cases this
    | box e cells =>
      rw [hb0, hx] at hk
      obtain ⟨b', arr, hρ, _, _, _, _, hnI⟩ := hk
      rw [hρ] at h2
      cases h2
      exact hnI j hi
    | map es =>
      rw [hb0, hx] at hk
      obtain ⟨b', ents, clock, hρ, _, _, _, hnI⟩ := hk
      rw [hρ] at h2
      cases h2
      exact hnI j hi
    | win e size k' cells => exact unshL_win (hun k) hx
  refine callsIn_wide.2 ((hiter w1 I cvs (fun b => C0 b ∨ ownedBy (T 0) ρ b) l J (fun b j hi => ⟨by have := (hs.old b j hi).1; omega, fun hc => ?_⟩) (hcvs.mono (fun b j hi => KeepB.of (hB1.block b (hs.old b j hi).1)) (fun _ _ h => h)) hJc hJg (fun k C w' ⟨I', ρ', h1, h2, _⟩ g' zs hg' j v hj => ⟨((hG ▸ h1.gl) g' zs hg' j v hj).1, ((hG ▸ hs.gl) g' zs hg' j v hj).2⟩) ⟨I, ρ, hsat0, fun _ _ h => h, Nat.le_refl _, hl1, hD1, fun _ => Iff.rfl⟩ ?_).mono ?_)
  · rcases hc with hc | hc
    · exact hs.cI b j hi hc
    · exact nown 0 w1 I ρ hsat0 b j hi hc
  · -- a round
    rintro k C w' I1 ys x hx ⟨I', ρ', h1, h2, h3, h4, h5, h6⟩ hI1 hreps
    have hlen : ps.length = x.length := hps x (List.mem_of_getElem? hx)
    have hyl : ys.length = ps.length := by rw [hreps.1, hlen]
    refine ⟨fn, (ps.toArray.zip ys.toArray).foldl (fun tmps (q : Tmp × Value) => tmps.setIfInBounds q.1 q.2) a.tmps, assign, body, ?_, ?_⟩
    · have hsz : ¬ ys.toArray.size ≠ ps.toArray.size := by simpa using hyl
      simp [Instr.yield, Instr.getLoop, getObj, Sem.run, h4, rec0, hyl]
    let Iall : Im := fun b j => I' b j ∨ I1 b j
    let X : Nat → Prop := ownedBy (T k) ρ'
    have hIall : ∀ b j, Iall b j → b < w'.heap.size ∧ ¬ C0 b ∧ ¬ X b ∧ (E.I0 b j ∨ E.mine b) := by
      rintro b j (hi | hi)
      · exact ⟨(h1.old b j hi).1, h1.cI b j hi, nown k w' I' ρ' h1 b j hi, (h1.old b j hi).2⟩
      · obtain ⟨e1, e2, e3⟩ := hI1 b j hi
        refine ⟨e1, fun hc => e2 ((h6 b).2 (.inl hc)), fun hc => e2 ((h6 b).2 (.inr hc)), ?_⟩
        rcases e3 with e3 | e3
        · exact (hs.old b j e3).2
        · exact .inr (E.mineB b (by have := E.size _ _ _ hs.frame; omega))
    have hok : RndOk E w' Iall C0 := ⟨fun b j hi => (hIall b j hi).1, fun b j hi => .inl (h1.sub b j hi), E.size _ _ _ h1.frame⟩
    have hlD : l < w'.heap.size ∧ D < w'.heap.size ∧ l ≠ D := ⟨by omega, by omega, by simp [l, D]⟩
    have hdq' : ∀ dd ∈ a.defers, ∀ q, dd.target = .collected q → q < w'.heap.size := fun dd hd q hq => by have := hdq dd hd q hq; omega
    let lpb : Loop := { rec0 with state := .busy }
    let E1 := Env.rnd E w' Iall X C0 boxes ρ' a.defers l D rec0 hok
    let E2 := Env.rnd E w' Iall X C0 boxes ρ' a.defers l D lpb hok
    have hsub' : ∀ b j, I' b j → Iall b j := fun _ _ h => .inl h
    have htm := par_fold (w := w') (I := Iall) (ρ := ρ') (n := E.n) ps ys x a.tmps keep hlen (hreps.mono (same_refl I1 w') (fun _ _ h => .inr h)) hpn h1.size (fun t => (h1.tmps t).mono (same_refl I' w') hsub')
    have hzip : (ps.toArray.zip ys.toArray).foldl (fun tmps (q : Tmp × Value) => tmps.setIfInBounds q.1 q.2) a.tmps = (ps.zip ys).foldl (fun tmps (q : Tmp × Value) => tmps.setIfInBounds q.1 q.2) a.tmps := by
      rw [← Array.foldl_toList]; simp
    have hstart : Sat E1 ⟨parS ps x ++ keep, T k⟩ { tmps := (ps.toArray.zip ys.toArray).foldl (fun tmps (q : Tmp × Value) => tmps.setIfInBounds q.1 q.2) a.tmps, defers := [] } w' := by
      rw [hzip]
      refine ⟨Iall, ρ', C0, ⟨htm.2, fun i => ?_, h1.dist, ⟨hgi _ _ _ _ h1.frame, same_refl _ _, ⟨Nat.le_refl _, fun _ _ _ => rfl⟩, fun _ => Iff.rfl, h4, hlD, h5, h1.defers, hdq'⟩, fun _ _ h => h, fun b j hi => ⟨(hIall b j hi).1, .inl hi⟩, htm.1, DefOk.nil, fun b j hi => (hIall b j hi).2.1, h1.cB, fun id v hv hi => ?_⟩⟩
      · have hki := h1.blks i
        have hb0 : (S0 k).blk i = look Blk.none (T k) i := rfl
        show BlkOk w' Iall ρ' E1.mine i (look Blk.none (T k) i)
        have excl : ∀ b j, look Blk.none (T k) i ≠ .none → blockOf (ρ' i) = some b → ¬ Iall b j := fun b j hne hbo hi => (hIall b j hi).2.2.1 ⟨i, hne, hbo⟩
        have hmine : ∀ b, look Blk.none (T k) i ≠ .none → blockOf (ρ' i) = some b → E.mine b → E1.mine b := fun b hne hbo _ => .inl ⟨⟨i, hne, hbo⟩, (h1.blt i b hne hbo).1⟩
        have hki' : BlkOk w' I' ρ' E.mine i (look Blk.none (T k) i) := hki
        exact (hki'.mineM hmine).widenI hsub' fun b j hne hbo hi => absurd hi (excl b j hne hbo)
      · simp only [E1, Env.rnd] at hv
        by_cases e : boxes.contains id = true
        · rw [if_pos e] at hv; cases hv; rfl
        · rw [if_neg e] at hv; exact h1.nm id v hv hi
    refine roundIn_of_wpIn trivial ?_
    have hass := round w' Iall X C0 ρ' a.defers l D rec0 lpb hok k x hx _ w' hstart
    refine wpIn_mono hass ?_
    rintro e a2 w2 ⟨S2, hK2, I2, ρ2, C2, hs2⟩
    cases e with
    | normal =>
      have hf2 := hs2.frame
      obtain ⟨f1, f2, f3, f4, f5, f6, f7, f8, f9⟩ := hf2
      let w3 : World := { w2 with heap := w2.heap.setIfInBounds l (.loop lpb) }
      have hl2 : l < w2.heap.size := (Array.getElem?_eq_some_iff.1 f5).1
      have ht23 : Turned l w2 w3 := ⟨rfl, rfl, rfl, by simp [w3], fun q hq => Array.getElem?_setIfInBounds_ne (fun e => hq e.symm), fun o hc => (by rw [f5] at hc; cases hc; rfl), fun o hc => (by simp [w3, hl2] at hc; subst hc; rfl)⟩
      refine ⟨w3, ?_, ?_⟩
      · simp [Instr.beginRound, Instr.getLoop, getObj, setObj, Sem.run, f5, rec0, w3, lpb]
      · have hf3 : E2.fr S2.ghost C2 w3 := by
          refine ⟨E.turn hE _ _ _ _ _ f1 (by have := E.size _ _ _ hs.frame; omega) ht23 (ht23.same _), fun b j hi => (ht23.same Iall b j hi).trans (f2 b j hi), ⟨by rw [ht23.size]; exact f3.size, fun b hlt hn => (ht23.blk b (fun e => hn (.inr e))).trans (f3.blk b hlt hn)⟩, f4, by simp [w3, hl2], f6, (ht23.blk D (fun e => f6.2.2 e.symm)).trans f7, ?_, f9⟩
          refine ⟨fun dd hd => ?_, f8.dist, f8.wr⟩
          obtain ⟨u, e1, e2, e3, e4⟩ := f8.each dd hd
          have := hdq dd hd u e1
          exact ⟨u, e1, e2, e3, (ht23.blk u (by omega)).trans e4⟩
        have hs3 : SatAt E2 S2 a2 w3 I2 ρ2 C2 := by
          have hd0 : ∀ d ∈ a2.defers, d.target ≠ .collected l := fun dd hd e => by
            obtain ⟨u, e1, e2, _, _⟩ := hs2.defers.each dd hd
            rw [e] at e1; cases e1
            have : w'.heap.size ≤ l := e2
            omega
          exact hs2.turn2 (E' := E2) rfl rfl rfl rfl rfl rfl ht23 hd0 hf3
        refine wpIn_mono (hK2 a2 w3 ⟨I2, ρ2, C2, hs3⟩) ?_
        rintro e a4 w4 ⟨S4, hK4, I4, ρ4, C4, hs4⟩
        cases e with
        | normal =>
          have hcov : CovB S4 (T (k + 1)) := hK4
          obtain ⟨p1, p2, p3, p4, p5, p6, p7, p8, p9⟩ := hs4.frame
          let w5 : World := { w4 with heap := w4.heap.setIfInBounds l (.loop rec0) }
          have hl4 : l < w4.heap.size := (Array.getElem?_eq_some_iff.1 p5).1
          have ht45 : Turned l w4 w5 := ⟨rfl, rfl, rfl, by simp [w5], fun q hq => Array.getElem?_setIfInBounds_ne (fun e => hq e.symm), fun o hc => (by rw [p5] at hc; cases hc; rfl), fun o hc => (by simp [w5, hl4] at hc; subst hc; rfl)⟩
          have hfr5 : E.fr 0 C0 w5 := E.turn hE _ _ _ _ _ p1 (by have := E.size _ _ _ hs.frame; omega) ht45 (ht45.same _)
          have hsame5 : Same Iall w' w5 := fun b j hi => (ht45.same Iall b j hi).trans (p2 b j hi)
          have hsubI : ∀ b j, Iall b j → I4 b j := hs4.sub
          have hblkT : ∀ i, look Blk.none (T (k + 1)) i ≠ .none → S4.blk i = look Blk.none (T (k + 1)) i := fun i hi => by
            rcases covB_blk hcov i with e | e
            · exact absurd e hi
            · exact e
          have hs5 : SatAt E (S0 (k + 1)) a w5 I4 ρ4 C0 := by
            refine ⟨fun t => ?_, fun i => ?_, fun i i' b hn hi hi' => hs4.dist i i' b hn (by rw [hblkT i hi]; exact hi) (by rw [hblkT i' hi']; exact hi'), hgi _ _ _ _ hfr5, fun b j hi => hsubI b j (.inl (h1.sub b j hi)), fun b j hi => ⟨by rw [ht45.size]; exact (hs4.old b j hi).1, ?_⟩, h1.size, ?_, fun b j hi hc => hs4.cI b j hi ((p4 b).2 hc), fun i b hi hb hc => hs4.cB i b (by rw [hblkT i hi]; exact hi) hb ((p4 b).2 hc), fun i v hv hi => ?_⟩
            · have hold : Holds w' I' ρ' (a.tmps.getD t undef) (look AV.top keep t) := h1.tmps t
              show Holds w5 I4 ρ4 (a.tmps.getD t undef) (look AV.top keep t)
              rcases keepOk_spec hko t with e | ⟨y, e⟩ | ⟨id, off, e, hbid⟩
              · rw [e]; trivial
              · rw [e] at hold ⊢
                exact Rep.mono hold (fun b j hi => hsame5 b j (.inl hi)) (fun b j hi => hsubI b j (.inl hi))
              · rw [e] at hold ⊢
                obtain ⟨b, hb1, hb2⟩ := hold
                refine ⟨b, ?_, hb2⟩
                have := hs4.nm id (ρ' id) (by show (if boxes.contains id then some (ρ' id) else E.nm id) = _; rw [if_pos hbid]) (by rw [hblkT id (hbx (k + 1) id hbid)]; exact hbx (k + 1) id hbid)
                rw [this]; exact hb1
            · show BlkOk w5 I4 ρ4 E.mine i (look Blk.none (T (k + 1)) i)
              cases hxb : look Blk.none (T (k + 1)) i with
              | none => trivial
              | _ =>
                have hne : look Blk.none (T (k + 1)) i ≠ .none := by rw [hxb]; simp
                rw [← hxb]
                have hbk := hs4.blks i
                rw [hblkT i hne] at hbk
                have hmm := hbk.mono (ht45.same I4) (fun b hb => ht45.blk b (fun e => by
                  obtain ⟨o, hc, hd⟩ := hs4.cellBlk (id := i) (by rw [hblkT i hne]; exact hne) hb
                  rw [e, p5] at hc; cases hc; cases hd))
                refine hmm.mineM fun b _ _ m => ?_
                rcases m with m | m
                · exact m.2
                · exact E.mineB b (by have := E.size _ _ _ h1.frame; omega)
            · rcases (hs4.old b j hi).2 with m | m | m
              · exact (hIall b j m).2.2.2
              · exact .inr m.2
              · exact .inr (E.mineB b (by have := E.size _ _ _ h1.frame; omega))
            · refine ⟨fun dd hd => ?_, p8.dist, p8.wr⟩
              obtain ⟨u, e1, e2, e3, e4⟩ := p8.each dd hd
              have := hdq dd hd u e1
              exact ⟨u, e1, e2, e3, (ht45.blk u (by omega)).trans e4⟩
            · by_cases e : boxes.contains i = true
              · rw [hnm i e] at hv; cases hv
              · exact hs4.nm i v (by show (if boxes.contains i then some (ρ' i) else E.nm i) = _; rw [if_neg e]; exact hv) (by rw [hblkT i hi]; exact hi)
          refine ⟨.bool true, w5, ?_, rfl, (fun b => C0 b ∨ ownedBy (T (k + 1)) ρ4 b), ⟨I4, ρ4, hs5, fun b j hi => hsubI b j (.inl (h2 b j hi)), ?_, by simp [w5, hl4], (ht45.blk D (by simp [D, l])).trans p7, fun _ => Iff.rfl⟩, ⟨?_, fun b hlt hn => ?_⟩, ?_⟩
          · simp [Instr.endRound, Instr.getLoop, getObj, setObj, Sem.run, p5, lpb, rec0, w5]
          · rw [ht45.size]; exact Nat.le_trans h3 p3.size
          · rw [ht45.size]; exact p3.size
          · by_cases e : b = l
            · subst e
              rw [h4]
              simp [w5, hl4]
            · refine (ht45.blk b e).trans (p3.blk b hlt ?_)
              rintro (hc | hc)
              · exact hn ((h6 b).2 (.inr hc))
              · exact e hc
          · rintro b (hc | ⟨id, hi, hb⟩)
            · exact .inl ((h6 b).2 (.inl hc))
            · rcases (hs4.blt id b (by rw [hblkT id hi]; exact hi) hb).1 with m | m
              · exact .inl ((h6 b).2 (.inr m.1))
              · exact .inr m
        | _ => exact hK4.elim
    | _ => exact hK2.elim
  · -- behind the loop
    rintro e w' ⟨rfl, C', I', ρ', h1, h2, h3, h4, h5, h6⟩
    let w4 : World := { w' with heap := w'.heap.setIfInBounds l (.loop { rec0 with state := .exhausted }) }
    have hl2 : l < w'.heap.size := (Array.getElem?_eq_some_iff.1 h4).1
    have ht : Turned l w' w4 := ⟨rfl, rfl, rfl, by simp [w4], fun q hq => Array.getElem?_setIfInBounds_ne (fun e => hq e.symm), fun o hc => (by rw [h4] at hc; cases hc; rfl), fun o hc => (by simp [w4, hl2] at hc; subst hc; rfl)⟩
    refine ⟨none, w4, ?_, ?_⟩
    · simp [Instr.endLoop, Instr.getLoop, getObj, setObj, Sem.run, h4, rec0, w4]
    · have hfr4 := E.turn hE _ _ _ _ _ h1.frame (by have := E.size _ _ _ hs.frame; omega) ht (ht.same _)
      have hs4 := h1.turn ht (fun dd hd e => by have := hdq dd hd l e; omega) hfr4
      refine ⟨S0 xs.length, hK, I', ρ', C0, ⟨hs4.tmps, hs4.blks, hs4.dist, hs4.frame, hs4.sub, hs4.old, hs4.size, ⟨?_, ?_, fun _ => hE⟩, hs4.cI, hs4.cB, hs4.nm⟩⟩
      · intro dd hd
        rcases List.mem_cons.1 hd with rfl | hd
        · refine ⟨D, rfl, by have := E.size _ _ _ hs.frame; omega, fun hc => ?_, (ht.blk D (by simp [D, l])).trans h5⟩
          have := E.csize _ _ _ hs.frame D hc
          omega
        · exact hs4.defers.each dd hd
      · refine List.pairwise_cons.2 ⟨fun dd hd q hq hq2 => ?_, hs4.defers.dist⟩
        cases hq
        have := hdq dd hd D hq2
        omega
end Go.AV

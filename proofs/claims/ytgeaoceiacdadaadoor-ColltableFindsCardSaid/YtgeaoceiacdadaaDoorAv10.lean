/- The layer of abstract values: what a temporary holds, said once; every rule of it is proved from the model. Conditions: none. -/
import Derived.Test.YtgeaoceiacdadaaDoorAv9
import Derived.RangeFuncIn
set_option linter.unusedSimpArgs false
set_option linter.unusedVariables false
set_option linter.unnecessarySimpa false
namespace Go.AV
open Go.RowKit

/-! ## Functions that take a row over and hand it back -/

/-- v owns a row that reads as the cells; nothing of it is shared. -/
def OwnR (w : World) (I : Im) (e size : Nat) (v : Value) (cells : List DV) : Prop :=
  0 < size ∧ ∃ n xs, cells.length = n * size ∧ w.ownsRow 0 e size v n xs ∧ (∀ x ∈ xs, x.oneCell' = true) ∧ Reps w I xs cells ∧ ∀ g j, v.ownBlock = some g → ¬ I g j

/-- 'f(row, ds..)' hands a row of cells' back (ret), or writes the row that it was given in place. -/
def ContractO (P : Program) (f : FuncId) (e size : Nat) (cells ds cells' : List DV) (ret : Bool) : Prop :=
  (∃ fn, P.funcs[f]? = some fn ∧ (fn.name == "runtime.NumGoroutine") = false ∧ fn.body.isNone = false) ∧
  ∀ (w : World) (I : Im) (v : Value) (vs : List Value), (∀ b j, I b j → b < w.heap.size) → OwnR w I e size v cells → Reps w I vs ds →
    Calls P f (v :: vs).toArray w fun en w' => ∃ v' I', en = .returned (if ret then v' else .tuple #[]) ∧ (ret = false → v' = v) ∧ OwnR w' I' e size v' cells' ∧ w.grownBy w' v.ownBlock ∧ Same I w w' ∧
      (∀ b j, I b j → I' b j) ∧ (∀ b j, I' b j → b < w'.heap.size ∧ (I b j ∨ w.heap.size ≤ b)) ∧ (∀ b, v'.ownBlock = some b → v.ownBlock = some b ∨ w.heap.size ≤ b)

section
variable {P : Program} {r : Option Nat} {E : Env} {S : AState} {d : Nat} {ty : TypeId} {pos : String} {af : Array Edge} {g : Option (Nat × Bool)}

/-- More may be immutable, if it lies in blocks that are new since B. (The row of 'id' may be new too: nothing of it is.) -/
theorem SatAt.widen' {a : Act} {w : World} {I I' : Im} {ρ : Nat → Value} {C : Nat → Prop} {B id : Nat} (h : SatAt E S a w I ρ C) (hsub : ∀ b j, I b j → I' b j) (hnew : ∀ b j, I' b j → b < w.heap.size ∧ (I b j ∨ B ≤ b))
    (hB : ∀ i b, i ≠ id → S.blk i ≠ .none → blockOf (ρ i) = some b → b < B) (hid : ∀ b j, blockOf (ρ id) = some b → ¬ I' b j) (hEB : E.B ≤ B) (hC : ∀ b, C b → b < B) : SatAt E S a w I' ρ C := by
  refine ⟨fun t => (h.tmps t).mono (same_refl I w) hsub, fun i => ?_, h.dist, h.frame, fun b j hi => hsub b j (h.sub b j hi), fun b j hi => ⟨(hnew b j hi).1, ?_⟩, h.size, h.defers, fun b j hi => ?_, h.cB, h.nm⟩
  · have hki := h.blks i
    have excl : ∀ b j, S.blk i ≠ .none → blockOf (ρ i) = some b → I' b j → I b j := by
      intro b j hne hbo hi
      rcases (hnew b j hi).2 with hi' | hi'
      · exact hi'
      · by_cases e : i = id
        · subst e; exact absurd hi (hid b j hbo)
        · have := hB i b e hne hbo; omega
    exact hki.widenI hsub fun b j hx hbo hi => excl b j hx hbo hi
  · rcases (hnew b j hi).2 with hi | hi
    · exact (h.old b j hi).2
    · exact .inr (E.mineB b (by omega))
  · rcases (hnew b j hi).2 with hi | hi
    · exact h.cI b j hi
    · intro hc; have := hC b hc; omega

/-- A block is taken into the state. -/
theorem SatAt.adopt {a : Act} {w : World} {I : Im} {ρ : Nat → Value} {C : Nat → Prop} {id : Nat} {x : Blk} (h : SatAt E S a w I ρ C) (hx : BlkOk w I ρ E.mine id x)
    (hd : ∀ i b, i ≠ id → S.blk i ≠ .none → blockOf (ρ i) = some b → blockOf (ρ id) ≠ some b) (hc : ∀ b, blockOf (ρ id) = some b → ¬ C b) (hnm : E.nm id = none) : SatAt E (S.setBlk id x) a w I ρ C := by
  have key : ∀ i, (S.setBlk id x).blk i ≠ .none → i ≠ id → S.blk i ≠ .none := by
    intro i hi hn
    rwa [blk_setBlk, if_neg (fun e => hn e.symm)] at hi
  refine ⟨h.tmps, fun i => ?_, fun i i' b hn hi hi' hb => ?_, h.frame, h.sub, h.old, h.size, h.defers, h.cI, fun i b hi hb => ?_, fun i v hv hi => h.nm i v hv (key i hi (fun e => by rw [e, hnm] at hv; cases hv))⟩
  · rw [blk_setBlk]
    by_cases e : id = i
    · subst e; simpa using hx
    · simp only [e, if_false]; exact h.blks i
  · by_cases e : i = id
    · subst e
      intro hb'
      exact hd i' b (fun e => hn e.symm) (key i' hi' (fun e => hn e.symm)) hb' hb
    · by_cases e' : i' = id
      · subst e'; exact hd i b e (key i hi e) hb
      · exact h.dist i i' b hn (key i hi e) (key i' hi' e') hb
  · by_cases e : i = id
    · subst e; exact hc b hb
    · exact h.cB i b (key i hi e) hb

theorem s_callO {f : FuncId} {x0 : Operand} {xs : List Operand} {ats : Array TypeId} {id e size : Nat} {cells ds cells' : List DV} (hn : d < E.n) (hx : S.ev x0 = .row id) (hb : S.blk id = .row e size false cells) (hds : unD (xs.map S.ev) = some ds)
    (hc : ContractO P f e size cells ds cells' true) (hE : E.wrB = true) (hnm : E.nm id = none) :
    Step P r E ⟨some d, .call { callee := .value (.func f), args := (x0 :: xs).toArray, argTypes := ats }, ty, pos, af, g⟩ S (((S.kill id).setBlk id (.row e size false cells')).put d (.row id)) := by
  rintro A w K Q ⟨I, ρ, C, hs⟩ hk
  obtain ⟨⟨fn, hf, hname, hbody⟩, hcall⟩ := hc
  obtain ⟨hd1, hd2⟩ := unD_spec S hds
  obtain ⟨I1, h1, h2, h3⟩ := SatAt.dvL _ hs (holds_args hs xs) hd1
  rw [hd2] at h2
  have hxv := hs.ev x0
  rw [hx] at hxv
  have hv : A.eval x0 = ρ id := hxv
  have hbk := h2.blks id
  rw [hb] at hbk
  obtain ⟨hp, n, ys, hl, hown, h1y, hpw, hIr⟩ := hbk
  have hOwn : OwnR w I1 e size (ρ id) cells := ⟨hp.1, n, ys, hl, hown, h1y, hpw, fun g j hg hi => by have := (hIr g j hg hi).1; cases this⟩
  have hcl := hcall w I1 (ρ id) (xs.map A.eval) (fun b j hi => (h2.old b j hi).1) hOwn h3
  refine ⟨fun f _ => trivial, ?_⟩
  rw [Oper.semAt_eq _ _ _ (by simp)]
  have hrun : (execOp A.eval ⟨some d, .call { callee := .value (.func f), args := (x0 :: xs).toArray, argTypes := ats }, ty, pos, af, g⟩).run P w = .ok (.enter f (ρ id :: xs.map A.eval).toArray) w := by
    have hev : A.eval (.func f) = .func (.func f) #[] #[] := rfl
    have hmap : (x0 :: xs).toArray.map A.eval = (ρ id :: xs.map A.eval).toArray := by simp [hv]
    simp only [execOp, resolve, hev, hmap, Deferred.ofValue]
    have hn1 : ¬ fn.name = "runtime.NumGoroutine" := by simpa using hname
    have hn2 : ¬ fn.body = none := by intro e; simp [e] at hbody
    simp [invoke, callFunc, hf, hn1, hn2]
  rw [hrun]
  refine ⟨by simp [fen, Fence.wide], ?_⟩
  show CallsIn Fence.wide 0 P f _ w _
  refine callsIn_wide.2 (hcl.mono ?_)
  rintro en w' ⟨v', I', rfl, _, ⟨hp', n', ys', hl', hown', h1y', hpw', hI'⟩, hg, hsame, hsub, hnew, hblk⟩
  simp only [if_true]
  refine hk _ _ ⟨I', upd ρ id v', C, SatAt.put ?_ hn (by simp [Holds, upd])⟩
  have hne : S.blk id ≠ .none := by rw [hb]; simp
  have hblk' : ∀ b, blockOf v' = some b → v'.ownBlock = some b := by
    intro b hbk
    rcases hown'.2 with ⟨hn', _⟩ | ⟨gb, cap, cur, hn', _⟩
    · rw [hn'] at hbk; cases hbk
    · rw [hn'] at hbk ⊢; exact hbk
  have s1 := h2.update hg (id := id) (u := v') (x := .none) (fun k hk => ⟨hne, ownBlock_of hk⟩) hsame (fun b hbk => by
    rcases hblk b (hblk' b hbk) with e1 | e2
    · exact .inr ⟨hne, ownBlock_of e1⟩
    · exact .inl e2) trivial (.inr hE) hnm
  have key : ∀ i, ((S.kill id).setBlk id .none).blk i ≠ .none → i ≠ id ∧ S.blk i ≠ .none := by
    intro i hi
    rw [blk_setBlk] at hi
    by_cases e : id = i
    · subst e; simp at hi
    · rw [if_neg e, blk_kill] at hi
      exact ⟨fun e' => e e'.symm, fun e' => by rw [e'] at hi; exact hi rfl⟩
  have hupd : ∀ i, i ≠ id → upd ρ id v' i = ρ i := fun i hi => by simp [upd, hi]
  have hupd' : upd ρ id v' id = v' := by simp [upd]
  have s2 := s1.widen (B := w.heap.size) hsub hnew (fun i b hi hbk => by
    obtain ⟨h1, h2'⟩ := key i hi
    rw [hupd i h1] at hbk
    exact (h2.blt i b h2' hbk).2) (E.size _ _ _ h2.frame) (fun b hc => E.csize _ _ _ h2.frame b hc)
  have s3 := s2.adopt (id := id) (x := .row e size false cells') (by
      refine ⟨⟨hp', fun gb hg' => ?_⟩, n', ys', hl', by rw [hupd']; exact hown', h1y', hpw', fun gb j hg' hi => ?_⟩
      · rw [hupd'] at hg'
        rcases hblk gb hg' with e1 | e2
        · exact hp.2 gb e1
        · exact E.mineB _ (by have := E.size _ _ _ h2.frame; omega)
      · rw [hupd'] at hg'; exact absurd hi (hI' gb j hg'))
    (fun i b hi hbi hbk => by
      obtain ⟨h1, h2'⟩ := key i hbi
      rw [hupd i h1] at hbk
      rw [hupd']
      intro hb'
      have hob := hblk' b hb'
      rcases hblk b hob with e1 | e2
      · exact h2.dist i id b h1 h2' hne hbk (ownBlock_of e1)
      · have := (h2.blt i b h2' hbk).2; omega)
    (fun b hb' => by
      rw [hupd'] at hb'
      have hob := hblk' b hb'
      rcases hblk b hob with e1 | e2
      · exact h2.cB id b hne (ownBlock_of e1)
      · intro hc; have := E.csize _ _ _ h2.frame _ hc; omega) hnm
  refine s3.congr' (fun t => rfl) (fun i => ?_)
  rw [blk_setBlk, blk_setBlk, blk_setBlk]
  split <;> simp_all

def DV.isV : DV → Bool
  | .v _ => true
  | _ => false
theorem reps_any {w w' : World} {I I' : Im} {xs : List Value} {ds : List DV} (h : Reps w I xs ds) (hv : ds.all DV.isV = true) : Reps w' I' xs ds := by
  refine ⟨h.1, fun j x d hx hd => ?_⟩
  have := List.all_eq_true.1 hv d (List.mem_of_getElem? hd)
  have h2 := h.2 j x d hx hd
  cases d with
  | v u => cases h2; exact .v _
  | _ => simp [DV.isV] at this

/-- The surroundings of a function that was handed the row v. -/
def Env.own (w0 : World) (I0 : Im) (v : Value) (n : Nat) (hn : n ≤ 1000000) : Env where
  B := w0.heap.size
  I0 := I0
  n := n
  fr := fun _ C w => (w0.grownBy w v.ownBlock ∧ Same I0 w0 w) ∧ (∀ b j, I0 b j → b < w0.heap.size) ∧ ∀ b, ¬ C b
  wrB := true
  nle := hn
  mine := fun b => w0.heap.size ≤ b ∨ v.ownBlock = some b
  mineB := fun _ h => .inl h
  nm := fun _ => none
  size := fun _ _ _ h => h.1.1.size
  csize := fun _ _ _ h b hb => absurd hb (h.2.2 b)
  grow := fun _ _ w w' h hb => ⟨⟨⟨hb.os.trans h.1.1.os, hb.tape.trans h.1.1.tape, hb.output.trans h.1.1.output, Nat.le_trans h.1.1.size hb.size, fun k hk hne => (hb.block k (Nat.lt_of_lt_of_le hk h.1.1.size)).trans (h.1.1.block k hk hne)⟩,
    fun b j hi => (KeepB.of (hb.block b (Nat.lt_of_lt_of_le (h.2.1 b j hi) h.1.1.size))).trans (h.1.2 b j hi)⟩, h.2⟩
  wr := fun _ _ _ w w' row h hg hr hs => ⟨⟨⟨hg.os.trans h.1.1.os, hg.tape.trans h.1.1.tape, hg.output.trans h.1.1.output, Nat.le_trans h.1.1.size hg.size, fun k hk hne => (hg.block k (Nat.lt_of_lt_of_le hk h.1.1.size) (fun e => by
      rcases (hr k e).1 with h1 | h1
      · omega
      · exact hne h1.symm)).trans (h.1.1.block k hk hne)⟩, fun b j hi => (hs b j hi).trans (h.1.2 b j hi)⟩, h.2⟩
  turn := fun _ _ _ w w' l h hl ht hs => ⟨⟨⟨ht.os.trans h.1.1.os, ht.tape.trans h.1.1.tape, ht.output.trans h.1.1.output, by rw [ht.size]; exact h.1.1.size, fun k hk hne => (ht.blk k (by omega)).trans (h.1.1.block k hk hne)⟩, fun b j hi => (hs b j hi).trans (h.1.2 b j hi)⟩, h.2⟩
  gdt := fun _ => none
  gl := fun _ _ _ _ => GlI.none

def retKO (fn : Func) (e size : Nat) (cells' : List DV) : Exit → AState → Prop
  | .ret, S | .normal, S => ∃ t id, fn.results = #[.tmp t] ∧ (S.get t).un = .row id ∧ S.blk id = .row e size false cells'
  | _, _ => False

theorem ret_own {fn : Func} {t id e size : Nat} {cells cells' : List DV} (hr : fn.results = #[.tmp t]) (h : (S.get t).un = .row id) (hb : S.blk id = .row e size false cells) (hc : cells = cells') : retKO fn e size cells' .ret S :=
  ⟨t, id, hr, h, by rw [← hc]; exact hb⟩

theorem contractO_of {f : FuncId} {fn : Func} {c : Code} {e size : Nat} {cells ds cells' : List DV} (hf : P.funcs[f]? = some fn) (hname : (fn.name == "runtime.NumGoroutine") = false) (hb : fn.body = some c) (hn : ds.length + 1 ≤ fn.ntmps) (hn2 : fn.ntmps ≤ 1000000) (hV : cells'.all DV.isV = true)
    (h : ∀ w0 I0 v, Avc P none (Env.own w0 I0 v fn.ntmps hn2) c (retKO fn e size cells') ⟨(0, .row 0) :: initS ds 1, [(0, .row e size false cells)]⟩) : ContractO P f e size cells ds cells' true := by
  refine ⟨⟨fn, hf, hname, by simp [hb]⟩, fun w I v vs hI hown hvs => ?_⟩
  refine callsIn_wide (n := 0) |>.1 (callsIn_of_wp_marks hf hb trivial ?_)
  have hlen : vs.length = ds.length := hvs.1
  obtain ⟨hp, n, xs, hl, hor, h1, hpw, hnI⟩ := hown
  have hsat : Sat (Env.own w I v fn.ntmps hn2) ⟨(0, .row 0) :: initS ds 1, [(0, .row e size false cells)]⟩ { tmps := (v :: vs).toArray ++ Array.replicate (fn.ntmps - (v :: vs).toArray.size) undef, defers := [] } w := by
    have hblk : ∀ i, (⟨(0, .row 0) :: initS ds 1, [(0, .row e size false cells)]⟩ : AState).blk i = if 0 = i then .row e size false cells else .none := fun i => look_cons _ _ _ _ _
    refine ⟨I, fun _ => v, fun _ => False, ⟨fun t => ?_, fun i => ?_, fun i i' b hne hi hi' => ?_, ⟨⟨World.grownBy.refl w _, same_refl I w⟩, hI, fun _ h => h⟩, fun _ _ h => h, fun b j h => ⟨hI b j h, .inl h⟩, by simp [Env.own]; omega, DefOk.nil, fun _ _ _ h => h, fun _ _ _ _ h => h, fun _ _ h => by cases h⟩⟩
    · show Holds _ _ _ _ (look AV.top ((0, .row 0) :: initS ds 1) t)
      rw [look_cons]
      by_cases e0 : 0 = t
      · subst e0; simp [Holds, Array.getD_eq_getD_getElem?, Array.getElem?_append]
      · simp only [e0, if_false]
        rcases look_init ds 1 t with ⟨h1t, x, hx, hlk⟩ | hlk
        · rw [hlk]
          have ht : t - 1 < vs.length := by rw [hlen]; exact (List.getElem?_eq_some_iff.1 hx).1
          refine hvs.2 (t - 1) _ x ?_ hx
          have e1 : t = (t - 1) + 1 := by omega
          have : ((v :: vs).toArray ++ Array.replicate (fn.ntmps - (v :: vs).toArray.size) undef)[t]? = vs[t - 1]? := by
            rw [Array.getElem?_append_left (by simp; omega)]
            simp only [List.getElem?_toArray]
            conv => lhs; rw [e1]
            simp
          simp only [Array.getD_eq_getD_getElem?, this]
          simp [ht]
        · rw [hlk]; trivial
    · rw [hblk]
      by_cases e0 : 0 = i
      · subst e0
        simp only [if_true]
        exact ⟨⟨hp, fun g hg => .inr hg⟩, n, xs, hl, hor, h1, hpw, fun g j hg hi => absurd hi (hnI g j hg)⟩
      · simp only [e0, if_false]; trivial
    · rw [hblk] at hi hi'
      by_cases e0 : 0 = i
      · by_cases e1 : 0 = i'
        · exact absurd (e0.symm.trans e1) hne
        · simp [e1] at hi'
      · simp [e0] at hi
  refine wpIn_mono (h w I v _ w hsat) ?_
  rintro en a w' ⟨S, hK, I1, ρ, C, hs⟩
  have fin : (∃ t id, fn.results = #[.tmp t] ∧ (S.get t).un = .row id ∧ S.blk id = .row e size false cells') → LeavesInM (fen none) 0 P fn a.tmps (fun en w' => ∃ v' I', en = .returned (if true then v' else .tuple #[]) ∧ (true = false → v' = v) ∧ OwnR w' I' e size v' cells' ∧ w.grownBy w' v.ownBlock ∧ Same I w w' ∧
      (∀ b j, I b j → I' b j) ∧ (∀ b j, I' b j → b < w'.heap.size ∧ (I b j ∨ w.heap.size ≤ b)) ∧ (∀ b, v'.ownBlock = some b → v.ownBlock = some b ∨ w.heap.size ≤ b)) a.defers .returning w' := by
    rintro ⟨t, id, hres, hget, hblk⟩
    refine leaves_marks (B := w.heap.size) a.defers w' hs.defers fun w2 hb2 hk2 => ?_
    have hfr : (Env.own w I v fn.ntmps hn2).fr S.ghost C w2 := by
      refine ⟨⟨⟨hb2.os.trans hs.frame.1.1.os, hb2.tape.trans hs.frame.1.1.tape, hb2.output.trans hs.frame.1.1.output, Nat.le_trans hs.frame.1.1.size hb2.size, fun k hk hne => (hb2.block k hk).trans (hs.frame.1.1.block k hk hne)⟩, fun b j hi => (hk2.same (I := I) b j hi).trans (hs.frame.1.2 b j hi)⟩, hs.frame.2⟩
    have hs2 := hs.taken hk2 hfr
    have hv := (hs2.tmps t).un
    rw [hget] at hv
    have hv' : a.tmps.getD t undef = ρ id := hv
    have hbk := hs2.blks id
    rw [hblk] at hbk
    obtain ⟨hp', n', xs', hl', hor', h1', hpw', hI'⟩ := hbk
    refine ⟨ρ id, ?_, ρ id, I, rfl, fun h => (by cases h), ⟨hp'.1, n', xs', hl', hor', h1', reps_any hpw' hV, fun g j hg hi => ?_⟩, hfr.1.1, hfr.1.2, fun _ _ h => h, fun b j hi => ⟨Nat.lt_of_lt_of_le (hI b j hi) hfr.1.1.size, .inl hi⟩, ?_⟩
    · rw [results_tmp hres, hv']
    · have := (hI' g j hg (hs2.sub g j hi)).1; cases this
    · intro b hob
      rcases hp'.2 b hob with h1 | h1
      · exact .inr h1
      · exact .inl h1
  cases en with
  | normal => exact fin hK
  | ret => exact fin hK
  | _ => exact hK.elim
end
end Go.AV

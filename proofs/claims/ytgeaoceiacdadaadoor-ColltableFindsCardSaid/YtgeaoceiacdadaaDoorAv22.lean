/- The layer of abstract values: what a temporary holds, said once; every rule of it is proved from the model. Conditions: none. -/
import Derived.Test.YtgeaoceiacdadaaDoorAv21
set_option linter.unusedSimpArgs false
set_option linter.unusedVariables false
set_option linter.unnecessarySimpa false
namespace Go.AV
open Go.RowKit Go.M

/-- What a function value does. -/
def FnC (P : Program) (c : DV) (ds rs : List DV) : Prop :=
  (∃ f caps, c = .fn f caps ∧ Contract P f (ds ++ caps) rs) ∨ (∃ f, c = .v (.func (.func f) #[] #[]) ∧ Contract P f ds rs)

section
variable {P : Program} {r : Option Nat} {E : Env} {S : AState} {d : Nat} {ty : TypeId} {pos : String} {af : Array Edge} {g : Option (Nat × Bool)}

theorem rep_fn0 {w : World} {I : Im} {v : Value} {f : FuncId} (h : Rep w I v (.v (.func (.func f) #[] #[]))) : Rep w I v (.fn f []) := by
  cases h
  exact Rep.fn f [] [] rfl (fun j x d hx => by simp at hx)

theorem sat_fn0 {a : Act} {w : World} {t : Nat} {f : FuncId} (hn : t < E.n) (ht : S.get t = .d (.v (.func (.func f) #[] #[]))) (h : Sat E S a w) : Sat E (S.put t (.d (.fn f []))) a w := by
  obtain ⟨I, ρ, C, h⟩ := h
  refine ⟨I, ρ, C, ⟨fun u => ?_, h.blks, h.dist, by rw [ghost_put _ _ hn]; exact h.frame, h.sub, h.old, h.size, h.defers, h.cI, h.cB, h.nm⟩⟩
  rw [get_put]
  by_cases e : t = u
  · subst e
    simp only [if_true]
    have := h.tmps t
    rw [ht] at this
    exact rep_fn0 this
  · simp only [e, if_false]; exact h.tmps u

theorem a_callF {x : Operand} {xs : List Operand} {ats : Array TypeId} {c : DV} {ds rs : List DV} (hn : d < E.n) (hx : S.ev x = .d c) (hds : unD (xs.map S.ev) = some ds) (hc : FnC P c ds rs) (hG : E.gdt = gdOf P := by rfl) :
    AOp P r E S ⟨some d, .call { callee := .value x, args := xs.toArray, argTypes := ats }, ty, pos, af, g⟩ d (retAV rs) := by
  rcases hc with ⟨f, caps, rfl, hc⟩ | ⟨f, rfl, hc⟩
  · exact a_callv hn hx hds hc hG
  · refine ⟨rfl, hn, fun S' ha => ?_⟩
    have hx' := (ha.ev (x := x) (by simp [Op.operands, Call.operands])).trans hx
    have hds' : unD (xs.map S'.ev) = some ds := by
      have : xs.map S'.ev = xs.map S.ev := List.map_congr_left fun y hy => ha.ev (by simp [Op.operands, Call.operands, hy])
      rw [this]; exact hds
    obtain ⟨hd1, hd2⟩ := unD_spec S' hds'
    rintro A w K Q ⟨I, ρ, C, hs⟩ hk
    obtain ⟨⟨fn, hf, hname, hbody⟩, hcall⟩ := hc
    obtain ⟨I1, h1, h2, h3⟩ := SatAt.dvL _ hs (holds_args hs xs) hd1
    rw [hd2] at h2
    have hv := hs.val hx'
    have hcl := hcall w I1 (xs.map A.eval) (fun b j hi => (h2.old b j hi).1) (hG ▸ h2.gl) h3
    refine ⟨fun f _ => trivial, ?_⟩
    rw [Oper.semAt_eq _ _ _ (by simp)]
    have hrun : (execOp A.eval ⟨some d, .call { callee := .value x, args := xs.toArray, argTypes := ats }, ty, pos, af, g⟩).run P w = .ok (.enter f (xs.map A.eval).toArray) w := by
      simp only [execOp, resolve, hv, Deferred.ofValue]
      have hn1 : ¬ fn.name = "runtime.NumGoroutine" := by simpa using hname
      have hn2 : ¬ fn.body = none := by intro e; simp [e] at hbody
      simp [invoke, callFunc, hf, hn1, hn2, List.map_toArray]
    rw [hrun]
    refine ⟨by simp [fen, Fence.wide], ?_⟩
    show CallsIn Fence.wide 0 P f _ w _
    refine callsIn_wide.2 (hcl.mono ?_)
    rintro e w' ⟨v, I', rfl, hb, hsub, hnew, hret⟩
    refine hk _ _ ⟨I', ρ, C, SatAt.put ?_ hn (retOk_holds hret)⟩
    have h4 := h2.grow hb
    exact h4.widen hsub hnew (fun i b hi hbk => (h2.blt i b hi hbk).2) (E.size _ _ _ h2.frame) (fun b hc => E.csize _ _ _ h2.frame b hc)

/-! ## Short names for the printed walks -/
variable {ops : Array Oper} {o : Oper} {rest : List Oper} {J : AState → Prop} {j t : Nat} {want b c : Bool} {x : AV}
theorem sqa (h : AOp P r E S o d x) (k : Sq P r E ops rest (S.put d x) J) (hg : o.guard = none := by rfl) : Sq P r E ops (o :: rest) S J := sq_a (ag_plain hg h) k
theorem daa (h : AOp P r E S o d x) (k : DA P r E ops rest (S.put d x) J) (hg : o.guard = none := by rfl) : DA P r E ops (o :: rest) S J := da_a (ag_plain hg h) k
theorem gF {b : Bool} (h : gd false b = true) : b = false := by cases b; rfl; cases h
theorem ret_1 {t : Nat} {x : DV} (h : S.dv (S.get t).un = some x) : RetS P S [.tmp t] [x] := ⟨_, _, rfl, h, rfl⟩
theorem ret_0 : RetS P S [] [] := rfl
theorem ret_cellA {a t id e : Nat} {cells : List AV} {ds : List DV} (h1 : (S.get a).un = .ptr id 0) (h2 : S.blk id = .box e cells) (hT : AggTy P t cells.length) (hd : S.dvL cells = some ds) : RetS P S [.cell a t] [.agg ds] :=
  ⟨_, _, id, e, cells, rfl, h1, h2, .inr ⟨ds, hT, hd, rfl⟩, rfl⟩
theorem dvd {a b : DV} {y : AV} (h : y = .d a) (e : a = b) : y = .d b := e ▸ h
end
end Go.AV

/- The layer of abstract values: what a temporary holds, said once; every rule of it is proved from the model. Conditions: none. -/
import Derived.Test.YtgeaoceiacdadaaDoorAv24
set_option linter.unusedSimpArgs false
set_option linter.unusedVariables false
set_option linter.unnecessarySimpa false
namespace Go.AV
open Go.RowKit Go.M

section
variable {P : Program} {r : Option Nat} {E : Env} {S : AState} {d : Nat} {ty : TypeId} {pos : String} {af : Array Edge} {g : Option (Nat × Bool)}

/-- What a tmp holds may be said otherwise. -/
theorem sat_conv {a : Act} {w : World} {x y : DV} (hn : d < E.n) (hc : ∀ w I v, Rep w I v x → Rep w I v y) (h : Sat E (S.put d (.d x)) a w) : Sat E (S.put d (.d y)) a w := by
  obtain ⟨I, ρ, C, h⟩ := h
  refine ⟨I, ρ, C, ⟨fun u => ?_, h.blks, h.dist, by have := h.frame; rw [ghost_put _ _ hn] at this ⊢; exact this, h.sub, h.old, h.size, h.defers, h.cI, h.cB, h.nm⟩⟩
  have := h.tmps u
  rw [get_put] at this ⊢
  by_cases e : d = u
  · simp only [e, if_true] at this ⊢; exact hc _ _ _ this
  · simp only [e, if_false] at this ⊢; exact this
theorem AOp.conv {o : Oper} {x y : DV} (h : AOp P r E S o d (.d x)) (hc : ∀ w I v, Rep w I v x → Rep w I v y) : AOp P r E S o d (.d y) :=
  ⟨h.1, h.2.1, fun S' ha a w K Q hs hk => h.2.2 S' ha a w K Q hs fun a' w' hs' => hk a' w' (sat_conv h.2.1 hc hs')⟩
theorem rep_agg_nil {as bs : List DV} (hn : NilL as bs) {w : World} {I : Im} {v : Value} (h : Rep w I v (.agg as)) : Rep w I v (.agg bs) := by
  cases h with
  | agg xs cells hx h1 hr =>
    have := nil_reps hn (⟨hx, hr⟩ : Reps w I xs as)
    exact .agg xs bs this.1 h1 this.2
theorem AOp.nils {o : Oper} {as bs : List DV} (h : AOp P r E S o d (.d (.agg as))) (hn : NilL as bs) : AOp P r E S o d (.d (.agg bs)) := h.conv fun _ _ _ hr => rep_agg_nil hn hr

theorem a_extractC {x : Operand} {i : Nat} {cs : List Cap} {c : Cap} (hn : d < E.n) (hx : S.ev x = .tupc cs) (hi : cs[i]? = some c) : AOp P r E S ⟨some d, .extract x i, ty, pos, af, g⟩ d c.av :=
  ⟨rfl, hn, fun S' ha => step_value rfl hn (by simp) fun A w I ρ C hs => by
    have h := hs.ev x
    rw [(ha.ev (by simp [Op.operands])).trans hx] at h
    obtain ⟨xs, hv, hr⟩ := h
    have hlt : i < xs.length := by rw [hr.1]; exact (List.getElem?_eq_some_iff.1 hi).1
    refine ⟨xs[i], ?_, Cap.holds (hr.2 i _ c (List.getElem?_eq_getElem hlt) hi)⟩
    simp only [execOp, hv]
    simp [Instr.extract, List.getElem?_eq_getElem hlt]⟩
theorem a_move_tupc {x : Operand} {c : List Cap} (hn : d < E.n) (hx : S.ev x = .tupc c) : AOp P r E S ⟨some d, .move x, ty, pos, af, g⟩ d (.tupc c) := a_move_to hn hx
theorem a_assign_top {x : Operand} (hn : d < E.n) : AOp P r E S ⟨some d, .assign x, ty, pos, af, g⟩ d .top :=
  ⟨rfl, hn, fun S' ha => step_value rfl hn (by simp) fun A w I ρ C hs => ⟨A.eval x, by simp [execOp], trivial⟩⟩
theorem a_move_top {x : Operand} (hn : d < E.n) : AOp P r E S ⟨some d, .move x, ty, pos, af, g⟩ d .top :=
  ⟨rfl, hn, fun S' ha => step_value rfl hn (by simp) fun A w I ρ C hs => ⟨A.eval x, by simp [execOp], trivial⟩⟩

/-! ## Rows seen as windows -/
theorem weak_row_win {id e size : Nat} {cells : List DV} (hb : S.blk id = .row e size false cells) : Weak E S (S.setBlk id (.win e size 0 cells)) := by
  rintro a w ⟨I, ρ, C, h⟩
  have hk := h.blks id
  rw [hb] at hk
  obtain ⟨hp, n, xs, hl, hown, h1, hr, hI⟩ := hk
  have hne : S.blk id ≠ .none := by rw [hb]; simp
  have key : ∀ i, (S.setBlk id (.win e size 0 cells)).blk i ≠ .none → S.blk i ≠ .none := by
    intro i hi
    rw [blk_setBlk] at hi
    by_cases e' : id = i
    · subst e'; exact hne
    · simpa [e'] using hi
  refine ⟨I, ρ, C, ⟨h.tmps, fun i => ?_, fun i i' b hn hi hi' => h.dist i i' b hn (key i hi) (key i' hi'), h.frame, h.sub, h.old, h.size, h.defers, h.cI, fun i b hi => h.cB i b (key i hi), fun i v hv hi => h.nm i v hv (key i hi)⟩⟩
  rw [blk_setBlk]
  by_cases e' : id = i
  · subst e'
    simp only [if_true]
    rcases hown.2 with ⟨hv, hn0⟩ | ⟨gb, cap, cur, hv, hB, hh, hnc, hcm, hcs, htk⟩
    · subst hn0
      exact ⟨none, 0, 0, xs, hv, Nat.le_refl _, hp.1, hl, hr, h1, .inl ⟨rfl, rfl⟩⟩
    · refine ⟨_, n, cap, xs, hv, hnc, hp.1, hl, hr, h1, .inr ⟨gb, 0, cur, rfl, hp.2 gb (by rw [hv]; rfl), hh, ?_, fun j x hj => ?_, fun j _ hj hi => ?_⟩⟩
      · rw [Nat.zero_add, hcs]; exact Nat.mul_le_mul_right _ hnc
      · have := hown.cells (g := gb) (by rw [hv]; rfl) j x hj
        rw [add_lit, cell_of_row w gb (0 + j) cur e (0, 0) hh] at this
        exact this
      · have := (hI gb j (by rw [hv]; rfl) hi).1; cases this
  · simp only [e', if_false]; exact h.blks i

/-- A window that is not written any more is data. -/
theorem weak_win_d {t id e size k : Nat} {cells : List DV} (hn : t < E.n) (ht : S.get t = .row id) (hb : S.blk id = .win e size k cells) : Weak E S ((S.setBlk id .none).put t (.d (.sl size cells))) := by
  rintro a w ⟨I, ρ, C, h⟩
  have hk := h.blks id
  rw [hb] at hk
  obtain ⟨A, n, c, xs, hv, hnc, hp, hl, hr, h1, hA⟩ := hk
  have hne : S.blk id ≠ .none := by rw [hb]; simp
  let I' : Im := fun b j => I b j ∨ (∃ off, A = some ⟨b, off, none⟩ ∧ off ≤ j ∧ j < off + n * size)
  have hsub : ∀ b j, I b j → I' b j := fun b j hi => .inl hi
  have key : ∀ i, ((S.setBlk id .none).put t (.d (.sl size cells))).blk i ≠ .none → S.blk i ≠ .none ∧ i ≠ id := by
    intro i hi
    rw [blk_put, blk_setBlk] at hi
    by_cases e' : id = i
    · subst e'; simp at hi
    · simp only [e', if_false] at hi; exact ⟨hi, fun e2 => e' e2.symm⟩
  have hbo : ∀ b off, A = some ⟨b, off, none⟩ → blockOf (ρ id) = some b := fun b off e => by rw [hv, e]; rfl
  refine ⟨I', ρ, C, ⟨fun u => ?_, fun i => ?_, fun i i' b hn' hi hi' => h.dist i i' b hn' (key i hi).1 (key i' hi').1, by rw [ghost_put _ _ hn]; exact h.frame, fun b j hi => hsub b j (h.sub b j hi), fun b j hi => ?_, h.size, h.defers, fun b j hi => ?_, fun i b hi => h.cB i b (key i hi).1, fun i v hv hi => h.nm i v hv (key i hi).1⟩⟩
  · rw [get_put]
    by_cases e' : t = u
    · subst e'
      simp only [if_true]
      have := h.tmps t
      rw [ht] at this
      have hvt : a.tmps.getD t undef = ρ id := this
      rw [hvt, hv]
      rcases hA with ⟨rfl, rfl⟩ | ⟨b, off, arr, rfl, hM, hh, hf, hc, hI⟩
      · have : cells = [] := List.eq_nil_of_length_eq_zero (by simpa using hl)
        subst this
        exact .nil _ _ _
      · by_cases h0 : n = 0
        · subst h0
          have : cells = [] := List.eq_nil_of_length_eq_zero (by simpa using hl)
          subst this
          exact .nil _ _ _
        · have hr' := hr.mono (same_refl I w) hsub
          refine .sl b off n c size xs cells (by omega) hnc hl hr.1 (fun j x hj => ⟨?_, .inr ⟨off, rfl, by omega, ?_⟩⟩) h1 hr'.2
          · rw [cell_of_row w b (off + j) arr e (0, 0) hh]; exact hc j x hj
          · have := (List.getElem?_eq_some_iff.1 hj).1; rw [hr.1, hl] at this; omega
    · simp only [e', if_false]
      exact (h.tmps u).mono (same_refl I w) hsub
  · show BlkOk w I' ρ E.mine i ((S.setBlk id .none).blk i)
    rw [blk_setBlk]
    by_cases e' : id = i
    · subst e'; simp only [if_true]; trivial
    · simp only [e', if_false]
      refine (h.blks i).widenI hsub fun b j hx hbi hi => ?_
      rcases hi with hi | ⟨off, hA', _⟩
      · exact hi
      · exact absurd hbi (h.dist id i b e' hne hx (hbo b off hA'))
  · rcases hi with hi | ⟨off, hA', _⟩
    · exact h.old b j hi
    · have := h.blt id b hne (hbo b off hA'); exact ⟨this.2, .inr this.1⟩
  · rcases hi with hi | ⟨off, hA', _⟩
    · exact h.cI b j hi
    · exact h.cB id b hne (hbo b off hA')
end
end Go.AV
namespace Go.AV
open Go.RowKit Go.M
/-- Whether the caller's ids for new blocks are free. -/
def freshB (S : AState) (σ : List (Nat × Nat)) (T : List (Nat × Blk)) : Bool := σ.all fun p => match look Blk.none T p.1, S.blk p.2 with
  | .none, .none => true
  | .none, _ => false
  | _, _ => true
theorem fresh_of {S : AState} {σ : List (Nat × Nat)} {T : List (Nat × Blk)} (h : freshB S σ T = true) : freshAs S σ T := by
  intro k hk hT
  have := List.all_eq_true.1 h _ (inDom_mem hk)
  simp only [hT] at this
  cases hb : S.blk (look 0 σ k) with
  | none => rfl
  | _ => rw [hb] at this; simp at this
theorem ren_of {σ : List (Nat × Nat)} (h : ((σ.map Prod.fst).Nodup ∧ (σ.map Prod.snd).Nodup)) : Ren σ := ⟨h.1, h.2⟩
section
variable {P : Program} {r : Option Nat} {E : Env} {S : AState} {d : Nat} {ty : TypeId} {pos : String} {af : Array Edge} {g : Option (Nat × Bool)}
/-- A call by a general contract, in surroundings without named blocks. -/
theorem g_call {f : FuncId} {xs : List Operand} {ats : Array TypeId} {args rets : List Cap} {T T' : List (Nat × Blk)} {keep : List Nat} (σ : List (Nat × Nat)) (hc : GC P f args T keep rets T') (hn : d < E.n) (hσ : (σ.map Prod.fst).Nodup ∧ (σ.map Prod.snd).Nodup)
    (hargs : ArgsAs σ (xs.map S.ev) args) (hal : args.all (Cap.idsLt σ) = true) (hrl : rets.all (Cap.idsLt σ) = true) (hT : BlksAs S σ T) (hTo : blksOk σ T = true) (hTo' : blksOk σ T' = true)
    (hfr : freshB S σ T = true) (hnm : ∀ k, E.nm k = none) (hE : E.wrB = true) (hG : E.gdt = gdOf P := by rfl) :
    Step P r E ⟨some d, .call { callee := .value (.func f), args := xs.toArray, argTypes := ats }, ty, pos, af, g⟩ S
      (((S.killL (lost σ keep T')).setL (renL σ T' ++ gone σ T T')).put d ((retAVc rets).ren σ)) :=
  s_callG σ hn (ren_of hσ) hargs hal hrl hT hTo hTo' (fresh_of hfr) (fun k _ => .inl (hnm _)) hc hE hG
end
theorem nl0 : NilL [] [] := trivial
theorem nlE {a : DV} {as bs : List DV} (h : NilL as bs) : NilL (a :: as) (a :: bs) := ⟨.inl rfl, h⟩
theorem nlN {s : Nat} {as bs : List DV} (h : NilL as bs) : NilL (.v (.slice none 0 0) :: as) (.sl s [] :: bs) := ⟨.inr ⟨rfl, _, rfl⟩, h⟩
end Go.AV

/- The layer of abstract values: what a temporary holds, said once; every rule of it is proved from the model. Conditions: none. -/
import Derived.Test.YtgeaoceiacdadaaDoorAv16
set_option linter.unusedSimpArgs false
set_option linter.unusedVariables false
set_option linter.unnecessarySimpa false
namespace Go.AV
open Go.RowKit

/-! ## General contracts: functions that take blocks over, turn them and hand them back -/

structure Frag (w : World) (I : Im) (ρ : Nat → Value) (T : List (Nat × Blk)) : Prop where
  ok : ∀ id, BlkOk w I ρ (fun _ => True) id (look Blk.none T id)
  dist : ∀ id id' b, id ≠ id' → look Blk.none T id ≠ .none → look Blk.none T id' ≠ .none → blockOf (ρ id) = some b → blockOf (ρ id') ≠ some b

def RetG (w : World) (I : Im) (ρ : Nat → Value) (v : Value) : List Cap → Prop
  | [x] => HoldsC w I ρ v x
  | xs => ∃ ys, v = .tuple ys.toArray ∧ Pw (HoldsC w I ρ) ys xs

/-- 'f' at the arguments, over blocks of T, returns rets and leaves the blocks of T'; the values of the ids of keep stay. -/
def GC (P : Program) (f : FuncId) (args : List Cap) (T : List (Nat × Blk)) (keep : List Nat) (rets : List Cap) (T' : List (Nat × Blk)) : Prop :=
  (∃ fn, P.funcs[f]? = some fn ∧ (fn.name == "runtime.NumGoroutine") = false ∧ fn.body.isNone = false) ∧
  ∀ (w : World) (I : Im) (ρ : Nat → Value) (vs : List Value), (∀ b j, I b j → b < w.heap.size) → GlI (gdOf P) w I → Frag w I ρ T → Pw (HoldsC w I ρ) vs args →
    Calls P f vs.toArray w fun e w' => ∃ v I' ρ', e = .returned v ∧ Chg w w' (ownedBy T ρ) ∧ Same I w w' ∧ (∀ b j, I b j → I' b j) ∧
      (∀ b j, I' b j → b < w'.heap.size ∧ (I b j ∨ w.heap.size ≤ b ∨ ownedBy T ρ b)) ∧ Frag w' I' ρ' T' ∧ RetG w' I' ρ' v rets ∧
      (∀ b, ownedBy T' ρ' b → b < w'.heap.size ∧ (w.heap.size ≤ b ∨ ownedBy T ρ b)) ∧ (∀ id, keep.contains id = true → look Blk.none T' id ≠ .none → ρ' id = ρ id)

def Cap.av : Cap → AV
  | .top => .top
  | .d x => .d x
  | .ptr i o => .ptr i o
  | .row i => .row i

theorem Cap.holds {w : World} {I : Im} {ρ : Nat → Value} {v : Value} {c : Cap} (h : HoldsC w I ρ v c) : Holds w I ρ v c.av := by
  cases c <;> exact h

def initC : List Cap → Nat → List (Nat × AV)
  | [], _ => []
  | x :: r, k => (k, x.av) :: initC r (k + 1)

theorem look_initC (cs : List Cap) : ∀ (k t : Nat), (k ≤ t ∧ ∃ x, cs[t - k]? = some x ∧ look AV.top (initC cs k) t = x.av) ∨ look AV.top (initC cs k) t = .top := by
  induction cs with
  | nil => intro k t; exact .inr rfl
  | cons x ds ih =>
    intro k t
    simp only [initC, look_cons]
    by_cases e : k = t
    · subst e; simp
    · simp only [e, if_false]
      rcases ih (k + 1) t with ⟨h1, y, hy, hl⟩ | h
      · refine .inl ⟨by omega, y, ?_, hl⟩
        have : t - k = (t - (k + 1)) + 1 := by omega
        rw [this]; simpa using hy
      · exact .inr h

theorem Chg.refl (w : World) (O : Nat → Prop) : Chg w w O := ⟨rfl, rfl, rfl, Nat.le_refl _, fun _ _ _ => rfl⟩

/-- The surroundings of a function that was handed the blocks of T. -/
def Env.gen (gdt : Nat → Option (List Value)) (w0 : World) (I0 : Im) (hG : GlI gdt w0 I0) (ρ0 : Nat → Value) (T : List (Nat × Blk)) (keep : List Nat) (n : Nat) (hn : n ≤ 1000000) : Env where
  B := w0.heap.size
  I0 := I0
  n := n
  fr := fun _ C w => (Chg w0 w (ownedBy T ρ0) ∧ Same I0 w0 w) ∧ (∀ b j, I0 b j → b < w0.heap.size) ∧ ∀ b, ¬ C b
  wrB := true
  nle := hn
  mine := fun b => w0.heap.size ≤ b ∨ ownedBy T ρ0 b
  mineB := fun _ h => .inl h
  nm := fun id => if keep.contains id then some (ρ0 id) else none
  size := fun _ _ _ h => h.1.1.size
  csize := fun _ _ _ h b hb => absurd hb (h.2.2 b)
  grow := fun _ _ w w' h hb => ⟨⟨⟨hb.os.trans h.1.1.os, hb.tape.trans h.1.1.tape, hb.output.trans h.1.1.output, Nat.le_trans h.1.1.size hb.size, fun k hk hne => (hb.block k (Nat.lt_of_lt_of_le hk h.1.1.size)).trans (h.1.1.block k hk hne)⟩,
    fun b j hi => (KeepB.of (hb.block b (Nat.lt_of_lt_of_le (h.2.1 b j hi) h.1.1.size))).trans (h.1.2 b j hi)⟩, h.2⟩
  wr := fun _ _ _ w w' O h hg hr hs => ⟨⟨⟨hg.os.trans h.1.1.os, hg.tape.trans h.1.1.tape, hg.output.trans h.1.1.output, Nat.le_trans h.1.1.size hg.size, fun k hk hne => (hg.block k (Nat.lt_of_lt_of_le hk h.1.1.size) (fun e => by
      rcases (hr k e).1 with h1 | h1
      · omega
      · exact hne h1)).trans (h.1.1.block k hk hne)⟩, fun b j hi => (hs b j hi).trans (h.1.2 b j hi)⟩, h.2⟩
  turn := fun _ _ _ w w' l h hl ht hs => ⟨⟨⟨ht.os.trans h.1.1.os, ht.tape.trans h.1.1.tape, ht.output.trans h.1.1.output, by rw [ht.size]; exact h.1.1.size, fun k hk hne => (ht.blk k (by omega)).trans (h.1.1.block k hk hne)⟩, fun b j hi => (hs b j hi).trans (h.1.2 b j hi)⟩, h.2⟩
  gdt := gdt
  gl := fun _ _ w h g zs hg j v hj => ⟨(h.1.2 g j (hG g zs hg j v hj).2).cell.trans (hG g zs hg j v hj).1, (hG g zs hg j v hj).2⟩

/-- What a result is, read off an abstract value. -/
def CapOf : AV → Cap → Prop
  | _, .top => True
  | av, c => av = c.av

theorem CapOf.holds {w : World} {I : Im} {ρ : Nat → Value} {v : Value} {av : AV} {c : Cap} (h : CapOf av c) (hv : Holds w I ρ v av) : HoldsC w I ρ v c := by
  cases c with
  | top => trivial
  | _ => have e : av = _ := h; rw [e] at hv; exact hv

section
variable {P : Program} {r : Option Nat} {E : Env} {S : AState} {d : Nat} {ty : TypeId} {pos : String} {af : Array Edge} {g : Option (Nat × Bool)}

def RetGS (P : Program) (S : AState) : List ResultVar → List Cap → Prop
  | [], ys => ys = []
  | .tmp t :: rs, ys => ∃ y zs, ys = y :: zs ∧ CapOf (S.get t).un y ∧ RetGS P S rs zs
  | .cell a t :: rs, ys => ∃ y zs id e cells, ys = y :: zs ∧ (S.get a).un = .ptr id 0 ∧ S.blk id = .box e cells ∧
      ((OneTy P t ∧ ∃ av, cells = [av] ∧ CapOf av y) ∨ (∃ ds, AggTy P t cells.length ∧ unD cells = some ds ∧ y = .d (.agg ds))) ∧ RetGS P S rs zs

def retKG (P : Program) (fn : Func) (rets : List Cap) (T' : List (Nat × Blk)) : Exit → AState → Prop
  | .ret, S | .normal, S => RetGS P S fn.results.toList rets ∧ CovB S T'
  | _, _ => False

theorem RetGS.holds {a : Act} {w : World} {I : Im} {ρ : Nat → Value} {C : Nat → Prop} (h : SatAt E S a w I ρ C) : ∀ (l : List ResultVar) (rs : List Cap) (_ : RetGS P S l rs),
    ∃ xs : List Value, (l.mapM (resF a.tmps)).run P w = .ok xs w ∧ Pw (HoldsC w I ρ) xs rs := by
  intro l
  induction l with
  | nil => intro rs hr; cases hr; exact ⟨[], by simp, Pw.nil⟩
  | cons x l ih =>
    intro rs hr
    cases x with
    | tmp t =>
      obtain ⟨y, ys, rfl, h1, h2⟩ := hr
      obtain ⟨xs, hxs, hreps⟩ := ih ys h2
      exact ⟨_ :: xs, by simp [List.mapM_cons, resF, hxs], Pw.cons (h1.holds (h.tmps t).un) hreps⟩
    | cell ad t =>
      obtain ⟨y, ys, id, e, cells, rfl, h1, h2, h3, h4⟩ := hr
      obtain ⟨xs, hxs, hreps⟩ := ih ys h4
      have hp := (h.tmps ad).un
      rw [h1] at hp
      obtain ⟨b, hρ, hv⟩ := hp
      have hbk := h.blks id
      rw [h2] at hbk
      obtain ⟨b', arr, hρ', hB, hh, h1', hpw, hI⟩ := hbk
      have hbb : b' = b := by rw [hρ'] at hρ; simpa [blockOf] using hρ
      subst hbb
      have hcell : ∀ (j : Nat) v, arr.toList[j]? = some v → w.cell? ⟨b', 0 + j, none⟩ = some v := fun j v hj => by
        rw [Nat.zero_add, cell_of_row w b' j arr e (0, 0) hh]; simpa using hj
      rcases h3 with ⟨ho, av, hc, hd⟩ | ⟨ds, ha, hd, rfl⟩
      · subst hc
        have hlen := hpw.1
        match harr : arr.toList, hlen with
        | [v0], _ =>
          rw [harr] at hpw hcell
          refine ⟨v0 :: xs, ?_, Pw.cons (hd.holds (hpw.2 0 v0 av rfl rfl)) hreps⟩
          have hc0 := hcell 0 v0 rfl
          simp only [Nat.add_zero] at hc0
          simp [List.mapM_cons, resF, hv, asAddr, loadVar, ho.agg, run_load, hc0, hxs]
      · have hrr := box_reps hpw hd
        refine ⟨.agg arr.toList.toArray :: xs, ?_, Pw.cons (.agg _ _ hrr.1 h1' hrr.2) hreps⟩
        have hload := run_loadAgg (P := P) w ha b' 0 arr.toList hpw.1 hcell
        simp only [Instr.loadAt, Instr.sureAddr, Sem.run_bind, Sem.run_pure, Result.andThen_ok] at hload
        simp only [List.mapM_cons, resF, hv, asAddr, Sem.run_bind, Sem.run_pure, Result.andThen_ok, hload, hxs]

theorem RetGS.run {a : Act} {w : World} {I : Im} {ρ : Nat → Value} {C : Nat → Prop} {fn : Func} {rs : List Cap} (h : SatAt E S a w I ρ C) (hret : RetGS P S fn.results.toList rs) :
    ∃ v, (results fn a.tmps).run P w = .ok v w ∧ RetG w I ρ v rs := by
  obtain ⟨xs, hxs, hreps⟩ := RetGS.holds h _ _ hret
  refine ⟨_, run_results hxs, ?_⟩
  have hl := hreps.1
  match xs, rs, hl, hreps with
  | [], [], _, hr => exact ⟨_, rfl, hr⟩
  | [x], [y], _, hr => exact hr.2 0 _ y rfl rfl
  | x :: u :: xs, y :: z :: ys, _, hr => exact ⟨x :: u :: xs, by simp, hr⟩

theorem gc_of {f : FuncId} {fn : Func} {c : Code} {args rets : List Cap} {T T' : List (Nat × Blk)} {keep : List Nat} (hf : P.funcs[f]? = some fn) (hname : (fn.name == "runtime.NumGoroutine") = false) (hb : fn.body = some c) (hn : args.length ≤ fn.ntmps) (hn2 : fn.ntmps ≤ 1000000)
    (h : ∀ w0 I0 hG ρ0, Avc P none (Env.gen (gdOf P) w0 I0 hG ρ0 T keep fn.ntmps hn2) c (retKG P fn rets T') ⟨initC args 0, T⟩) : GC P f args T keep rets T' := by
  refine ⟨⟨fn, hf, hname, by simp [hb]⟩, fun w I ρ vs hI hG hfrag hvs => ?_⟩
  refine callsIn_wide (n := 0) |>.1 (callsIn_of_wp_marks hf hb trivial ?_)
  have hlen : vs.length = args.length := hvs.1
  have hsat : Sat (Env.gen (gdOf P) w I hG ρ T keep fn.ntmps hn2) ⟨initC args 0, T⟩ { tmps := vs.toArray ++ Array.replicate (fn.ntmps - vs.toArray.size) undef, defers := [] } w := by
    refine ⟨I, ρ, fun _ => False, ⟨fun t => ?_, fun i => ?_, hfrag.dist, ⟨⟨Chg.refl _ _, same_refl I w⟩, hI, fun _ h => h⟩, fun _ _ h => h, fun b j h => ⟨hI b j h, .inl h⟩, by simp [Env.gen]; omega, DefOk.nil, fun _ _ _ h => h, fun _ _ _ _ h => h, fun id v hv _ => ?_⟩⟩
    · rcases look_initC args 0 t with ⟨_, x, hx, hl⟩ | hl
      · show Holds _ _ _ _ (look AV.top (initC args 0) t)
        rw [hl]
        simp only [Nat.sub_zero] at hx
        have ht : t < vs.length := by rw [hlen]; exact (List.getElem?_eq_some_iff.1 hx).1
        refine Cap.holds (hvs.2 t _ x ?_ hx)
        simp [Array.getD_eq_getD_getElem?, Array.getElem?_append, ht]
      · show Holds _ _ _ _ (look AV.top (initC args 0) t)
        rw [hl]
        trivial
    · exact (hfrag.ok i).mineM fun b hne hbo _ => .inr ⟨i, hne, hbo⟩
    · simp only [Env.gen] at hv
      split at hv
      · cases hv; rfl
      · cases hv
  refine wpIn_mono (h w I hG ρ _ w hsat) ?_
  rintro e a w' ⟨S, hK, I1, ρ1, C, hs⟩
  have fin : RetGS P S fn.results.toList rets ∧ CovB S T' → LeavesInM (fen none) 0 P fn a.tmps (fun e w' => ∃ v I' ρ', e = .returned v ∧ Chg w w' (ownedBy T ρ) ∧ Same I w w' ∧ (∀ b j, I b j → I' b j) ∧
      (∀ b j, I' b j → b < w'.heap.size ∧ (I b j ∨ w.heap.size ≤ b ∨ ownedBy T ρ b)) ∧ Frag w' I' ρ' T' ∧ RetG w' I' ρ' v rets ∧
      (∀ b, ownedBy T' ρ' b → b < w'.heap.size ∧ (w.heap.size ≤ b ∨ ownedBy T ρ b)) ∧ (∀ id, keep.contains id = true → look Blk.none T' id ≠ .none → ρ' id = ρ id)) a.defers .returning w' := by
    rintro ⟨hret, hcov⟩
    refine leaves_marks (B := w.heap.size) a.defers w' hs.defers fun w2 hb2 hk2 => ?_
    have hfr : (Env.gen (gdOf P) w I hG ρ T keep fn.ntmps hn2).fr S.ghost C w2 := by
      refine ⟨⟨⟨hb2.os.trans hs.frame.1.1.os, hb2.tape.trans hs.frame.1.1.tape, hb2.output.trans hs.frame.1.1.output, Nat.le_trans hs.frame.1.1.size hb2.size, fun k hk hne => (hb2.block k hk).trans (hs.frame.1.1.block k hk hne)⟩, fun b j hi => (hk2.same (I := I) b j hi).trans (hs.frame.1.2 b j hi)⟩, hs.frame.2⟩
    have hs2 := hs.taken hk2 hfr
    obtain ⟨v, h1, h2⟩ := RetGS.run hs2 hret
    have key : ∀ id, look Blk.none T' id ≠ .none → S.blk id = look Blk.none T' id := fun id hne => by
      rcases covB_blk hcov id with h | h
      · exact absurd h hne
      · exact h
    have key2 : ∀ id, look Blk.none T' id ≠ .none → S.blk id ≠ .none := fun id hne => by rw [key id hne]; exact hne
    refine ⟨v, h1, v, I1, ρ1, rfl, hfr.1.1, hfr.1.2, fun b j hi => hs2.sub b j hi, fun b j hi => ⟨(hs2.old b j hi).1, ?_⟩, ⟨fun id => ?_, fun id id' b hne h1 h2 => hs2.dist id id' b hne (key2 id h1) (key2 id' h2)⟩, h2, fun b hb => ?_, fun id hk hne => ?_⟩
    · rcases (hs2.old b j hi).2 with h | h
      · exact .inl h
      · exact .inr h
    · rcases covB_blk hcov id with h | h
      · rw [h]; trivial
      · rw [← h]; exact (hs2.blks id).mineM fun _ _ _ _ => trivial
    · obtain ⟨id, hne, hbo⟩ := hb
      have := hs2.blt id b (key2 id hne) hbo
      exact ⟨this.2, this.1⟩
    · refine hs2.nm id (ρ id) ?_ (key2 id hne)
      simp only [Env.gen]
      rw [if_pos hk]
  cases e with
  | normal => exact fin hK
  | ret => exact fin hK
  | _ => exact hK.elim
end
end Go.AV

/- The layer of abstract values: what a temporary holds, said once; every rule of it is proved from the model. Conditions: none. -/
import Derived.Test.YtgeaoceiacdadaaDoorAv33
set_option linter.unusedSimpArgs false
set_option linter.unusedVariables false
set_option linter.unnecessarySimpa false
namespace Go.AV
open Go.RowKit Go.M

/-! ## Regions whose order is drawn, operation by operation -/
def QJ (E : Env) (J : AState → Prop) : Exit → Act → World → Prop
  | .normal, a, w => ∃ S, J S ∧ Sat E S a w
  | _, _, _ => False

def AnyS (P : Program) (r : Option Nat) (E : Env) (l : List Oper) (J : AState → Prop) (fuel : Nat) (listed : List Bool) (S : AState) : Prop :=
  ∀ a w, Sat E S a w → wpAnyIn (fen r) 0 P .any l.toArray (QJ E J) fuel listed.toArray a w

def AnyE (P : Program) (r : Option Nat) (E : Env) (l : List Oper) (J : AState → Prop) (fuel : Nat) (listed : List Bool) (S : AState) : List Nat → Prop
  | [] => True
  | i :: is => (∃ o S', l[i]? = some o ∧ StepG P r E l.toArray o S S' ∧ AnyS P r E l J fuel (listed.set i true) S') ∧ AnyE P r E l J fuel listed S is

section
variable {P : Program} {r : Option Nat} {E : Env} {l : List Oper} {J : AState → Prop} {fuel : Nat} {listed : List Bool} {S : AState}

theorem AnyE.mem : ∀ {is : List Nat} {i : Nat}, AnyE P r E l J fuel listed S is → i ∈ is → ∃ o S', l[i]? = some o ∧ StepG P r E l.toArray o S S' ∧ AnyS P r E l J fuel (listed.set i true) S'
  | [], _, _, h => by cases h
  | k :: is, i, h, hi => by
    rcases List.mem_cons.1 hi with e | hi
    · subst e; exact h.1
    · exact AnyE.mem h.2 hi

/-- What may come up next. -/
def rdy (l : List Oper) (ls : List Bool) : List Nat := (List.range l.length).filter fun i => !ls.getD i true && (match l[i]? with | none => true | some o => (aft o).all fun j => ls.getD j false)
theorem rdy_mem {i : Nat} (h : i ∈ Region.ready .any l.toArray listed.toArray) : i ∈ rdy l listed := by
  obtain ⟨h1, h2, h3⟩ := ready_spec h
  simp only [rdy, List.mem_filter, List.mem_range, Bool.and_eq_true, Bool.not_eq_true']
  have e : ∀ k b, listed.toArray.getD k b = listed.getD k b := fun k b => by simp [Array.getD_eq_getD_getElem?, List.getD_eq_getElem?_getD]
  refine ⟨h1, by rw [← e]; exact h2, ?_⟩
  have ho := List.getElem?_eq_getElem h1
  rw [ho]
  simp only [List.all_eq_true]
  intro j hj
  rw [← e]
  exact h3 _ ho j hj
theorem mem_rdy {i : Nat} (h : (rdy l listed).contains i = true) : i ∈ Region.ready .any l.toArray listed.toArray := by
  have h := List.contains_iff_mem.1 h
  simp only [rdy, List.mem_filter, List.mem_range, Bool.and_eq_true, Bool.not_eq_true'] at h
  have e : ∀ k b, listed.toArray.getD k b = listed.getD k b := fun k b => by simp [Array.getD_eq_getD_getElem?, List.getD_eq_getElem?_getD]
  obtain ⟨h1, h2, h3⟩ := h
  have ho := List.getElem?_eq_getElem h1
  rw [ho] at h3
  simp only [List.all_eq_true] at h3
  exact ready_of ho (by rw [e]; exact h2) fun j hj => by rw [e]; exact h3 j hj
theorem set_arr (ls : List Bool) (i : Nat) : ls.toArray.setIfInBounds i true = (ls.set i true).toArray := by simp

theorem any_end (hr : rdy l listed = []) (h : J S) : AnyS P r E l J fuel listed S := by
  intro a w hs
  have hr' : Region.ready .any l.toArray listed.toArray = [] := List.eq_nil_iff_forall_not_mem.2 fun i hi => by have := rdy_mem hi; rw [hr] at this; cases this
  cases fuel with
  | zero => exact ⟨hr', S, h, hs⟩
  | succ n => exact ⟨fun _ => ⟨S, h, hs⟩, fun i hi => by rw [hr'] at hi; cases hi⟩

theorem any_n (is : List Nat) (hr : rdy l listed = is) (hne : is.isEmpty = false) (h : AnyE P r E l J fuel listed S is) : AnyS P r E l J (fuel + 1) listed S := by
  intro a w hs
  refine ⟨fun e => ?_, fun i hi => ?_⟩
  · cases is with
    | nil => cases hne
    | cons k is =>
      have := mem_rdy (l := l) (listed := listed) (i := k) (by rw [hr]; simp)
      rw [e] at this; cases this
  · have hi := rdy_mem hi
    rw [hr] at hi
    obtain ⟨o, S', h1, h2, h3⟩ := h.mem hi
    unfold wpOpIn
    simp only [List.getElem?_toArray, h1]
    refine h2 a w _ _ hs fun a' w' hs' => ?_
    rw [set_arr]
    exact h3 a' w' hs'

theorem any_nil : AnyE P r E l J fuel listed S [] := trivial
theorem any_b {i : Nat} {is : List Nat} {o : Oper} {S' : AState} (ho : l[i]? = some o) (hg : o.guard = none) (h : Step P r E o S S') (k : AnyS P r E l J fuel (listed.set i true) S') (ks : AnyE P r E l J fuel listed S is) : AnyE P r E l J fuel listed S (i :: is) :=
  ⟨⟨o, S', ho, stepG_of hg h, k⟩, ks⟩
theorem any_a {i d : Nat} {is : List Nat} {o : Oper} {x : AV} (ho : l[i]? = some o) (hg : o.guard = none) (h : AOp P r E S o d x) (k : AnyS P r E l J fuel (listed.set i true) (S.put d x)) (ks : AnyE P r E l J fuel listed S is) : AnyE P r E l J fuel listed S (i :: is) :=
  ⟨⟨o, _, ho, stepG_of hg h.step, k⟩, ks⟩
theorem any_w {S' : AState} (hw : Weak E S S') (k : AnyS P r E l J fuel listed S') : AnyS P r E l J fuel listed S := fun a w hs => k a w (hw a w hs)

def apOk (l : List Oper) (listed : List Bool) (i : Nat) (oi : Oper) : Bool :=
  (List.range l.length).all fun j => Nat.beq j i || listed.getD j true || (match l[j]? with
    | none => true
    | some oj => (aft oj).contains i || oi.apart l.toArray oj)
def noSel (l : List Oper) : Bool := l.all fun o => match o.op with | .select _ _ => false | _ => true

/-- An operation that gives its value in every world may be taken first. -/
theorem any_first {i d : Nat} {oi : Oper} {x : AV} (hr : r = none) (hi : l[i]? = some oi) (hg : oi.guard = none) (hd : oi.dst = some d) (hsel : noSel l = true) (hap : apOk l listed i oi = true) (hrd : (rdy l listed).contains i = true)
    (hy : ∀ a w, Sat E S a w → ∃ v, (∀ w', (execOp a.eval oi).run P w' = .ok (.value v) w') ∧ (∀ w', oi.about P w' a.eval = none) ∧ Sat E (S.put d x) (a.put (some d) v) w) (k : AnyS P r E l J fuel (listed.set i true) (S.put d x)) : AnyS P r E l J (fuel + 1) listed S := by
  subst hr
  intro a w hs
  obtain ⟨v, h1, h2, h3⟩ := hy a w hs
  have hi' : l.toArray[i]? = some oi := by simpa using hi
  refine wpAnyIn_first (i := i) (oi := oi) (v := v) rfl hi' (fun j o cs b ho e => ?_) (fun c a w h => h.elim) fuel listed.toArray a w (fun j oj hj hne hl hnot => ?_) (mem_rdy hrd) ⟨.inl ⟨?_, h1⟩, h2⟩ (by rw [hd, set_arr]; exact k _ w h3)
  · have := List.all_eq_true.1 hsel o (List.mem_of_getElem? (by simpa using ho))
    rw [e] at this
    cases this
  · have hj' : l[j]? = some oj := by simpa using hj
    have hlt := (List.getElem?_eq_some_iff.1 hj').1
    have := List.all_eq_true.1 hap j (List.mem_range.2 hlt)
    have hl' : listed.getD j true = false := by rw [← hl]; simp [Array.getD_eq_getD_getElem?, List.getD_eq_getElem?_getD]
    simp only [Bool.or_eq_true, Nat.beq_eq, hl', hj'] at this
    rcases this with (h | h) | h | h
    · exact absurd h hne
    · cases h
    · exfalso
      have h := List.contains_iff_mem.1 h
      simp only [aft, List.mem_map, List.mem_filter] at h
      obtain ⟨q, ⟨hq, hb⟩, he⟩ := h
      exact hnot q (by simpa using hq) hb he
    · exact h
  · unfold Region.wanted
    rw [hg]

section
variable {d : Nat} {ty : TypeId} {pos : String} {af : Array Edge} {x : Operand}
theorem any_move {i : Nat} (hi : l[i]? = some ⟨some d, .move x, ty, pos, af, none⟩) (hn : d < E.n) (hr : r = none) (hsel : noSel l = true) (hap : apOk l listed i ⟨some d, .move x, ty, pos, af, none⟩ = true) (hrd : (rdy l listed).contains i = true)
    (k : AnyS P r E l J fuel (listed.set i true) (S.put d (S.ev x))) : AnyS P r E l J (fuel + 1) listed S :=
  any_first hr hi rfl rfl hsel hap hrd (fun a w ⟨I, ρ, C, hs⟩ => ⟨a.eval x, fun w' => by simp [execOp], fun w' => rfl, I, ρ, C, hs.put hn (hs.ev x)⟩) k
theorem any_extractC {i j : Nat} {cs : List Cap} {c : Cap} (hi : l[i]? = some ⟨some d, .extract x j, ty, pos, af, none⟩) (hn : d < E.n) (hx : S.ev x = .tupc cs) (hj : cs[j]? = some c) (hr : r = none) (hsel : noSel l = true) (hap : apOk l listed i ⟨some d, .extract x j, ty, pos, af, none⟩ = true) (hrd : (rdy l listed).contains i = true)
    (k : AnyS P r E l J fuel (listed.set i true) (S.put d c.av)) : AnyS P r E l J (fuel + 1) listed S :=
  any_first hr hi rfl rfl hsel hap hrd (fun a w ⟨I, ρ, C, hs⟩ => by
    have h := hs.ev x
    rw [hx] at h
    obtain ⟨xs, hv, hp⟩ := h
    have hlt : j < xs.length := by rw [hp.1]; exact (List.getElem?_eq_some_iff.1 hj).1
    refine ⟨xs[j], fun w' => ?_, fun w' => rfl, I, ρ, C, hs.put hn (Cap.holds (hp.2 j _ c (List.getElem?_eq_getElem hlt) hj))⟩
    simp only [execOp, hv]
    simp [Instr.extract, List.getElem?_eq_getElem hlt]) k
theorem any_sub {i : Nat} {y : Operand} {tx tz : TypeId} {a b : Int} (hi : l[i]? = some ⟨some d, .binOp .sub tx x y tz, ty, pos, af, none⟩) (hn : d < E.n) (hx : S.ev x = .d (.v (.int .i64 a))) (hy : S.ev y = .d (.v (.int .i64 b))) (hr : r = none) (hsel : noSel l = true) (hap : apOk l listed i ⟨some d, .binOp .sub tx x y tz, ty, pos, af, none⟩ = true) (hrd : (rdy l listed).contains i = true)
    (k : AnyS P r E l J fuel (listed.set i true) (S.put d (.d (.v (.int .i64 (wi (a - b))))))) : AnyS P r E l J (fuel + 1) listed S :=
  any_first hr hi rfl rfl hsel hap hrd (fun A w ⟨I, ρ, C, hs⟩ => ⟨.int .i64 (wi (a - b)), fun w' => by
    simp only [execOp, hs.val hx, hs.val hy]
    simp [binOp, eqGuard, Op.intArith, wi], fun w' => rfl, I, ρ, C, SatAt.put (x := .d (.v _)) hs hn (Rep.v _)⟩) k
theorem any_add {i : Nat} {y : Operand} {tx tz : TypeId} {a b : Int} (hi : l[i]? = some ⟨some d, .binOp .add tx x y tz, ty, pos, af, none⟩) (hn : d < E.n) (hx : S.ev x = .d (.v (.int .i64 a))) (hy : S.ev y = .d (.v (.int .i64 b))) (hr : r = none) (hsel : noSel l = true) (hap : apOk l listed i ⟨some d, .binOp .add tx x y tz, ty, pos, af, none⟩ = true) (hrd : (rdy l listed).contains i = true)
    (k : AnyS P r E l J fuel (listed.set i true) (S.put d (.d (.v (.int .i64 (wi (a + b))))))) : AnyS P r E l J (fuel + 1) listed S :=
  any_first hr hi rfl rfl hsel hap hrd (fun A w ⟨I, ρ, C, hs⟩ => ⟨.int .i64 (wi (a + b)), fun w' => by
    simp only [execOp, hs.val hx, hs.val hy]
    simp [binOp, eqGuard, Op.intArith, wi], fun w' => rfl, I, ρ, C, SatAt.put (x := .d (.v _)) hs hn (Rep.v _)⟩) k
theorem any_index {α : Type} {en : En α} {ls : List α} {i t e bytes : Nat} {z : Value} {ix : Operand} {kk : IntKind} {q : Int} {v : α} (hi : l[i]? = some ⟨some d, .indexAddr t x ix, ty, pos, af, none⟩) (hn : d < E.n) (hT : SlTy P t e en.size bytes z) (hx : S.ev x = .d (dsl en ls)) (hix : S.ev ix = .d (.v (.int kk q))) (hv : idx ls q = some v)
    (hr : r = none) (hsel : noSel l = true) (hap : apOk l listed i ⟨some d, .indexAddr t x ix, ty, pos, af, none⟩ = true) (hrd : (rdy l listed).contains i = true)
    (k : AnyS P r E l J fuel (listed.set i true) (S.put d (.ip (en.all ls) (q.toNat * en.size)))) : AnyS P r E l J (fuel + 1) listed S :=
  any_first hr hi rfl rfl hsel hap hrd (fun A w ⟨I, ρ, C, hs⟩ => by
    have h := hs.ev x
    rw [hx] at h
    obtain ⟨B, n, c, xs, hvx, _, hl, hpw, h1, hadr⟩ := Rep.sl_inv h
    have hn' : n = ls.length := len_eq hl (all_len en ls) hT.pos
    subst hn'
    have hq := (idx_some hv).2.1
    have hlt := (idx_some hv).2.2.1
    obtain ⟨b, off, rfl, hc⟩ := hadr (by omega)
    have hiv := hs.val hix
    refine ⟨.pointer (some ⟨b, off + q.toNat * en.size, none⟩), fun w' => ?_, fun w' => rfl, I, ρ, C, hs.put hn ⟨b, off, xs, rfl, hpw, h1, hc⟩⟩
    rw [hq] at hiv
    simp only [execOp, hvx, hiv, Sem.run_bind, run_indexAt w' hT.und (hT.size w') b off ls.length c kk q.toNat hlt]
    rfl) k
theorem any_extract {i j : Nat} {cs : List DV} {c : DV} (hi : l[i]? = some ⟨some d, .extract x j, ty, pos, af, none⟩) (hn : d < E.n) (hx : S.ev x = .tup cs) (hj : cs[j]? = some c) (hr : r = none) (hsel : noSel l = true) (hap : apOk l listed i ⟨some d, .extract x j, ty, pos, af, none⟩ = true) (hrd : (rdy l listed).contains i = true)
    (k : AnyS P r E l J fuel (listed.set i true) (S.put d (.d c))) : AnyS P r E l J (fuel + 1) listed S :=
  any_first hr hi rfl rfl hsel hap hrd (fun a w ⟨I, ρ, C, hs⟩ => by
    have h := hs.ev x
    rw [hx] at h
    obtain ⟨xs, hv, hp⟩ := h
    have hlt : j < xs.length := by rw [hp.1]; exact (List.getElem?_eq_some_iff.1 hj).1
    refine ⟨xs[j], fun w' => ?_, fun w' => rfl, I, ρ, C, hs.put hn (hp.2 j _ c (List.getElem?_eq_getElem hlt) hj)⟩
    simp only [execOp, hv]
    simp [Instr.extract, List.getElem?_eq_getElem hlt]) k
end

theorem avc_any {id : Nat} {K : Exit → AState → Prop} (hm : P.follows .mixedOrders = true) (h : AnyS P r E l (K .normal) l.length (List.replicate l.length false) S) : Avc P r E (.region id l.toArray true) K S := by
  intro a w hs
  have h2 := h a { w with drawn := w.drawn + 1 } (sat_drew hs)
  refine wpIn_mono (wpIn_region_any (Q := QJ E (K .normal)) hm (by simpa [← List.toArray_replicate] using h2)) ?_
  intro e a' w' hq
  cases e with
  | normal => exact hq
  | _ => exact hq.elim
end
end Go.AV
namespace Go.AV
open Go.RowKit Go.M
def CapsOf : List AV → List Cap → Prop
  | [], cs => cs = []
  | x :: xs, cs => ∃ c ds, cs = c :: ds ∧ CapOf x c ∧ CapsOf xs ds
section
variable {P : Program} {r : Option Nat} {E : Env} {S : AState} {d : Nat} {ty : TypeId} {pos : String} {af : Array Edge} {g : Option (Nat × Bool)}
theorem CapsOf.holds {w : World} {I : Im} {ρ : Nat → Value} : ∀ {vs : List Value} {xs : List AV} {cs : List Cap}, CapsOf xs cs → Pw (Holds w I ρ) vs xs → Pw (HoldsC w I ρ) vs cs
  | [], [], cs, h, _ => by cases h; exact Pw.nil
  | [], x :: xs, cs, _, hp => by have := hp.1; simp at this
  | v :: vs, [], cs, _, hp => by have := hp.1; simp at this
  | v :: vs, x :: xs, cs, ⟨c, ds, e, h1, h2⟩, hp => by
    subst e
    obtain ⟨q1, q2⟩ := pw_tail hp
    exact Pw.cons (h1.holds q1) (CapsOf.holds h2 q2)
/-- A function that captures variables which are written. -/
theorem a_makeClo {f : FuncId} {caps : List Operand} {cs : List Cap} (hn : d < E.n) (hc : CapsOf (caps.map S.ev) cs) :
    AOp P r E S ⟨some d, .makeFunc (.func f) #[] caps.toArray, ty, pos, af, g⟩ d (.clo f cs) :=
  ⟨rfl, hn, fun S' ha => step_value rfl hn (by simp) fun A w I ρ C hs => by
    have he : caps.map S'.ev = caps.map S.ev := List.map_congr_left fun x hx => ha.ev (by simp [Op.operands]; simpa using hx)
    rw [← he] at hc
    exact ⟨.func (.func f) #[] (caps.map A.eval).toArray, by simp [execOp, Instr.makeFunc], _, rfl, hc.holds (holds_args hs caps)⟩⟩
theorem s_store_box_av {t : TypeId} {x y : Operand} {id off eb : Nat} {cells : List AV} {av : AV} (hT : OneTy P t) (hx : S.ev x = .ptr id off) (hb : S.blk id = .box eb cells) (hlt : off < cells.length) (hy : S.ev y = av) (h1 : av.one = true) (hr : rowOk S av = true) (hE : E.wrB = true) :
    Step P r E ⟨none, .store t x y, ty, pos, af, g⟩ S (S.setBlk id (.box eb (cells.set off av))) := by
  subst hy
  exact step_store_box hT hx hb hlt h1 hr hE
theorem ret_cells2 {a t id e b u id' e' : Nat} {x y : DV} (h1 : (S.get a).un = .ptr id 0) (h2 : S.blk id = .box e [.d x]) (hT : OneTy P t) (k1 : (S.get b).un = .ptr id' 0) (k2 : S.blk id' = .box e' [.d y]) (hU : OneTy P u) : RetS P S [.cell a t, .cell b u] [x, y] :=
  ⟨_, _, id, e, _, rfl, h1, h2, .inl ⟨hT, _, rfl, rfl⟩, _, _, id', e', _, rfl, k1, k2, .inl ⟨hU, _, rfl, rfl⟩, rfl⟩
end
end Go.AV

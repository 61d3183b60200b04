/- The layer of abstract values: what a temporary holds, said once; every rule of it is proved from the model. Conditions: none. -/
import Derived.Test.YtgeaoceiacdadaaDoorAv4
set_option linter.unusedSimpArgs false
set_option linter.unusedVariables false
set_option linter.unnecessarySimpa false
namespace Go.AV
open Go.RowKit

/-! ## Operations that only add knowledge -/

structure Agree (S S' : AState) (o : Oper) : Prop where
  blks : S'.blks = S.blks
  get : ∀ t, Operand.tmp t ∈ o.op.operands → S'.get t = S.get t

theorem Agree.ev {S S' : AState} {o : Oper} (h : Agree S S' o) {x : Operand} (hx : x ∈ o.op.operands) : S'.ev x = S.ev x := by
  cases x with
  | tmp t => simp only [AState.ev, h.get t hx]
  | _ => rfl
theorem Agree.blk {S S' : AState} {o : Oper} (h : Agree S S' o) (id : Nat) : S'.blk id = S.blk id := by unfold AState.blk; rw [h.blks]

def AOp (P : Program) (r : Option Nat) (E : Env) (S : AState) (o : Oper) (d : Nat) (x : AV) : Prop :=
  o.dst = some d ∧ d < E.n ∧ ∀ S', Agree S S' o → Step P r E o S' (S'.put d x)

theorem AOp.step {P : Program} {r : Option Nat} {E : Env} {S : AState} {o : Oper} {d : Nat} {x : AV} (h : AOp P r E S o d x) : Step P r E o S (S.put d x) := h.2.2 S ⟨rfl, fun _ _ => rfl⟩

section
variable {P : Program} {r : Option Nat} {E : Env} {S : AState} {d : Nat} {ty : TypeId} {pos : String} {af : Array Edge} {g : Option (Nat × Bool)}

theorem a_move {x : Operand} (hn : d < E.n) : AOp P r E S ⟨some d, .move x, ty, pos, af, g⟩ d (S.ev x) :=
  ⟨rfl, hn, fun S' h => by have := step_move (P := P) (r := r) (S := S') (x := x) (ty := ty) (pos := pos) (af := af) (g := g) hn; rwa [h.ev (by simp [Op.operands])] at this⟩
theorem a_assign {x : Operand} (hn : d < E.n) : AOp P r E S ⟨some d, .assign x, ty, pos, af, g⟩ d (S.ev x) :=
  ⟨rfl, hn, fun S' h => by have := step_assign (P := P) (r := r) (S := S') (x := x) (ty := ty) (pos := pos) (af := af) (g := g) hn; rwa [h.ev (by simp [Op.operands])] at this⟩

section ints
variable {k : IntKind} {x y : Operand} {a b : Int} {tx tz : TypeId} (hn : d < E.n) (hx : S.ev x = .d (.v (.int k a))) (hy : S.ev y = .d (.v (.int k b)))
include hn hx hy
theorem a_add (hw : k.wrap (a + b) = a + b) : AOp P r E S ⟨some d, .binOp .add tx x y tz, ty, pos, af, g⟩ d (.d (.v (.int k (a + b)))) :=
  ⟨rfl, hn, fun _ h => step_add hn ((h.ev (by simp [Op.operands])).trans hx) ((h.ev (by simp [Op.operands])).trans hy) hw⟩
theorem a_sub (hw : k.wrap (a - b) = a - b) : AOp P r E S ⟨some d, .binOp .sub tx x y tz, ty, pos, af, g⟩ d (.d (.v (.int k (a - b)))) :=
  ⟨rfl, hn, fun _ h => step_sub hn ((h.ev (by simp [Op.operands])).trans hx) ((h.ev (by simp [Op.operands])).trans hy) hw⟩
theorem a_mul (hw : k.wrap (a * b) = a * b) : AOp P r E S ⟨some d, .binOp .mul tx x y tz, ty, pos, af, g⟩ d (.d (.v (.int k (a * b)))) :=
  ⟨rfl, hn, fun _ h => step_mul hn ((h.ev (by simp [Op.operands])).trans hx) ((h.ev (by simp [Op.operands])).trans hy) hw⟩
theorem a_quo (ha : 0 ≤ a) (hb : 0 < b) (hw : k.wrap (a / b) = a / b) : AOp P r E S ⟨some d, .binOp .quo tx x y tz, ty, pos, af, g⟩ d (.d (.v (.int k (a / b)))) :=
  ⟨rfl, hn, fun _ h => step_quo hn ((h.ev (by simp [Op.operands])).trans hx) ((h.ev (by simp [Op.operands])).trans hy) ha hb hw⟩
theorem a_rem (ha : 0 ≤ a) (hb : 0 < b) : AOp P r E S ⟨some d, .binOp .rem tx x y tz, ty, pos, af, g⟩ d (.d (.v (.int k (a % b)))) :=
  ⟨rfl, hn, fun _ h => step_rem hn ((h.ev (by simp [Op.operands])).trans hx) ((h.ev (by simp [Op.operands])).trans hy) ha hb⟩
theorem a_lss : AOp P r E S ⟨some d, .binOp .lss tx x y tz, ty, pos, af, g⟩ d (.d (.v (.bool (decide (a < b))))) :=
  ⟨rfl, hn, fun _ h => step_lss hn ((h.ev (by simp [Op.operands])).trans hx) ((h.ev (by simp [Op.operands])).trans hy)⟩
theorem a_leq : AOp P r E S ⟨some d, .binOp .leq tx x y tz, ty, pos, af, g⟩ d (.d (.v (.bool (decide (a ≤ b))))) :=
  ⟨rfl, hn, fun _ h => step_leq hn ((h.ev (by simp [Op.operands])).trans hx) ((h.ev (by simp [Op.operands])).trans hy)⟩
theorem a_gtr : AOp P r E S ⟨some d, .binOp .gtr tx x y tz, ty, pos, af, g⟩ d (.d (.v (.bool (decide (b < a))))) :=
  ⟨rfl, hn, fun _ h => step_gtr hn ((h.ev (by simp [Op.operands])).trans hx) ((h.ev (by simp [Op.operands])).trans hy)⟩
theorem a_geq : AOp P r E S ⟨some d, .binOp .geq tx x y tz, ty, pos, af, g⟩ d (.d (.v (.bool (decide (b ≤ a))))) :=
  ⟨rfl, hn, fun _ h => step_geq hn ((h.ev (by simp [Op.operands])).trans hx) ((h.ev (by simp [Op.operands])).trans hy)⟩
theorem a_eql : AOp P r E S ⟨some d, .binOp .eql tx x y tz, ty, pos, af, g⟩ d (.d (.v (.bool (decide (a = b))))) :=
  ⟨rfl, hn, fun _ h => step_eql hn ((h.ev (by simp [Op.operands])).trans hx) ((h.ev (by simp [Op.operands])).trans hy)⟩
theorem a_neq : AOp P r E S ⟨some d, .binOp .neq tx x y tz, ty, pos, af, g⟩ d (.d (.v (.bool (!decide (a = b))))) :=
  ⟨rfl, hn, fun _ h => step_neq hn ((h.ev (by simp [Op.operands])).trans hx) ((h.ev (by simp [Op.operands])).trans hy)⟩
end ints
theorem a_shr {k k' : IntKind} {x y : Operand} {a : Int} {m : Nat} {tx tz : TypeId} (hn : d < E.n) (hx : S.ev x = .d (.v (.int k a))) (hy : S.ev y = .d (.v (.int k' (m : Int))))
    (hm : m ≤ k.bits) : AOp P r E S ⟨some d, .binOp .shr tx x y tz, ty, pos, af, g⟩ d (.d (.v (.int k (a / 2 ^ m)))) :=
  ⟨rfl, hn, fun _ h => step_shr hn ((h.ev (by simp [Op.operands])).trans hx) ((h.ev (by simp [Op.operands])).trans hy) hm⟩
theorem a_not {x : Operand} {b : Bool} {tx : TypeId} (hn : d < E.n) (hx : S.ev x = .d (.v (.bool b))) : AOp P r E S ⟨some d, .unOp .not tx x, ty, pos, af, g⟩ d (.d (.v (.bool (!b)))) :=
  ⟨rfl, hn, fun _ h => step_not hn ((h.ev (by simp [Op.operands])).trans hx)⟩
theorem a_neg {k : IntKind} {x : Operand} {a : Int} {tx : TypeId} (hn : d < E.n) (hx : S.ev x = .d (.v (.int k a))) (hw : k.wrap (-a) = -a) : AOp P r E S ⟨some d, .unOp .neg tx x, ty, pos, af, g⟩ d (.d (.v (.int k (-a)))) :=
  ⟨rfl, hn, fun _ h => step_neg hn ((h.ev (by simp [Op.operands])).trans hx) hw⟩
theorem a_pick_t {c x y : Operand} (hn : d < E.n) (hc : S.ev c = .d (.v (.bool true))) : AOp P r E S ⟨some d, .pick c x y, ty, pos, af, g⟩ d (S.ev x) :=
  ⟨rfl, hn, fun S' h => by have := step_pick_t (P := P) (r := r) (S := S') (c := c) (x := x) (y := y) (ty := ty) (pos := pos) (af := af) (g := g) hn ((h.ev (by simp [Op.operands])).trans hc); rwa [h.ev (by simp [Op.operands])] at this⟩
theorem a_pick_f {c x y : Operand} (hn : d < E.n) (hc : S.ev c = .d (.v (.bool false))) : AOp P r E S ⟨some d, .pick c x y, ty, pos, af, g⟩ d (S.ev y) :=
  ⟨rfl, hn, fun S' h => by have := step_pick_f (P := P) (r := r) (S := S') (c := c) (x := x) (y := y) (ty := ty) (pos := pos) (af := af) (g := g) hn ((h.ev (by simp [Op.operands])).trans hc); rwa [h.ev (by simp [Op.operands])] at this⟩
theorem a_pick_and {c : Operand} {t : Nat} {b b' : Bool} (hn : d < E.n) (hc : S.ev c = .d (.v (.bool b))) (ht : S.get t = .cond b (.d (.v (.bool b')))) :
    AOp P r E S ⟨some d, .pick c (.tmp t) (.const (.bool false)), ty, pos, af, g⟩ d (.d (.v (.bool (b && b')))) :=
  ⟨rfl, hn, fun _ h => step_pick_and hn ((h.ev (by simp [Op.operands])).trans hc) ((h.get t (by simp [Op.operands])).trans ht)⟩
theorem a_pick_or {c : Operand} {t : Nat} {b b' : Bool} (hn : d < E.n) (hc : S.ev c = .d (.v (.bool b))) (ht : S.get t = .cond (!b) (.d (.v (.bool b')))) :
    AOp P r E S ⟨some d, .pick c (.const (.bool true)) (.tmp t), ty, pos, af, g⟩ d (.d (.v (.bool (b || b')))) :=
  ⟨rfl, hn, fun _ h => step_pick_or hn ((h.ev (by simp [Op.operands])).trans hc) ((h.get t (by simp [Op.operands])).trans ht)⟩
section strs
variable {x y : Operand} {a b : ByteArray} {tx tz : TypeId} (hn : d < E.n) (hx : S.ev x = .d (.v (.string a))) (hy : S.ev y = .d (.v (.string b)))
include hn hx hy
theorem a_seql : AOp P r E S ⟨some d, .binOp .eql tx x y tz, ty, pos, af, g⟩ d (.d (.v (.bool (a.toList == b.toList)))) :=
  ⟨rfl, hn, fun _ h => step_seql hn ((h.ev (by simp [Op.operands])).trans hx) ((h.ev (by simp [Op.operands])).trans hy)⟩
theorem a_sneq : AOp P r E S ⟨some d, .binOp .neq tx x y tz, ty, pos, af, g⟩ d (.d (.v (.bool (!(a.toList == b.toList))))) :=
  ⟨rfl, hn, fun _ h => step_sneq hn ((h.ev (by simp [Op.operands])).trans hx) ((h.ev (by simp [Op.operands])).trans hy)⟩
theorem a_slss : AOp P r E S ⟨some d, .binOp .lss tx x y tz, ty, pos, af, g⟩ d (.d (.v (.bool (Op.bytesLess a.toList b.toList)))) :=
  ⟨rfl, hn, fun _ h => step_slss hn ((h.ev (by simp [Op.operands])).trans hx) ((h.ev (by simp [Op.operands])).trans hy)⟩
theorem a_sgeq : AOp P r E S ⟨some d, .binOp .geq tx x y tz, ty, pos, af, g⟩ d (.d (.v (.bool (!Op.bytesLess a.toList b.toList)))) :=
  ⟨rfl, hn, fun _ h => step_sgeq hn ((h.ev (by simp [Op.operands])).trans hx) ((h.ev (by simp [Op.operands])).trans hy)⟩
end strs
theorem a_conv_int {k k' : IntKind} {x : Operand} {a : Int} {ts td : TypeId} {ds : TypeDesc} (hn : d < E.n) (hs : P.underlying ts = some ds) (hd : P.underlying td = some (.int k')) (hx : S.ev x = .d (.v (.int k a))) :
    AOp P r E S ⟨some d, .convert ts td x, ty, pos, af, g⟩ d (.d (.v (.int k' (k'.wrap a)))) :=
  ⟨rfl, hn, fun _ h => step_conv_int hn hs hd ((h.ev (by simp [Op.operands])).trans hx)⟩
theorem a_extract {x : Operand} {i : Nat} {ds : List DV} {e : DV} (hn : d < E.n) (hx : S.ev x = .tup ds) (hi : ds[i]? = some e) : AOp P r E S ⟨some d, .extract x i, ty, pos, af, g⟩ d (.d e) :=
  ⟨rfl, hn, fun _ h => step_extract hn ((h.ev (by simp [Op.operands])).trans hx) hi⟩
theorem a_len_d {t e size bytes : Nat} {z : Value} {x : Operand} {cells : List DV} {n : Nat} (hn : d < E.n) (hT : SlTy P t e size bytes z) (hx : S.ev x = .d (.sl size cells)) (hl : cells.length = n * size) :
    AOp P r E S ⟨some d, .call { callee := .builtin .len, args := #[x], argTypes := #[t] }, ty, pos, af, g⟩ d (.d (.v (.int .i64 n))) :=
  ⟨rfl, hn, fun _ h => step_len_d hn hT ((h.ev (by simp [Op.operands, Call.operands])).trans hx) hl⟩
theorem a_len_row {t e size bytes : Nat} {z : Value} {x : Operand} {id : Nat} {sh : Bool} {cells : List DV} {n : Nat} (hn : d < E.n) (hT : SlTy P t e size bytes z) (hx : S.ev x = .row id) (hb : S.blk id = .row e size sh cells) (hl : cells.length = n * size) :
    AOp P r E S ⟨some d, .call { callee := .builtin .len, args := #[x], argTypes := #[t] }, ty, pos, af, g⟩ d (.d (.v (.int .i64 n))) :=
  ⟨rfl, hn, fun _ h => step_len_row hn hT ((h.ev (by simp [Op.operands, Call.operands])).trans hx) ((h.blk id).trans hb) hl⟩
theorem a_len_nil {t e : TypeId} {x : Operand} {A : Option Addr} {n c : Nat} (hn : d < E.n) (hu : P.underlying t = some (.slice e)) (hx : S.ev x = .d (.v (.slice A n c))) :
    AOp P r E S ⟨some d, .call { callee := .builtin .len, args := #[x], argTypes := #[t] }, ty, pos, af, g⟩ d (.d (.v (.int .i64 n))) :=
  ⟨rfl, hn, fun _ h => step_len_nil hn hu ((h.ev (by simp [Op.operands, Call.operands])).trans hx)⟩
theorem a_len_str {t : TypeId} {x : Operand} {s : ByteArray} (hn : d < E.n) (hu : P.underlying t = some .string) (hx : S.ev x = .d (.v (.string s))) :
    AOp P r E S ⟨some d, .call { callee := .builtin .len, args := #[x], argTypes := #[t] }, ty, pos, af, g⟩ d (.d (.v (.int .i64 s.size))) :=
  ⟨rfl, hn, fun _ h => step_len_str hn hu ((h.ev (by simp [Op.operands, Call.operands])).trans hx)⟩
theorem a_index_d {t e size bytes : Nat} {z : Value} {x ix : Operand} {cells : List DV} {n k : Nat} {kk : IntKind} {i : Int} (hn : d < E.n) (hT : SlTy P t e size bytes z) (hx : S.ev x = .d (.sl size cells))
    (hi : S.ev ix = .d (.v (.int kk i))) (hk : i = (k : Int)) (hl : cells.length = n * size) (hlt : k < n) :
    AOp P r E S ⟨some d, .indexAddr t x ix, ty, pos, af, g⟩ d (.ip cells (k * size)) :=
  ⟨rfl, hn, fun _ h => step_index_d hn hT ((h.ev (by simp [Op.operands])).trans hx) ((h.ev (by simp [Op.operands])).trans hi) hk hl hlt⟩
theorem a_index_row {t e size bytes : Nat} {z : Value} {x ix : Operand} {id : Nat} {sh : Bool} {cells : List DV} {n k : Nat} {kk : IntKind} {i : Int} (hn : d < E.n) (hT : SlTy P t e size bytes z) (hx : S.ev x = .row id)
    (hb : S.blk id = .row e size sh cells) (hi : S.ev ix = .d (.v (.int kk i))) (hk : i = (k : Int)) (hl : cells.length = n * size) (hlt : k < n) :
    AOp P r E S ⟨some d, .indexAddr t x ix, ty, pos, af, g⟩ d (.ptr id (k * size)) :=
  ⟨rfl, hn, fun _ h => step_index_row hn hT ((h.ev (by simp [Op.operands])).trans hx) ((h.blk id).trans hb) ((h.ev (by simp [Op.operands])).trans hi) hk hl hlt⟩
theorem a_load_ip {t : TypeId} {x : Operand} {cells : List DV} {off : Nat} {e : DV} (hn : d < E.n) (hT : OneTy P t) (hx : S.ev x = .ip cells off) (hc : cells[off]? = some e) :
    AOp P r E S ⟨some d, .load t x, ty, pos, af, g⟩ d (.d e) :=
  ⟨rfl, hn, fun _ h => step_load_ip hn hT ((h.ev (by simp [Op.operands])).trans hx) hc⟩
theorem a_load_ipA {t n : Nat} {x : Operand} {cells : List DV} {off : Nat} {es : List DV} (hn : d < E.n) (hT : AggTy P t n) (hx : S.ev x = .ip cells off) (hc : (cells.drop off).take n = es) (hl : es.length = n) :
    AOp P r E S ⟨some d, .load t x, ty, pos, af, g⟩ d (.d (.agg es)) :=
  ⟨rfl, hn, fun _ h => step_load_ipA hn hT ((h.ev (by simp [Op.operands])).trans hx) hc hl⟩
theorem a_load_box {t : TypeId} {x : Operand} {id off eb : Nat} {cells : List AV} {av : AV} (hn : d < E.n) (hT : OneTy P t) (hx : S.ev x = .ptr id off) (hb : S.blk id = .box eb cells) (hc : cells[off]? = some av) :
    AOp P r E S ⟨some d, .load t x, ty, pos, af, g⟩ d av :=
  ⟨rfl, hn, fun _ h => step_load_box hn hT ((h.ev (by simp [Op.operands])).trans hx) ((h.blk id).trans hb) hc⟩
theorem a_load_row {t : TypeId} {x : Operand} {id off e size : Nat} {sh : Bool} {cells : List DV} {y : DV} (hn : d < E.n) (hT : OneTy P t) (hx : S.ev x = .ptr id off) (hb : S.blk id = .row e size sh cells) (hc : cells[off]? = some y) :
    AOp P r E S ⟨some d, .load t x, ty, pos, af, g⟩ d (.d y) :=
  ⟨rfl, hn, fun _ h => step_load_row hn hT ((h.ev (by simp [Op.operands])).trans hx) ((h.blk id).trans hb) hc⟩
theorem a_load_rowA {t n : Nat} {x : Operand} {id off e size : Nat} {sh : Bool} {cells es : List DV} (hn : d < E.n) (hT : AggTy P t n) (hx : S.ev x = .ptr id off) (hb : S.blk id = .row e size sh cells)
    (hc : (cells.drop off).take n = es) (hl : es.length = n) : AOp P r E S ⟨some d, .load t x, ty, pos, af, g⟩ d (.d (.agg es)) :=
  ⟨rfl, hn, fun _ h => step_load_rowA hn hT ((h.ev (by simp [Op.operands])).trans hx) ((h.blk id).trans hb) hc hl⟩

def unD : List AV → Option (List DV)
  | [] => some []
  | .d x :: r => match unD r with
    | some ys => some (x :: ys)
    | none => none
  | _ :: _ => none
theorem unD_spec (S : AState) : ∀ {l : List AV} {ds : List DV}, unD l = some ds → S.dvL l = some ds ∧ S.shareL l = S
  | [], ds, h => by simp [unD] at h; subst h; exact ⟨rfl, rfl⟩
  | .d x :: l, ds, h => by
    simp only [unD] at h
    cases hl : unD l with
    | none => simp [hl] at h
    | some ys =>
      simp [hl] at h
      subst h
      obtain ⟨h1, h2⟩ := unD_spec S hl
      exact ⟨by simp [AState.dvL, AState.dv, h1], by simpa [AState.shareL, AState.shareAV] using h2⟩
  | .top :: _, _, h => by simp [unD] at h
  | .row _ :: _, _, h => by simp [unD] at h
  | .ptr _ _ :: _, _, h => by simp [unD] at h
  | .ip _ _ :: _, _, h => by simp [unD] at h
  | .tup _ :: _, _, h => by simp [unD] at h
  | .cond _ _ :: _, _, h => by simp [unD] at h
  | .gh _ :: _, _, h => by simp [unD] at h
  | .rs _ _ _ :: _, _, h => by simp [unD] at h

theorem a_call {f : FuncId} {xs : List Operand} {ats : Array TypeId} {ds rs : List DV} (hn : d < E.n) (hds : unD (xs.map S.ev) = some ds) (hc : Contract P f ds rs) (hG : E.gdt = gdOf P := by rfl) :
    AOp P r E S ⟨some d, .call { callee := .value (.func f), args := xs.toArray, argTypes := ats }, ty, pos, af, g⟩ d (retAV rs) :=
  ⟨rfl, hn, fun S' h => by
    have he : xs.map S'.ev = xs.map S.ev := List.map_congr_left fun x hx => h.ev (by simp [Op.operands, Call.operands, hx])
    obtain ⟨h1, h2⟩ := unD_spec S' hds
    have := step_call (P := P) (r := r) (S := S') (ty := ty) (pos := pos) (af := af) (g := g) (ats := ats) hn (by rw [he]; exact h1) hc hG
    rwa [he, h2] at this⟩

/-! ## Sequences -/

/-- One operation with its guard. -/
def StepG (P : Program) (r : Option Nat) (E : Env) (ops : Array Oper) (o : Oper) (S S' : AState) : Prop :=
  ∀ a w (K : Act → World → Prop) (Q : Exit → Act → World → Prop), Sat E S a w → (∀ a' w', Sat E S' a' w' → K a' w') →
    if Region.wanted o (yielded ops a.tmps) then o.wpIn (fen r) 0 P a w K Q else (∀ f, o.about P w a.eval = some f → (fen r).fn f) ∧ K (a.put o.dst undef) w

def AOpG (P : Program) (r : Option Nat) (E : Env) (ops : Array Oper) (S : AState) (o : Oper) (d : Nat) (x : AV) : Prop :=
  o.dst = some d ∧ d < E.n ∧ ∀ S', S'.blks = S.blks → (∀ t ∈ o.looksAt ops, S'.get t = S.get t) → StepG P r E ops o S' (S'.put d x)

theorem looks_mem {ops : Array Oper} {o : Oper} {t : Nat} (h : Operand.tmp t ∈ o.op.operands) : t ∈ o.looksAt ops :=
  List.mem_append_left _ (List.mem_filterMap.2 ⟨.tmp t, by simpa using h, rfl⟩)

theorem stepG_of {ops : Array Oper} {o : Oper} {S' : AState} (hg : o.guard = none) (h : Step P r E o S S') : StepG P r E ops o S S' := fun a w K Q hs hk => by
  simp only [Region.wanted, hg, if_true]
  exact h a w K Q hs hk

theorem ag_plain {ops : Array Oper} {o : Oper} {x : AV} (hg : o.guard = none) (h : AOp P r E S o d x) : AOpG P r E ops S o d x :=
  ⟨h.1, h.2.1, fun S' hb hl => stepG_of hg (h.2.2 S' ⟨hb, fun t ht => hl t (looks_mem ht)⟩)⟩

theorem sat_cond {a : Act} {w : World} {c : Bool} {x : AV} (hn : d < E.n) (hc : c = true) (h : Sat E (S.put d x) a w) : Sat E (S.put d (.cond c x)) a w := by
  obtain ⟨I', ρ', C', h'⟩ := h
  refine ⟨I', ρ', C', ⟨fun u => ?_, h'.blks, h'.dist, by have := h'.frame; rw [ghost_put _ _ hn] at this ⊢; exact this, h'.sub, h'.old, h'.size, h'.defers, h'.cI, h'.cB, h'.nm⟩⟩
  have := h'.tmps u
  rw [get_put] at this ⊢
  by_cases e : d = u
  · simp only [e, if_true] at this ⊢
    exact ⟨fun _ => this, fun hf => by rw [hc] at hf; cases hf⟩
  · simp only [e, if_false] at this ⊢
    exact this

theorem ag_guard {ops : Array Oper} {o : Oper} {j t : Nat} {want b : Bool} {x : AV} (hg : o.guard = some (j, want)) (hj : (ops[j]?).bind (·.dst) = some t) (hd : o.dst = some d) (hn : d < E.n) (hnt : t < E.n)
    (ht : S.get t = .d (.v (.bool b))) (h : gd want b = true → AOp P r E S o d x) : AOpG P r E ops S o d (.cond (gd want b) x) := by
  refine ⟨hd, hn, fun S' hb hl a w Kn Q hs hk => ?_⟩
  obtain ⟨I, ρ, C, hsat⟩ := hs
  have htl : t ∈ o.looksAt ops := List.mem_append_right _ (by simp [hg, hj])
  have hy := hsat.yield (ops := ops) hj ((hl t htl).trans ht) hnt
  have hwant : Region.wanted o (yielded ops a.tmps) = gd want b := by
    simp only [Region.wanted, hg, hy]
    cases want <;> cases b <;> rfl
  rw [hwant]
  cases hb' : gd want b with
  | true =>
    simp only [if_true]
    refine (h hb').2.2 S' ⟨hb, fun t ht => hl t (looks_mem ht)⟩ a w Kn Q ⟨I, ρ, C, hsat⟩ fun a' w' hs' => hk a' w' ?_
    rw [hb']
    exact sat_cond hn rfl hs'
  | false =>
    simp only [Bool.false_eq_true, if_false]
    refine ⟨fun _ _ => trivial, hk _ _ ?_⟩
    rw [hd, hb']
    exact ⟨I, ρ, C, hsat.put hn ⟨fun hf => (by cases hf), fun _ => rfl⟩⟩

theorem ag_guard2 {ops : Array Oper} {o : Oper} {j t : Nat} {want b c : Bool} {x : AV} (hg : o.guard = some (j, want)) (hj : (ops[j]?).bind (·.dst) = some t) (hd : o.dst = some d) (hn : d < E.n) (hnt : t < E.n)
    (ht : S.get t = .cond c (.d (.v (.bool b)))) (h : (c && gd want b) = true → AOp P r E S o d x) : AOpG P r E ops S o d (.cond (c && gd want b) x) := by
  refine ⟨hd, hn, fun S' hb hl a w Kn Q hs hk => ?_⟩
  obtain ⟨I, ρ, C, hsat⟩ := hs
  have htl : t ∈ o.looksAt ops := List.mem_append_right _ (by simp [hg, hj])
  have hy := hsat.yield2 (ops := ops) hj ((hl t htl).trans ht) hnt
  have hwant : Region.wanted o (yielded ops a.tmps) = (c && gd want b) := by
    simp only [Region.wanted, hg, hy]
    cases want <;> cases b <;> cases c <;> rfl
  rw [hwant]
  cases hb' : (c && gd want b) with
  | true =>
    simp only [if_true]
    refine (h hb').2.2 S' ⟨hb, fun t ht => hl t (looks_mem ht)⟩ a w Kn Q ⟨I, ρ, C, hsat⟩ fun a' w' hs' => hk a' w' ?_
    rw [hb']
    exact sat_cond hn rfl hs'
  | false =>
    simp only [Bool.false_eq_true, if_false]
    refine ⟨fun _ _ => trivial, hk _ _ ?_⟩
    rw [hd, hb']
    exact ⟨I, ρ, C, hsat.put hn ⟨fun hf => (by cases hf), fun _ => rfl⟩⟩

/-- Operations one after the other. -/
def Sq (P : Program) (r : Option Nat) (E : Env) (ops : Array Oper) : List Oper → AState → (AState → Prop) → Prop
  | [], S, J => J S
  | o :: rest, S, J => ∃ S', StepG P r E ops o S S' ∧ Sq P r E ops rest S' J

theorem sq_nil {ops : Array Oper} {J : AState → Prop} (h : J S) : Sq P r E ops [] S J := h
theorem sq_a {ops : Array Oper} {o : Oper} {rest : List Oper} {J : AState → Prop} {x : AV} (h : AOpG P r E ops S o d x) (k : Sq P r E ops rest (S.put d x) J) : Sq P r E ops (o :: rest) S J :=
  ⟨_, h.2.2 S rfl (fun _ _ => rfl), k⟩
theorem sq_b {ops : Array Oper} {o : Oper} {rest : List Oper} {J : AState → Prop} {S' : AState} (hg : o.guard = none) (h : Step P r E o S S') (k : Sq P r E ops rest S' J) : Sq P r E ops (o :: rest) S J :=
  ⟨_, stepG_of hg h, k⟩
theorem sq_weak {ops : Array Oper} {rest : List Oper} {J : AState → Prop} {S' : AState} (hw : Weak E S S') (k : Sq P r E ops rest S' J) (hne : rest ≠ []) : Sq P r E ops rest S J := by
  cases rest with
  | nil => exact absurd rfl hne
  | cons o rest =>
    obtain ⟨S2, h, k⟩ := k
    exact ⟨S2, fun a w K Q hs hk => h a w K Q (hw a w hs) hk, k⟩

theorem Sq.wp {ops : Array Oper} {Q : Exit → Act → World → Prop} : ∀ (l : List Oper) {S : AState} {J : AState → Prop} (_ : Sq P r E ops l S J) (a : Act) (w : World), Sat E S a w → (∀ S' a' w', J S' → Sat E S' a' w' → Q .normal a' w') → wpListIn (fen r) 0 P ops Q l a w
  | [], _, _, h, a, w, hs, hq => hq _ a w h hs
  | _ :: l, _, _, ⟨_, h, k⟩, a, w, hs, hq => wpListIn_step fun K hK => h a w K Q hs fun a' w' hs' => hK a' w' (Sq.wp l k a' w' hs' hq)

theorem avc_sq {id : Nat} {l : List Oper} {K : Exit → AState → Prop} (h : Sq P r E l.toArray l S (K .normal)) : Avc P r E (.region id l.toArray false) K S := fun a w hs =>
  wpIn_region_lit (Sq.wp l h a w hs fun S' _ _ hj hs' => ⟨S', hj, hs'⟩)
end
end Go.AV

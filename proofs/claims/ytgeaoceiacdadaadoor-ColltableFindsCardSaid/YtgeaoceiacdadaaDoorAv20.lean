/- The layer of abstract values: what a temporary holds, said once; every rule of it is proved from the model. Conditions: none. -/
import Derived.Test.YtgeaoceiacdadaaDoorAv19
set_option linter.unusedSimpArgs false
set_option linter.unusedVariables false
set_option linter.unnecessarySimpa false
namespace Go.AV
open Go.RowKit Go.M

section
variable {P : Program} {r : Option Nat} {E : Env} {S : AState} {d : Nat} {ty : TypeId} {pos : String} {af : Array Edge} {g : Option (Nat × Bool)}

/-! ## Numbers -/
section ints
variable {k : IntKind} {x y : Operand} {a b : Int} {tx tz : TypeId} (hn : d < E.n) (hx : S.ev x = .d (.v (.int k a))) (hy : S.ev y = .d (.v (.int k b)))
include hn hx hy
theorem m_add : AOp P r E S ⟨some d, .binOp .add tx x y tz, ty, pos, af, g⟩ d (.d (.v (.int k (k.wrap (a + b))))) :=
  ⟨rfl, hn, fun S' h => step_val rfl hn (by simp) fun A w I ρ C hs => by
    simp only [execOp, hs.val ((h.ev (by simp [Op.operands])).trans hx), hs.val ((h.ev (by simp [Op.operands])).trans hy)]
    simp [binOp, eqGuard, Op.intArith]⟩
theorem m_sub : AOp P r E S ⟨some d, .binOp .sub tx x y tz, ty, pos, af, g⟩ d (.d (.v (.int k (k.wrap (a - b))))) :=
  ⟨rfl, hn, fun S' h => step_val rfl hn (by simp) fun A w I ρ C hs => by
    simp only [execOp, hs.val ((h.ev (by simp [Op.operands])).trans hx), hs.val ((h.ev (by simp [Op.operands])).trans hy)]
    simp [binOp, eqGuard, Op.intArith]⟩
theorem m_mul : AOp P r E S ⟨some d, .binOp .mul tx x y tz, ty, pos, af, g⟩ d (.d (.v (.int k (k.wrap (a * b))))) :=
  ⟨rfl, hn, fun S' h => step_val rfl hn (by simp) fun A w I ρ C hs => by
    simp only [execOp, hs.val ((h.ev (by simp [Op.operands])).trans hx), hs.val ((h.ev (by simp [Op.operands])).trans hy)]
    simp [binOp, eqGuard, Op.intArith]⟩
theorem m_quo {c : Int} (h0 : divM k.wrap a b = some c) : AOp P r E S ⟨some d, .binOp .quo tx x y tz, ty, pos, af, g⟩ d (.d (.v (.int k c))) :=
  ⟨rfl, hn, fun S' h => step_val rfl hn (by simp) fun A w I ρ C hs => by
    unfold divM at h0
    split at h0
    · cases h0
    · rename_i hb
      cases h0
      simp only [execOp, hs.val ((h.ev (by simp [Op.operands])).trans hx), hs.val ((h.ev (by simp [Op.operands])).trans hy)]
      simp [binOp, eqGuard, Op.intDiv, hb]⟩
theorem m_rem {c : Int} (h0 : remM a b = some c) : AOp P r E S ⟨some d, .binOp .rem tx x y tz, ty, pos, af, g⟩ d (.d (.v (.int k c))) :=
  ⟨rfl, hn, fun S' h => step_val rfl hn (by simp) fun A w I ρ C hs => by
    unfold remM at h0
    split at h0
    · cases h0
    · rename_i hb
      cases h0
      simp only [execOp, hs.val ((h.ev (by simp [Op.operands])).trans hx), hs.val ((h.ev (by simp [Op.operands])).trans hy)]
      simp [binOp, eqGuard, Op.intDiv, hb]⟩
end ints
theorem m_neg {k : IntKind} {x : Operand} {a : Int} {tx : TypeId} (hn : d < E.n) (hx : S.ev x = .d (.v (.int k a))) : AOp P r E S ⟨some d, .unOp .neg tx x, ty, pos, af, g⟩ d (.d (.v (.int k (k.wrap (-a))))) :=
  ⟨rfl, hn, fun S' h => step_val rfl hn (by simp) fun A w I ρ C hs => by
    simp only [execOp, hs.val ((h.ev (by simp [Op.operands])).trans hx)]
    simp [Op.unary, Op.intArith]⟩
theorem m_conv {k k' : IntKind} {x : Operand} {a : Int} {ts td : TypeId} {ds : TypeDesc} (hn : d < E.n) (hs : P.underlying ts = some ds) (hd : P.underlying td = some (.int k')) (hx : S.ev x = .d (.v (.int k a))) :
    AOp P r E S ⟨some d, .convert ts td x, ty, pos, af, g⟩ d (.d (.v (.int k' (k'.wrap a)))) := a_conv_int hn hs hd hx

/-! ## Strings -/
section strs
variable {x y : Operand} {a b : Str} {tx tz : TypeId} (hn : d < E.n) (hx : S.ev x = .d (ds a)) (hy : S.ev y = .d (ds b))
include hn hx hy
theorem m_seql : AOp P r E S ⟨some d, .binOp .eql tx x y tz, ty, pos, af, g⟩ d (.d (.v (.bool (a == b)))) := by
  have := a_seql (P := P) (r := r) (ty := ty) (pos := pos) (af := af) (g := g) (tx := tx) (tz := tz) hn hx hy
  rwa [str_mk, str_mk] at this
theorem m_sneq : AOp P r E S ⟨some d, .binOp .neq tx x y tz, ty, pos, af, g⟩ d (.d (.v (.bool (!(a == b))))) := by
  have := a_sneq (P := P) (r := r) (ty := ty) (pos := pos) (af := af) (g := g) (tx := tx) (tz := tz) hn hx hy
  rwa [str_mk, str_mk] at this
theorem m_slss : AOp P r E S ⟨some d, .binOp .lss tx x y tz, ty, pos, af, g⟩ d (.d (.v (.bool (Op.bytesLess a b)))) := by
  have := a_slss (P := P) (r := r) (ty := ty) (pos := pos) (af := af) (g := g) (tx := tx) (tz := tz) hn hx hy
  rwa [str_mk, str_mk] at this
theorem m_sgeq : AOp P r E S ⟨some d, .binOp .geq tx x y tz, ty, pos, af, g⟩ d (.d (.v (.bool (!Op.bytesLess a b)))) := by
  have := a_sgeq (P := P) (r := r) (ty := ty) (pos := pos) (af := af) (g := g) (tx := tx) (tz := tz) hn hx hy
  rwa [str_mk, str_mk] at this
theorem m_sgtr : AOp P r E S ⟨some d, .binOp .gtr tx x y tz, ty, pos, af, g⟩ d (.d (.v (.bool (!Op.bytesLess a b && !(a == b))))) :=
  ⟨rfl, hn, fun S' h => step_val rfl hn (by simp) fun A w I ρ C hs => by
    have e1 : A.eval x = .string ⟨a.toArray⟩ := hs.val ((h.ev (by simp [Op.operands])).trans hx)
    have e2 : A.eval y = .string ⟨b.toArray⟩ := hs.val ((h.ev (by simp [Op.operands])).trans hy)
    simp only [execOp, e1, e2]
    simp [binOp, eqGuard, Op.stringOp, str_mk]⟩
end strs
theorem m_slen {t : TypeId} {x : Operand} {s : Str} (hn : d < E.n) (hu : P.underlying t = some .string) (hx : S.ev x = .d (ds s)) :
    AOp P r E S ⟨some d, .call { callee := .builtin .len, args := #[x], argTypes := #[t] }, ty, pos, af, g⟩ d (.d (.v (.int .i64 s.length))) := by
  have := a_len_str (P := P) (r := r) (ty := ty) (pos := pos) (af := af) (g := g) hn hu hx
  have e : (⟨s.toArray⟩ : ByteArray).size = s.length := by simp [ByteArray.size]
  rwa [e] at this
theorem m_sindex {t : TypeId} {x ix : Operand} {s : Str} {kk : IntKind} {i c : Int} (hn : d < E.n) (hu : P.underlying t = some .string) (hx : S.ev x = .d (ds s)) (hi : S.ev ix = .d (.v (.int kk i))) (hv : sidx s i = some c) :
    AOp P r E S ⟨some d, .index t x ix, ty, pos, af, g⟩ d (.d (.v (.int .u8 c))) := by
  unfold sidx at hv
  cases hb : idx s i with
  | none => rw [hb] at hv; cases hv
  | some b =>
    rw [hb] at hv; cases hv
    obtain ⟨h0, h1, h2, h3⟩ := idx_some hb
    have e : (⟨s.toArray⟩ : ByteArray).size = s.length := by simp [ByteArray.size]
    have := a_sindex (P := P) (r := r) (ty := ty) (pos := pos) (af := af) (g := g) hn hu hx hi h1 (by rw [e]; exact h2)
    have e2 : (s.toArray.toList.getD i.toNat 0) = b := by simp [List.getD_eq_getElem?_getD, h3]
    simp only [e2] at this
    exact this

/-! ## Slices as data -/
section sl
variable {α : Type} {en : En α} {t e bytes : Nat} {z : Value} {l : List α} {x : Operand}
theorem m_len (hn : d < E.n) (hT : SlTy P t e en.size bytes z) (hx : S.ev x = .d (dsl en l)) :
    AOp P r E S ⟨some d, .call { callee := .builtin .len, args := #[x], argTypes := #[t] }, ty, pos, af, g⟩ d (.d (.v (.int .i64 l.length))) :=
  a_len_d hn hT hx (all_len en l)
theorem m_lenR {id : Nat} {sh : Bool} (hn : d < E.n) (hT : SlTy P t e en.size bytes z) (hx : S.ev x = .row id) (hb : S.blk id = .row e en.size sh (en.all l)) :
    AOp P r E S ⟨some d, .call { callee := .builtin .len, args := #[x], argTypes := #[t] }, ty, pos, af, g⟩ d (.d (.v (.int .i64 l.length))) :=
  a_len_row hn hT hx hb (all_len en l)
theorem m_index {ix : Operand} {kk : IntKind} {i : Int} {v : α} (hn : d < E.n) (hT : SlTy P t e en.size bytes z) (hx : S.ev x = .d (dsl en l)) (hi : S.ev ix = .d (.v (.int kk i))) (hv : idx l i = some v) :
    AOp P r E S ⟨some d, .indexAddr t x ix, ty, pos, af, g⟩ d (.ip (en.all l) (i.toNat * en.size)) :=
  a_index_d hn hT hx hi (idx_some hv).2.1 (all_len en l) (idx_some hv).2.2.1
theorem m_indexR {id : Nat} {sh : Bool} {ix : Operand} {kk : IntKind} {i : Int} {v : α} (hn : d < E.n) (hT : SlTy P t e en.size bytes z) (hx : S.ev x = .row id) (hb : S.blk id = .row e en.size sh (en.all l)) (hi : S.ev ix = .d (.v (.int kk i))) (hv : idx l i = some v) :
    AOp P r E S ⟨some d, .indexAddr t x ix, ty, pos, af, g⟩ d (.ptr id (i.toNat * en.size)) :=
  a_index_row hn hT hx hb hi (idx_some hv).2.1 (all_len en l) (idx_some hv).2.2.1
/-- A cell of an element. -/
theorem m_loadE {tt : TypeId} {i : Int} {v : α} {off : Nat} {y : DV} (hn : d < E.n) (hT : OneTy P tt) (hx : S.ev x = .ip (en.all l) (i.toNat * en.size + off)) (hv : idx l i = some v) (hy : (en.cells v)[off]? = some y) :
    AOp P r E S ⟨some d, .load tt x, ty, pos, af, g⟩ d (.d y) :=
  a_load_ip hn hT hx (by rw [all_get en (idx_some hv).2.2.2 off (by rw [← en.len v]; exact (List.getElem?_eq_some_iff.1 hy).1)]; exact hy)
theorem m_loadER {tt : TypeId} {id : Nat} {sh : Bool} {i : Int} {v : α} {off : Nat} {y : DV} (hn : d < E.n) (hT : OneTy P tt) (hx : S.ev x = .ptr id (i.toNat * en.size + off)) (hb : S.blk id = .row e en.size sh (en.all l)) (hv : idx l i = some v) (hy : (en.cells v)[off]? = some y) :
    AOp P r E S ⟨some d, .load tt x, ty, pos, af, g⟩ d (.d y) :=
  a_load_row hn hT hx hb (by rw [all_get en (idx_some hv).2.2.2 off (by rw [← en.len v]; exact (List.getElem?_eq_some_iff.1 hy).1)]; exact hy)
/-- Cells of an element that are a struct or an array. -/
theorem m_loadEA {tt n : Nat} {i : Int} {v : α} {off : Nat} {es : List DV} (hn : d < E.n) (hT : AggTy P tt n) (hx : S.ev x = .ip (en.all l) (i.toNat * en.size + off)) (hv : idx l i = some v) (hy : ((en.cells v).drop off).take n = es) (hl : es.length = n) (ho : off + n ≤ en.size) :
    AOp P r E S ⟨some d, .load tt x, ty, pos, af, g⟩ d (.d (.agg es)) :=
  a_load_ipA hn hT hx (by rw [all_sub en (idx_some hv).2.2.2 off n ho]; exact hy) hl
theorem m_loadEAR {tt n : Nat} {id : Nat} {sh : Bool} {i : Int} {v : α} {off : Nat} {es : List DV} (hn : d < E.n) (hT : AggTy P tt n) (hx : S.ev x = .ptr id (i.toNat * en.size + off)) (hb : S.blk id = .row e en.size sh (en.all l)) (hv : idx l i = some v) (hy : ((en.cells v).drop off).take n = es) (hl : es.length = n) (ho : off + n ≤ en.size) :
    AOp P r E S ⟨some d, .load tt x, ty, pos, af, g⟩ d (.d (.agg es)) :=
  a_load_rowA hn hT hx hb (by rw [all_sub en (idx_some hv).2.2.2 off n ho]; exact hy) hl
end sl

/-! ## Variables of structs that are not written again -/
theorem m_loadP {t : TypeId} {x : Operand} {cells : List DV} {off : Nat} {e : DV} (hn : d < E.n) (hT : OneTy P t) (hx : S.ev x = .ip cells off) (hc : cells[off]? = some e) :
    AOp P r E S ⟨some d, .load t x, ty, pos, af, g⟩ d (.d e) := a_load_ip hn hT hx hc
theorem pt_ip {w : World} {I : Im} {ρ : Nat → Value} {v : Value} {cells : List DV} (h : Rep w I v (.pt cells)) : Holds w I ρ v (.ip cells 0) := by
  cases h with
  | pt b off xs cells hx hc h1 hr => exact ⟨b, off, xs, rfl, ⟨hx, hr⟩, h1, hc⟩
theorem m_fieldPt {s k off n : Nat} {t : TypeId} {x : Operand} {cells : List DV} (hn : d < E.n) (hT : FldTy P s k off n t) (hx : S.ev x = .d (.pt cells)) :
    AOp P r E S ⟨some d, .fieldAddr s x k, ty, pos, af, g⟩ d (.ip cells (0 + off)) :=
  ⟨rfl, hn, fun S' ha => step_value rfl hn (by simp) fun A w I ρ C hs => by
    have h := hs.ev x
    rw [(ha.ev (by simp [Op.operands])).trans hx] at h
    obtain ⟨b, o', xs, hv, hr, h1, hcc⟩ := pt_ip (ρ := ρ) h
    refine ⟨.pointer (some ⟨b, o' + (0 + off), none⟩), ?_, b, o', xs, rfl, hr, h1, hcc⟩
    simp only [execOp, hv, Sem.run_bind, run_fieldAt hT w b (o' + 0), Nat.add_assoc]
    rfl⟩
theorem m_loadPt {t n : Nat} {x : Operand} {cells : List DV} (hn : d < E.n) (hT : AggTy P t n) (hx : S.ev x = .d (.pt cells)) (hl : cells.length = n) :
    AOp P r E S ⟨some d, .load t x, ty, pos, af, g⟩ d (.d (.agg cells)) :=
  ⟨rfl, hn, fun S' ha => step_value rfl hn (by simp) fun A w I ρ C hs => by
    have h := hs.ev x
    rw [(ha.ev (by simp [Op.operands])).trans hx] at h
    obtain ⟨b, o', xs, hv, hr, h1, hcc⟩ := pt_ip (ρ := ρ) h
    refine ⟨.agg xs.toArray, ?_, .agg _ _ hr.1 h1 hr.2⟩
    simp only [execOp, hv, Sem.run_bind, Nat.add_zero]
    rw [run_loadAgg w hT b o' xs (by rw [hr.1]; exact hl) (fun j v hj => (hcc j v hj).1)]
    rfl⟩
theorem m_loadPt1 {t : TypeId} {x : Operand} {e : DV} (hn : d < E.n) (hT : OneTy P t) (hx : S.ev x = .d (.pt [e])) :
    AOp P r E S ⟨some d, .load t x, ty, pos, af, g⟩ d (.d e) := a_load_pt hn hT hx rfl

/-- A new block of cells that is never written again. -/
theorem SatAt.newPt {A : Act} {w : World} {I : Im} {ρ : Nat → Value} {C : Nat → Prop} (hs : SatAt E S A w I ρ C) {e : Nat} {xs : List Value} {cells : List DV} (hpw : Reps w I xs cells) (h1 : ∀ x ∈ xs, x.oneCell' = true) :
    ∃ I' : Im, SatAt E S A (w.alloc (.cells xs.toArray e)) I' ρ C ∧ Rep (w.alloc (.cells xs.toArray e)) I' (.pointer (some ⟨w.heap.size, 0, none⟩)) (.pt cells) := by
  have hI : ∀ b j, I b j → b < w.heap.size := fun b j h => (hs.old b j h).1
  have hB : Below w.heap.size w (w.alloc (.cells xs.toArray e)) := ⟨rfl, rfl, rfl, by simp, fun k hk => _root_.Go.heap_alloc_old w _ hk⟩
  let I' : Im := fun b j => I b j ∨ b = w.heap.size
  have hsub : ∀ b j, I b j → I' b j := fun b j h => .inl h
  have h1' := hs.grow hB
  refine ⟨I', h1'.widen (B := w.heap.size) hsub (fun b j hi => ?_) (fun i b hi hb => (hs.blt i b hi hb).2) (E.size _ _ _ hs.frame) (fun b hc => E.csize _ _ _ hs.frame b hc), ?_⟩
  · rcases hi with hi | rfl
    · exact ⟨by have := hI b j hi; simp; omega, .inl hi⟩
    · exact ⟨by simp, .inr (Nat.le_refl _)⟩
  · have hr := hpw.mono (same_alloc (.cells xs.toArray e) hI) hsub
    refine .pt _ _ xs cells hr.1 (fun j x hj => ⟨?_, .inr rfl⟩) h1 hr.2
    rw [Nat.zero_add, cell_of_row _ _ j xs.toArray e (0, 0) (heap_alloc_new w _)]
    simpa using hj
theorem m_box {elem : TypeId} {x : Operand} {u : DV} {size : Nat} (hn : d < E.n) (hx : S.ev x = .d u) (hok : okDV size u = true) :
    AOp P r E S ⟨some d, .box elem x, ty, pos, af, g⟩ d (.d (.pt (flatDV u))) :=
  ⟨rfl, hn, fun S' ha => step_run (by simp) fun A w I ρ C hs => by
    have h := hs.ev x
    rw [(ha.ev (by simp [Op.operands])).trans hx] at h
    obtain ⟨h1, h2, _⟩ := Rep.flat h hok
    obtain ⟨I', hs', hr⟩ := hs.newPt (e := elem) h1 h2
    refine ⟨.pointer (some ⟨w.heap.size, 0, none⟩), _, ?_, I', ρ, C, hs'.put hn hr⟩
    simp [execOp, Instr.box, newVar, newRow]⟩

/-! ## Structs that are built -/
structure StTy (P : Program) (t : TypeId) (places : List (Nat × Nat)) (zs : List Value) : Prop where
  und : ∃ fields, P.underlying t = some (.struct fields) ∧ ∀ w, (fields.mapM fun (f : Field) => do pure (f.offset, ← sizeOf f.type)).run P w = .ok places.toArray w
  zero : ∀ w, (zeroValue t).run P w = .ok (.agg zs.toArray) w
  one : ∀ x ∈ zs, x.oneCell' = true

def fillD (places : List (Nat × Nat)) : List DV → List (Nat × DV) → Option (List DV)
  | cells, [] => some cells
  | cells, (i, v) :: rest => match places[i]? with
    | none => none
    | some (off, size) => if okDV size v && Nat.ble (off + size) cells.length then fillD places (cells.take off ++ flatDV v ++ cells.drop (off + size)) rest else none

theorem fill_rep {w : World} {I : Im} {places : List (Nat × Nat)} : ∀ (ds : List (Nat × DV)) (vs : List (Nat × Value)) (arr : Array Value) (cells cells' : List DV), Reps w I arr.toList cells → (∀ x ∈ arr.toList, x.oneCell' = true) →
    Pw (fun (v : Nat × Value) (y : Nat × DV) => v.1 = y.1 ∧ Rep w I v.2 y.2) vs ds → fillD places cells ds = some cells' →
    ∃ arr', Instr.fill (fun i => places[i]?) arr vs = some arr' ∧ Reps w I arr'.toList cells' ∧ ∀ x ∈ arr'.toList, x.oneCell' = true := by
  intro ds
  induction ds with
  | nil =>
    intro vs arr cells cells' hr h1 hp hf
    have : vs = [] := List.eq_nil_of_length_eq_zero hp.1
    subst this
    simp only [fillD, Option.some.injEq] at hf
    subst hf
    exact ⟨arr, rfl, hr, h1⟩
  | cons p ds ih =>
    intro vs arr cells cells' hr h1 hp hf
    obtain ⟨i, y⟩ := p
    cases vs with
    | nil => have := hp.1; simp at this
    | cons q vs =>
      obtain ⟨i', v⟩ := q
      obtain ⟨hi, hv⟩ := hp.2 0 (i', v) (i, y) rfl rfl
      simp only at hi hv
      subst hi
      simp only [fillD] at hf
      cases hpl : places[i']? with
      | none => simp [hpl] at hf
      | some os =>
        obtain ⟨off, size⟩ := os
        simp only [hpl] at hf
        split at hf
        · rename_i hc
          simp only [Bool.and_eq_true] at hc
          obtain ⟨hf1, hf2, hf3⟩ := Rep.flat hv hc.1
          have hle : off + size ≤ cells.length := Nat.le_of_ble_eq_true hc.2
          have hvs : v.cells.size = size := by rw [← Array.length_toList, hf1.1, hf3]
          have hal : arr.toList.length = cells.length := hr.1
          have hr' : Reps w I (arr.toList.take off ++ v.cells.toList ++ arr.toList.drop (off + size)) (cells.take off ++ flatDV y ++ cells.drop (off + size)) :=
            Pw.append (Pw.append (hr.take off) hf1) (hr.drop (off + size))
          obtain ⟨arr', ha, hra, h1a⟩ := ih vs (arr.toList.take off ++ v.cells.toList ++ arr.toList.drop (off + size)).toArray _ cells' (by simpa using hr') (by
            intro x hx
            simp only [List.mem_append] at hx
            rcases hx with (hx | hx) | hx
            · exact h1 x (List.mem_of_mem_take hx)
            · exact hf2 x hx
            · exact h1 x (List.mem_of_mem_drop hx)) ⟨by have := hp.1; simpa using this, fun j a b ha hb => hp.2 (j + 1) a b (by simpa using ha) (by simpa using hb)⟩ hf
          refine ⟨arr', ?_, hra, h1a⟩
          rw [fill_one (off := off) (size := size) hpl hvs (by rw [← Array.length_toList, hal]; exact hle)]
          exact ha
        · cases hf

def dvP (S : AState) : List (Nat × Operand) → Option (List (Nat × DV))
  | [] => some []
  | (i, x) :: r => match S.ev x, dvP S r with
    | .d y, some ys => some ((i, y) :: ys)
    | _, _ => none
theorem dvP_holds {A : Act} {w : World} {I : Im} {ρ : Nat → Value} {C : Nat → Prop} (hs : SatAt E S A w I ρ C) : ∀ {ps : List (Nat × Operand)} {ds : List (Nat × DV)}, dvP S ps = some ds →
    Pw (fun (v : Nat × Value) (y : Nat × DV) => v.1 = y.1 ∧ Rep w I v.2 y.2) (ps.map fun p => (p.1, A.eval p.2)) ds
  | [], ds, h => by simp [dvP] at h; subst h; exact Pw.nil
  | (i, x) :: r, ds, h => by
    simp only [dvP] at h
    split at h
    · rename_i y ys hy hys
      cases h
      have hv := hs.ev x
      rw [hy] at hv
      exact Pw.cons ⟨rfl, hv⟩ (dvP_holds hs hys)
    · cases h
theorem dvP_agree {S' : AState} {o : Oper} (ha : Agree S S' o) : ∀ {ps : List (Nat × Operand)}, (∀ p ∈ ps, p.2 ∈ o.op.operands) → dvP S' ps = dvP S ps
  | [], _ => rfl
  | (i, x) :: r, h => by
    simp only [dvP]
    rw [ha.ev (h (i, x) (by simp)), dvP_agree ha fun p hp => h p (by simp [hp])]

theorem m_build {t : TypeId} {places : List (Nat × Nat)} {zs : List Value} {ps : List (Nat × Operand)} {ds : List (Nat × DV)} {cells : List DV} (hn : d < E.n) (hT : StTy P t places zs) (hds : dvP S ps = some ds) (hf : fillD places (zs.map DV.v) ds = some cells) :
    AOp P r E S ⟨some d, .build t ps.toArray, ty, pos, af, g⟩ d (.d (.agg cells)) :=
  ⟨rfl, hn, fun S' ha => step_value rfl hn (by simp) fun A w I ρ C hs => by
    obtain ⟨fields, hu, hp⟩ := hT.und
    have hds' : dvP S' ps = some ds := (dvP_agree ha (fun p hp => by simp only [Op.operands]; simp; exact ⟨p.1, hp⟩)).trans hds
    obtain ⟨arr', h1, h2, h3⟩ := fill_rep (places := places) ds (ps.map fun p => (p.1, A.eval p.2)) zs.toArray (zs.map DV.v) cells (by simpa using reps_v w I zs) (by simpa using hT.one) (dvP_holds hs hds') hf
    refine ⟨.agg arr', ?_, by have := Rep.agg (w := w) (I := I) arr'.toList cells h2.1 h3 h2.2; rw [Array.toArray_toList] at this; exact this⟩
    have hz := hT.zero w
    simp only [execOp, Instr.build, List.map_toArray, Sem.run_bind, hz, Result.andThen_ok, run_underlying hu, hp w, Value.cells, List.getElem?_toArray, h1, Sem.run_pure]⟩
end
end Go.AV

/- The layer of abstract values: what a temporary holds, said once; every rule of it is proved from the model. Conditions: none. -/
import Derived.Test.YtgeaoceiacdadaaDoorAv15
set_option linter.unusedSimpArgs false
set_option linter.unusedVariables false
set_option linter.unnecessarySimpa false
namespace Go.AV
open Go.RowKit
/-! ## Structs -/
/-- The field k of the struct type s: at 'off', of type t with n cells. -/
structure FldTy (P : Program) (s k off n : Nat) (t : TypeId) : Prop where
  fld : ∃ fields f, P.underlying s = some (.struct fields) ∧ fields[k]? = some f ∧ f.offset = off ∧ f.type = t
  size : ∀ w, (sizeOf t).run P w = .ok n w
  pos : 0 < n

theorem run_fieldAt {P : Program} {s k off n : Nat} {t : TypeId} (h : FldTy P s k off n t) (w : World) (b o : Nat) :
    (Instr.fieldAt s (.pointer (some ⟨b, o, none⟩)) k).run P w = .ok (.pointer (some ⟨b, o + off, none⟩)) w := by
  obtain ⟨fields, f, hu, hf, rfl, rfl⟩ := h.fld
  have hp := h.pos
  have hs := h.size w
  have hne : ¬ n = 0 := by omega
  have hadd : (⟨b, o, none⟩ : Addr).add f.offset = ⟨b, o + f.offset, none⟩ := by
    unfold Addr.add; split
    · rename_i e; rw [e]; rfl
    · rfl
  simp [Instr.fieldAt, run_underlying hu, hf, Instr.sureAddr, fieldPlace, hs, hne, hadd]
theorem box_reps {w : World} {I : Im} {ρ : Nat → Value} {cells : List AV} {ds : List DV} {xs : List Value} (hpw : Pw (Holds w I ρ) xs cells) (hd : unD cells = some ds) : Reps w I xs ds := by
  induction cells generalizing xs ds with
  | nil => simp [unD] at hd; subst hd; have : xs = [] := List.eq_nil_of_length_eq_zero hpw.1; subst this; exact Pw.nil
  | cons c cells ih =>
    cases xs with
    | nil => have := hpw.1; simp at this
    | cons x xs =>
      cases c with
      | d y =>
        simp only [unD] at hd
        cases hu : unD cells with
        | none => simp [hu] at hd
        | some ys =>
          simp [hu] at hd
          subst hd
          exact Pw.cons (hpw.2 0 x (.d y) rfl rfl) (ih ⟨by have := hpw.1; simpa using this, fun j u z hu hz => hpw.2 (j + 1) u z (by simpa using hu) (by simpa using hz)⟩ hu)
      | _ => simp [unD] at hd
theorem pw_d {w : World} {I : Im} {ρ : Nat → Value} {ds : List DV} {xs : List Value} (h : Reps w I xs ds) : Pw (Holds w I ρ) xs (ds.map AV.d) := by
  refine ⟨by rw [h.1, List.length_map], fun j x c hx hc => ?_⟩
  simp only [List.getElem?_map, Option.map_eq_some_iff] at hc
  obtain ⟨y, hy, rfl⟩ := hc
  exact h.2 j x y hx hy
section
variable {P : Program} {r : Option Nat} {E : Env} {S : AState} {d : Nat} {ty : TypeId} {pos : String} {af : Array Edge} {g : Option (Nat × Bool)}
theorem a_fieldAddr_ptr {s k off n id o : Nat} {t : TypeId} {x : Operand} (hn : d < E.n) (hT : FldTy P s k off n t) (hx : S.ev x = .ptr id o) :
    AOp P r E S ⟨some d, .fieldAddr s x k, ty, pos, af, g⟩ d (.ptr id (o + off)) :=
  ⟨rfl, hn, fun S' ha => step_value rfl hn (by simp) fun A w I ρ C hs => by
    have h := hs.ev x
    rw [(ha.ev (by simp [Op.operands])).trans hx] at h
    obtain ⟨b, hρ, hv⟩ := h
    refine ⟨.pointer (some ⟨b, o + off, none⟩), ?_, b, hρ, rfl⟩
    simp only [execOp, hv, Sem.run_bind, run_fieldAt hT w b o]
    rfl⟩
theorem a_fieldAddr_ip {s k off n o : Nat} {t : TypeId} {x : Operand} {cells : List DV} (hn : d < E.n) (hT : FldTy P s k off n t) (hx : S.ev x = .ip cells o) :
    AOp P r E S ⟨some d, .fieldAddr s x k, ty, pos, af, g⟩ d (.ip cells (o + off)) :=
  ⟨rfl, hn, fun S' ha => step_value rfl hn (by simp) fun A w I ρ C hs => by
    have h := hs.ev x
    rw [(ha.ev (by simp [Op.operands])).trans hx] at h
    obtain ⟨b, o', xs, hv, hr, h1, hcc⟩ := h
    refine ⟨.pointer (some ⟨b, o' + (o + off), none⟩), ?_, b, o', xs, rfl, hr, h1, hcc⟩
    simp only [execOp, hv, Sem.run_bind, run_fieldAt hT w b (o' + o), Nat.add_assoc]
    rfl⟩
/-- The whole struct out of a variable that holds data. -/
theorem a_load_boxA {t n id eb : Nat} {x : Operand} {cells : List AV} {ds : List DV} (hn : d < E.n) (hT : AggTy P t n) (hx : S.ev x = .ptr id 0) (hb : S.blk id = .box eb cells) (hd : unD cells = some ds) (hl : cells.length = n) :
    AOp P r E S ⟨some d, .load t x, ty, pos, af, g⟩ d (.d (.agg ds)) :=
  ⟨rfl, hn, fun S' ha => step_value rfl hn (by simp) fun A w I ρ C hs => by
    have h := hs.ev x
    rw [(ha.ev (by simp [Op.operands])).trans hx] at h
    obtain ⟨b, hρ, hv⟩ := h
    have hbk := hs.blks id
    rw [(ha.blk id).trans hb] at hbk
    obtain ⟨b', arr, hρ', hB, hh, h1, hr, hI⟩ := hbk
    rw [hρ'] at hρ
    simp [blockOf] at hρ
    subst hρ
    have hreps : Reps w I arr.toList ds := box_reps hr hd
    have hlen : arr.toList.length = n := by rw [hr.1]; exact hl
    refine ⟨.agg arr.toList.toArray, ?_, .agg _ _ hreps.1 (fun u hu => h1 u hu) hreps.2⟩
    simp only [execOp, hv, Sem.run_bind]
    rw [run_loadAgg w hT b' 0 arr.toList hlen (fun j v hj => by rw [cell_of_row w b' _ arr eb (0, 0) hh]; simpa using hj)]
    rfl⟩
/-- A struct as a variable. -/
theorem s_box_agg {elem : TypeId} {x : Operand} {ds : List DV} (hn : d < E.n) (hx : S.ev x = .d (.agg ds)) (hnm : E.nm d = none) :
    Step P r E ⟨some d, .box elem x, ty, pos, af, g⟩ S (((S.kill d).setBlk d (.box elem (ds.map AV.d))).put d (.ptr d 0)) :=
  step_run (by simp) fun A w I ρ C hs => by
    have h := hs.ev x
    rw [hx] at h
    have h' : Rep w I (A.eval x) (.agg ds) := h
    generalize hv : A.eval x = v at h'
    cases h' with
    | agg xs cells hlx h1 hr =>
      have hb := hs.newBox (id := d) (e := elem) (arr := xs.toArray) (cells := ds.map AV.d) (pw_d ⟨hlx, hr⟩) (by simpa using h1) hnm
      have hkill : (ds.map AV.d).map (killAV d) = ds.map AV.d := by
        rw [List.map_map]; rfl
      rw [hkill] at hb
      refine ⟨.pointer (some ⟨w.heap.size, 0, none⟩), w.alloc (.cells xs.toArray elem), ?_, I, _, C, hb.put hn (show Holds _ _ _ (.pointer (some ⟨w.heap.size, 0, none⟩)) (AV.ptr d 0) from ⟨w.heap.size, by simp [upd, blockOf], rfl⟩)⟩
      simp only [execOp, hv, Instr.box, newVar]
      simp [newRow, Value.cells]
/-- A field of a struct that is at hand: one cell. -/
theorem a_field {s k off : Nat} {t : TypeId} {x : Operand} {cells : List DV} {y : DV} (hn : d < E.n) (hT : FldTy P s k off 1 t) (h1 : OneTy P t) (hx : S.ev x = .d (.agg cells)) (hc : cells[off]? = some y) :
    AOp P r E S ⟨some d, .field s x k, ty, pos, af, g⟩ d (.d y) :=
  ⟨rfl, hn, fun S' ha => step_value rfl hn (by simp) fun A w I ρ C hs => by
    have h := hs.ev x
    rw [(ha.ev (by simp [Op.operands])).trans hx] at h
    have h' : Rep w I (A.eval x) (.agg cells) := h
    generalize hv : A.eval x = v at h'
    cases h' with
    | agg xs cells hlx ho hr =>
      obtain ⟨fields, f, hu, hf, rfl, rfl⟩ := hT.fld
      have hlt : f.offset < xs.length := by rw [hlx]; exact (List.getElem?_eq_some_iff.1 hc).1
      have hxe := List.getElem?_eq_getElem hlt
      refine ⟨xs[f.offset], ?_, hr f.offset _ y hxe hc⟩
      simp [execOp, hv, Instr.field, run_underlying hu, hf, asAgg, part, h1.agg, hlt]⟩
end
end Go.AV

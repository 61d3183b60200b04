/- The layer of abstract values: what a temporary holds, said once; every rule of it is proved from the model. Conditions: none. -/
import Derived.Test.YtgeaoceiacdadaaDoorAv32
set_option linter.unusedSimpArgs false
set_option linter.unusedVariables false
set_option linter.unnecessarySimpa false
namespace Go.AV
open Go.RowKit Go.M

/-- A pointer to something that is written no more. -/
def ePt {α : Type} (en : En α) : En α := ⟨fun x => .pt (en.cells x), 1, fun _ => rfl⟩
/-- A map that is written no more. -/
def eM {κ ν : Type} (kv : κ → Value) (ev : En ν) : En (List (κ × ν)) := ⟨mpD kv ev, 1, fun _ => rfl⟩

theorem all_ne {α : Type} {en : En α} {x : α} {l : List α} (h : 0 < en.size) : en.all (x :: l) ≠ [] := by
  intro hc
  have := congrArg List.length hc
  rw [all_len, List.length_cons, List.length_nil, Nat.add_mul] at this
  omega

theorem run_forUnit {P : Program} {α : Type} {w : World} {F : α → PUnit → Sem (ForInStep PUnit)} : ∀ (fs : List α), (∀ f ∈ fs, (F f ()).run P w = .ok (.yield ()) w) → (forIn fs () F).run P w = .ok () w
  | [], _ => by simp
  | f :: fs, h => by
    have ih := run_forUnit fs fun g hg => h g (by simp [hg])
    rw [List.forIn_cons]
    simp only [Sem.run_bind, h f (by simp), Result.andThen_ok, ih]

def plainTy : TypeDesc → Bool
  | .int _ | .string | .bool => true
  | _ => false
theorem check_plain {P : Program} {t : TypeId} {ds : TypeDesc} (hu : P.underlying t = some ds) (hp : plainTy ds = true) (v : Value) (n : Nat) (b : Bool) (w : World) : (Instr.checkKey b (n + 1) t v).run P w = .ok () w := by
  simp only [Instr.checkKey, Sem.run_bind, run_underlying hu, Result.andThen_ok]
  cases ds <;> first | (simp [plainTy] at hp; done) | (cases v <;> rfl)

theorem check_arr {P : Program} {kt e : TypeId} {n : Nat} {zs vals : List Value} {ds : TypeDesc} (hT : ArTy P kt n 1 e zs) (ho : OneTy P e) (hu : P.underlying e = some ds) (hp : plainTy ds = true) (hl : vals.length = n) (b : Bool) (w : World) : (Instr.checkKey b 10000 kt (.agg vals.toArray)).run P w = .ok () w := by
  show (Instr.checkKey b (9999 + 1) kt (.agg vals.toArray)).run P w = _
  rw [Instr.checkKey]
  simp only [Sem.run_bind, run_underlying hT.und, Result.andThen_ok]
  rw [Std.Legacy.Range.forIn_eq_forIn_range']
  have hsz : (Std.Legacy.Range.size [0:n]) = n := by simp [Std.Legacy.Range.size]
  simp only [hsz]
  rw [← List.range_eq_range']
  refine (congrArg (fun q => Result.andThen q _) (run_forUnit _ fun i hi => ?_)).trans (by simp)
  have hi' : i < n := List.mem_range.1 hi
  have hpart : (part e vals.toArray i).run P w = .ok (vals[i]'(by omega)) w := run_part ho.agg (by simp [hl, hi']) w
  simp only [Sem.run_bind, hT.size w, Result.andThen_ok, Nat.mul_one, hpart]
  have := check_plain hu hp (vals[i]'(by omega)) 9998 b w
  simp only [show (9998 + 1) = 9999 from rfl] at this
  simp [this]

theorem check_str' {P : Program} {kt : TypeId} {fields : Array Field} {vals : List Value} (hu : P.underlying kt = some (.struct fields))
    (hf : ∀ f ∈ fields.toList, OneTy P f.type ∧ (∃ ds, P.underlying f.type = some ds ∧ plainTy ds = true) ∧ f.offset < vals.length) (b : Bool) (w : World) : (Instr.checkKey b 10000 kt (.agg vals.toArray)).run P w = .ok () w := by
  show (Instr.checkKey b (9999 + 1) kt (.agg vals.toArray)).run P w = _
  rw [Instr.checkKey]
  simp only [Sem.run_bind, run_underlying hu, Result.andThen_ok]
  rw [← Array.forIn_toList]
  refine (congrArg (fun q => Result.andThen q _) (run_forUnit _ fun f hi => ?_)).trans (by simp)
  obtain ⟨h1, ⟨ds, h2, h3⟩, h4⟩ := hf f hi
  have := check_plain h2 h3 (vals[f.offset]'h4) 9998 b w
  simp only [show (9998 + 1) = 9999 from rfl] at this
  have hpart : (part f.type vals.toArray f.offset).run P w = .ok (vals[f.offset]'h4) w := run_part h1.agg (by simp [h4]) w
  by_cases hn : f.name = "_"
  · simp [hn]
  · simp only [ne_eq, hn, not_false_eq_true, if_true, Sem.run_bind, hpart, Result.andThen_ok, this]
    rfl

section
variable {P : Program} {r : Option Nat} {E : Env} {S : AState} {d : Nat} {ty : TypeId} {pos : String} {af : Array Edge} {g : Option (Nat × Bool)}
/-- A nil slice in a cell of a variable is an empty list. -/
theorem weak_nilbox_d {bid eb off : Nat} {cells : List AV} (size : Nat) (hb : S.blk bid = .box eb cells) (hc : cells[off]? = some (.d (.v (.slice none 0 0)))) : Weak E S (S.setBlk bid (.box eb (cells.set off (.d (.sl size []))))) := by
  rintro a w ⟨I, ρ, C, h⟩
  refine ⟨I, ρ, C, h.rebox (eb := eb) (cells := cells) hb fun xs hx => hx.set_right hc fun x hx2 => ?_⟩
  have h' : Rep w I x (.v (.slice none 0 0)) := hx2
  cases h'
  exact Rep.nil _ _ _
/-- 'copy(k[1:], codes)' into an array of nine. -/
theorem m_copy8 {t e bytes : Nat} {z : Value} {x y : Operand} {id eb : Nat} {q x0 x1 x2 x3 x4 x5 x6 x7 : Int} {l : List Int} (hn : d < E.n) (hT : SlTy P t e eI.size bytes z) (hx : S.ev x = .rs id 1 8)
    (hb : S.blk id = .box eb [.d (di q), .d (di x0), .d (di x1), .d (di x2), .d (di x3), .d (di x4), .d (di x5), .d (di x6), .d (di x7)]) (hy : S.ev y = .d (dsl eI l)) (hE : E.wrB = true) :
    Step P r E ⟨some d, .call { callee := .builtin .copy, args := #[x, y], argTypes := #[t, t] }, ty, pos, af, g⟩ S
      ((S.setBlk id (.box eb [.d (di q), .d (di (cpA l 0 x0)), .d (di (cpA l 1 x1)), .d (di (cpA l 2 x2)), .d (di (cpA l 3 x3)), .d (di (cpA l 4 x4)), .d (di (cpA l 5 x5)), .d (di (cpA l 6 x6)), .d (di (cpA l 7 x7))])).put d (.d (.v (.int .i64 (min l.length 8 : Nat))))) := by
  have hml : (eI.all l).length = l.length := by rw [all_len]; exact Nat.mul_one _
  have := s_copy_box (P := P) (r := r) (ty := ty) (pos := pos) (af := af) (g := g) hn hT hx hb (by simp) (by omega) hy hml hE
  have e1 := spl8 l q x0 x1 x2 x3 x4 x5 x6 x7
  simp only [List.map_cons, List.map_nil] at e1
  rw [e1] at this
  exact this
end
end Go.AV

/- The layer of abstract values: what a temporary holds, said once; every rule of it is proved from the model. Conditions: none. -/
import Derived.Test.YtgeaoceiacdadaaDoorAv14
set_option linter.unusedSimpArgs false
set_option linter.unusedVariables false
set_option linter.unnecessarySimpa false
namespace Go.AV
open Go.RowKit
theorem run_equal_bool {P : Program} {tx : TypeId} (hu : P.underlying tx = some .bool) (a b : Bool) (w : World) : (Op.equal tx (.bool a) (.bool b)).run P w = .ok (a == b) w := by
  show (Op.equalIn (9999 + 1) tx (.bool a) (.bool b)).run P w = _
  unfold Op.equalIn
  simp only [Sem.run_bind, run_underlying hu, Result.andThen_ok]
  rfl
section
variable {P : Program} {r : Option Nat} {E : Env} {S : AState} {d : Nat} {ty : TypeId} {pos : String} {af : Array Edge} {g : Option (Nat × Bool)}
/-- == on bools. -/
theorem a_beql {x y : Operand} {a b : Bool} {tx tz : TypeId} (hn : d < E.n) (hu : P.underlying tx = some .bool) (hx : S.ev x = .d (.v (.bool a))) (hy : S.ev y = .d (.v (.bool b))) :
    AOp P r E S ⟨some d, .binOp .eql tx x y tz, ty, pos, af, g⟩ d (.d (.v (.bool (a == b)))) :=
  ⟨rfl, hn, fun _ h => step_val rfl hn (by simp) fun A w I ρ C hs => by
    simp only [execOp, hs.val ((h.ev (by simp [Op.operands])).trans hx), hs.val ((h.ev (by simp [Op.operands])).trans hy)]
    have hb : binOp .eql tx (.bool a) (.bool b) = (do pure (.bool (← Op.equal tx (.bool a) (.bool b)))) := rfl
    have hg : eqGuard .eql tx x y (.bool a) (.bool b) = pure () := rfl
    rw [hb, hg]
    simp only [Sem.run_bind, Sem.run_pure, Result.andThen_ok, run_equal_bool hu]⟩
end
end Go.AV

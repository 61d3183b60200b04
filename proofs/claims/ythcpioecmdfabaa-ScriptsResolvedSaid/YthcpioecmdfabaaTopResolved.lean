/- ScriptsResolved returns true. Conditions: none: for every input. (The frame follows the kit's shell of a law's proof; the walk is by the contract.) -/
import Derived.Test.YthcpioecmdfabaaRows
import Derived.Test.YthcpioecmdfabaaWk2
import Derived.Test.YthcpioecmdfabaaOpn
import Derived.Test.YthcpioecmdfabaaPS8
import Derived.WalkKit
import Derived.ProofKit
import Derived.OpenShut
import Derived.ShutString
import Derived.ChangeOld
import Derived.Below
set_option linter.unusedSimpArgs false
set_option linter.unusedVariables false
set_option linter.unnecessarySimpa false
set_option linter.unusedSimpArgs false
set_option linter.unusedVariables false
set_option linter.unnecessarySimpa false
namespace Go.Proofs.Ythcpioecmdfabaa.scriptsResolved
open Go.AV Go.M
open Go.ChangeShapes Go.WideShapes Go.ChangeAt Go.RowKit
open Go.ChangeMaps (open_string shut_string)

theorem own : ownKnob Try.prog.godebug = none := by kernel_rfl
theorem laidOut : laidOutB Try.prog = true := by kernel_rfl

theorem Op45 : Opens Try.prog 45 eSpan okSpan := by
  intro H enc w base spare held fuel cs x h
  obtain ⟨a0, q0, r0, o0⟩ := open_part Try.underlying45 h (k := 0) (en := eI) rfl (by kernel_rfl) (opens_i64 Try.underlying3)
  obtain ⟨a1, q1, r1, o1⟩ := open_part Try.underlying45 h (k := 1) (en := eI) rfl (by kernel_rfl) (opens_i64 Try.underlying3)
  obtain ⟨a2, q2, r2, o2⟩ := open_part Try.underlying45 h (k := 2) (en := eI) rfl (by kernel_rfl) (opens_i64 Try.underlying3)
  have hl : cs.length = 3 := (struct_len Try.underlying45 h).trans (by kernel_rfl)
  exact ⟨⟨a0, a1, a2⟩, ⟨q0, q1, q2⟩, (parts_cons (off := 0) r0 o0 (parts_cons r1 o1 (parts_cons r2 o2 (parts_nil hl))))⟩
theorem Op25 : Opens Try.prog 25 eProperty okProperty := by
  intro H enc w base spare held fuel cs x h
  obtain ⟨a0, q0, r0, o0⟩ := open_part Try.underlying25 h (k := 0) (en := (eL eS)) rfl (by kernel_rfl) (opens_slice Try.underlying22 (by kernel_rfl) (by decide) (opens_str Try.underlying9))
  obtain ⟨a1, q1, r1, o1⟩ := open_part Try.underlying25 h (k := 1) (en := (eL eSpan)) rfl (by kernel_rfl) (opens_slice Try.underlying23 (by kernel_rfl) (by decide) Op45)
  have hl : cs.length = 2 := (struct_len Try.underlying25 h).trans (by kernel_rfl)
  exact ⟨⟨a0, a1⟩, ⟨q0, q1⟩, (parts_cons (off := 0) r0 o0 (parts_cons r1 o1 (parts_nil hl)))⟩

set_option maxRecDepth 100000 in
theorem lifted (os : Os) (started : os.Started) (H : Type) (enc : TypeId × Value → H) :
    ReturnsInHanded {} Try.checked os 9 .any (Rows.scriptsResolvedSpec.pre6 enc Try.prog Try.f9 Rows.scriptsResolvedRow.domain false) (Rows.scriptsResolvedSpec.post enc Try.prog Try.f9 false true false false) := by
  refine returnsInHanded_of_change (C := Try.checked) own started (by kernel_rfl) Try.func9
    (ChangeSpec.witness6 (enc := enc) (C := Try.checked) false ⟨#[], #[(.agg #[(.slice none 0 0), (.slice none 0 0)]), (.slice none 0 0)], []⟩ 8 (by kernel_rfl) (by kernel_rfl) (by kernel_rfl) (by kernel_rfl)) ?_
  intro W base args ds gs before hval0 hW hcnd _
  have hval : ∀ (j : Nat) t v, Try.f9.params[j]? = some t → args[j]? = some v → Value.okWide Try.prog W .any base t v := hval0
  have hW' := hW
  obtain ⟨p, q, hA0, hV, rfl, hfz, hnd⟩ := hW
  have hA : DataW.TrodAll enc Try.prog W 0 (fun _ => true) true Try.f9.params.toList args.toList ds p := hA0
  rw [Try.params9] at hA hval
  obtain ⟨v0, vs0, d0, ds0, p0, q0, hargs, rfl, rfl, h0, r0⟩ := trodAll_cons hA
  obtain ⟨v1, vs1, d1, ds1, p1, q1, rfl, rfl, rfl, h1, r1⟩ := trodAll_cons r0
  obtain ⟨rfl, rfl, rfl⟩ := trodAll_nil r1
  obtain rfl : args = #[v0, v1] := by cases args; simp_all
  obtain ⟨rfl, rfl⟩ := trodVars_none hV
  have k0 := h0
  have lt0 : ∀ x ∈ p0, x.block < W.heap.size := by obtain ⟨m, hm⟩ := k0; exact DataW.trod_lt m _ _ _ hm
  obtain ⟨cs0, e0, _⟩ := okWide_struct Try.underlying25 (hval 0 25 v0 rfl rfl)
  obtain ⟨x0, ok0, rep0⟩ := arg_rep (en := eProperty) Op25 h0 (.inr ⟨cs0, e0, fun _ => ⟨_, rfl⟩⟩)
  have k1 := h1
  have lt1 : ∀ x ∈ p1, x.block < W.heap.size := by obtain ⟨m, hm⟩ := k1; exact DataW.trod_lt m _ _ _ hm
  obtain ⟨_, _, _, e1⟩ := okWide_slice Try.underlying26 (hval 1 26 v1 rfl rfl)
  obtain ⟨x1, ok1, rep1⟩ := arg_rep (en := (eL eI)) (opens_slice Try.underlying26 (by kernel_rfl) (by decide) (opens_i64 Try.underlying3)) h1 (.inl ⟨by rw [e1]; rfl, rfl, fun _ => rfl⟩)
  clear hA0 hval0
  have hwalk : Calls Try.prog 9 #[v0, v1] W fun e w' => e = .returned (.bool true) ∧ Below W.heap.size W w' :=
    top_law (Walk.law40_ScriptsResolved_c (Go.M.law40_ScriptsResolved_true x0 x1 ok0 ok1)) (w := W) (vs := [v0, v1]) (reps_cons rep0 (reps_cons rep1 (reps_nil _ _)))
  refine hwalk.mono fun e W' ⟨he, bel⟩ => ?_
  subst he
  exact ⟨_, rfl, _, _, _, [], _, [], hW', trodAll_mk1 (shut_bool Try.underlying4 _), (trodAll_cons_mk (Below.trod laidOut (by kernel_rfl) (of_decide_eq_true (by kernel_rfl)) k0 bel lt0) (trodAll_cons_mk (Below.trod laidOut (by kernel_rfl) (of_decide_eq_true (by kernel_rfl)) k1 bel lt1) trodAll_mk0)), rfl, bel.frame _, fun h => by cases h⟩

theorem over : Rows.scriptsResolvedRow.holds Try.pinned (OpenSpec.ofChange Rows.scriptsResolvedSpec) :=
  OpenClaim.holds_of_wide 9 Try.f9 rfl rfl rfl rfl rfl rfl rfl ⟨rfl, rfl, rfl, rfl, rfl⟩ rfl rfl rfl rfl rfl (by kernel_rfl) Try.func9 (by kernel_rfl)
    (of_decide_eq_true (by kernel_rfl)) (by unfold Func.isWrapper; first | (rw [if_pos (by decide +kernel)]; kernel_rfl) | (rw [if_neg (by decide +kernel)]; exact ⟨rfl, rfl⟩))
    (fun os started H enc _ => lifted os started H enc)

/-- THE STATEMENT -/
theorem proved : Rows.ScriptsResolvedSaid := over
#print axioms proved
end Go.Proofs.Ythcpioecmdfabaa.scriptsResolved

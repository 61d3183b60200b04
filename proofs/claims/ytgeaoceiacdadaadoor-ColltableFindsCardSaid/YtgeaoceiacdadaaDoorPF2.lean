/- What the plain counterparts answer. Conditions: none. -/
import Derived.Test.YtgeaoceiacdadaaDoorPF1
set_option linter.unusedSimpArgs false
set_option linter.unusedVariables false
set_option linter.unnecessarySimpa false
namespace Go.M
open Go.AV

theorem app0 {α : Type} {l : List α} (h : l.length ≤ 1000) : app [] l = some l := by
  rw [app_ok (by simp; omega)]
  rfl
theorem refdata_eq {c : Collation} (hs : Sm c) (hn : ∀ g ∈ c.Groups, g.Name.length ≤ MX) : ref43_Data c = some (datE c) := by
  unfold ref43_Data datE
  rw [refcheck_eq hs hn, some_bind]
  by_cases hz : ckE c = 0 <;> simp [hz]
theorem equal_eq {a b : List Int} (ha : a.length ≤ 1000) : ref01_Equal a b = some (decide (a = b)) := by
  unfold ref01_Equal
  rw [refcompare_eq ha, some_bind, cmpE_R]
  congr 1
  rw [Bool.eq_iff_iff]
  simp only [decide_eq_true_eq]
  exact (cmpR_spec a b 0).2
theorem chk_find (codes : List Int) : ∀ (es : List Entry) (k : Nat), chk (fun _ (x : Entry) => if x.Codes = codes then some (true, x.Elements) else none) es k = (es.find? (fun x => decide (x.Codes = codes))).map fun x => (true, x.Elements)
  | [], _ => rfl
  | x :: es, k => by
    simp only [chk, List.find?_cons]
    by_cases h : x.Codes = codes
    · simp [h]
    · simp only [h, if_false, decide_false]; exact chk_find codes es (k + 1)
theorem reffind_eq {es : List Entry} (hv : Vd es) (hl : es.length ≤ 1000) {d : Collation} (hd : d.Entries = es) (codes : List Int) : ref43_find d codes = some (finE es codes) := by
  have hloop : loopM (fun (v : Int) => ref43_find_L0 d codes v) 0 = some (toS (chk (fun _ (x : Entry) => if x.Codes = codes then some (true, x.Elements) else none) es 0)) := by
    subst hd
    refine loop_chk0 d.Entries _ (fun k h => ?_) (fun k h => ?_)
    · have hx := List.getElem_mem h
      have e8 := hv.hi _ hx
      simp only [ref43_find_L0, lt_t h, cond_true, idx_nat h, some_bind, equal_eq (Nat.le_trans e8 (by omega)), wi_succ (k := k) (by omega)]
      by_cases hq : (d.Entries[k]).Codes = codes
      · rw [app0 (Nat.le_trans (hv.el _ hx) (by omega))]
        simp [hq, stp, some_bind]
      · simp [hq, stp]
    · simp only [ref43_find_L0, lt_f h, cond_false]
  unfold ref43_find finE
  rw [hloop, some_bind, toS_elim, chk_find]
  cases es.find? (fun x => decide (x.Codes = codes)) <;> rfl
theorem dat_len {c : Collation} (hs : Sm c) : (datE c).Entries.length ≤ 1000 := by
  unfold datE
  have := hs.en
  by_cases hz : ckE c = 0
  · simp only [hz, if_true]; omega
  · simp [hz]
theorem same_eq {a : List Element} (ha : a.length ≤ 1000) : ref43_Same a a = some true := by
  unfold ref43_Same
  have hl : loopM (fun (v : Int) => ref43_Same_L0 a a v) 0 = some (toS (chk (fun _ (_ : Element) => (none : Option Bool)) a 0)) := by
    refine loop_chk0 a _ (fun k h => ?_) (fun k h => ?_)
    · simp only [ref43_Same_L0, lt_t h, cond_true, idx_nat h, some_bind, decide_true, Bool.not_true, cond_false, wi_succ (k := k) (by omega), stp]
    · simp only [ref43_Same_L0, lt_f h, cond_false]
  have hn : ∀ (l : List Element) (k : Nat), chk (fun _ (_ : Element) => (none : Option Bool)) l k = none := by
    intro l
    induction l with
    | nil => intro k; rfl
    | cons x l ih => intro k; exact ih (k + 1)
  simp only [decide_true, Bool.not_true, cond_false, hl, some_bind, hn, toS]
  rfl
theorem fin_len {es : List Entry} (hv : Vd es) (codes : List Int) : (finE es codes).1.length ≤ 1000 := by
  unfold finE
  cases h : es.find? (fun x => decide (x.Codes = codes)) with
  | none => simp
  | some x => exact Nat.le_trans (hv.el x (List.mem_of_find?_eq_some h)) (by omega)
def impE (d : Collation) (code : Int) : List Element := if vld code = true then
  [({ Primary := wi (d.Base + wi (code.tdiv 32768)), Secondary := d.Second, Tertiary := d.Third, Variable := false } : Element), ({ Primary := wi (32768 + code.tmod 32768), Secondary := 0, Tertiary := 0, Variable := false } : Element)] else []
theorem implicit_eq (c : Collation) (code : Int) : colltable_table_implicit (tblE c) code = some (impE (datE c) code) := by
  unfold colltable_table_implicit impE
  rw [valid_eq, some_bind]
  cases vld code <;> simp [divM, remM, tblE]
theorem refimplicit_eq {c : Collation} (hs : Sm c) (hn : ∀ g ∈ c.Groups, g.Name.length ≤ MX) (code : Int) : ref43_Implicit c code = some (impE (datE c) code) := by
  unfold ref43_Implicit impE
  rw [refvalid_eq, some_bind, refdata_eq hs hn]
  cases vld code <;> simp [divM, remM]
theorem imp_len (d : Collation) (code : Int) : (impE d code).length ≤ 1000 := by
  unfold impE
  cases vld code <;> simp
theorem law43_ColltableFinds_true (c : Collation) (codes : List Int) (code : Int) (ok : okCollation c) (_ok1 : codes.length ≤ 9223372036854775807 ∧ ∀ y0 ∈ codes, (-9223372036854775808 ≤ y0 ∧ y0 ≤ 9223372036854775807)) (_ok2 : -9223372036854775808 ≤ code ∧ code ≤ 9223372036854775807) :
    law43_ColltableFinds c codes code = some true := by
  unfold law43_ColltableFinds
  rw [small_eq, some_bind, pv_bind]
  by_cases hq : (!smB c || decide (12 < (codes.length : Int))) = true
  · rw [hq, cond_true, alive43]; rfl
  · simp only [Bool.not_eq_true] at hq
    rw [hq, cond_false]
    have hsb : smB c = true := by
      cases h : smB c with
      | true => rfl
      | false => rw [h] at hq; simp at hq
    have hs := smB_sm hsb
    have hn := okNames ok
    have hv := dat_vd hs
    have hF : colltable_Find c codes = some (finE (datE c).Entries codes) := by
      unfold colltable_Find slices_Clone_api_Element_api_Element
      rw [made_eq hs hn, some_bind, find_eq hs, some_bind, app0 (fin_len hv codes)]
      rfl
    have hR : ref43_Find c codes = some (finE (datE c).Entries codes) := by
      unfold ref43_Find
      rw [refdata_eq hs hn, some_bind, reffind_eq hv (dat_len hs) rfl]
      rfl
    have hI : colltable_Implicit c code = some (impE (datE c) code) := by
      unfold colltable_Implicit
      rw [made_eq hs hn, some_bind, implicit_eq]
      rfl
    rw [hF, some_bind, hR, some_bind, same_eq (fin_len hv codes), some_bind]
    simp only [pv_bind, beq_self_eq_true, Bool.and_self, gM_t, hI, some_bind, refimplicit_eq hs hn, same_eq (imp_len _ _), alive43]
end Go.M

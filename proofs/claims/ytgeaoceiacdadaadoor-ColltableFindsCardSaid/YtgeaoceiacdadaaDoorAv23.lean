/- The layer of abstract values: what a temporary holds, said once; every rule of it is proved from the model. Conditions: none. -/
import Derived.Test.YtgeaoceiacdadaaDoorAv22
set_option linter.unusedSimpArgs false
set_option linter.unusedVariables false
set_option linter.unnecessarySimpa false
namespace Go.AV
open Go.RowKit Go.M

abbrev wi (n : Int) : Int := IntKind.i64.wrap n
abbrev wu (n : Int) : Int := IntKind.u64.wrap n

theorem and_split {a b : Bool} (h : (a && b) = true) : a = true ∧ b = true := by simpa using h

section
variable {P : Program}
theorem size_of {t n : Nat} (h : (P.info? t).map (·.size) = some n) (w : World) : (sizeOf t).run P w = .ok n w := by
  cases hi : P.info? t with
  | none => simp [hi] at h
  | some i => simp [hi] at h; simp [sizeOf, typeInfo, hi, h]
theorem zero_of {t : Nat} {z : Value} (h : (P.info? t).bind (·.zero) = some z) (w : World) : (zeroValue t).run P w = .ok z w := by
  cases hi : P.info? t with
  | none => simp [hi] at h
  | some i => simp [hi] at h; simp [zeroValue, typeInfo, hi, h]
theorem FldTy.of {s k off n : Nat} {t : TypeId} {fields : Array Field} (hu : P.underlying s = some (.struct fields)) (hf : (fields[k]?).map (fun f => (f.offset, f.type)) = some (off, t)) (hs : (P.info? t).map (·.size) = some n) (hp : 0 < n) : FldTy P s k off n t := by
  cases h : fields[k]? with
  | none => simp [h] at hf
  | some f => simp [h] at hf; exact ⟨⟨fields, f, hu, h, hf.1, hf.2⟩, size_of hs, hp⟩
theorem mapM_places (w : World) : ∀ (fs : List Field) (places : List (Nat × Nat)), fs.map (fun f => (f.offset, (P.info? f.type).map (·.size))) = places.map (fun p => (p.1, some p.2)) →
    (fs.mapM fun (f : Field) => (do pure (f.offset, ← sizeOf f.type) : Sem (Nat × Nat))).run P w = .ok places w
  | [], places, h => by cases places with
    | nil => simp
    | cons p ps => simp at h
  | f :: fs, places, h => by cases places with
    | nil => simp at h
    | cons p ps =>
      simp only [List.map_cons, List.cons.injEq, Prod.mk.injEq] at h
      have h1 := size_of h.1.2 w
      have h2 := mapM_places w fs ps h.2
      simp only [List.mapM_cons, Sem.run_bind, h1, Result.andThen_ok, Sem.run_pure, h2, h.1.1]
theorem StTy.of {t : TypeId} {places : List (Nat × Nat)} {zs : List Value} {fields : Array Field} (hu : P.underlying t = some (.struct fields)) (hp : fields.toList.map (fun f => (f.offset, (P.info? f.type).map (·.size))) = places.map (fun p => (p.1, some p.2)))
    (hz : ((P.info? t).bind (·.zero)) = some (.agg zs.toArray)) (h1 : zs.all Value.oneCell' = true) : StTy P t places zs := by
  refine ⟨⟨fields, hu, fun w => ?_⟩, zero_of hz, fun x hx => List.all_eq_true.1 h1 x hx⟩
  rw [Array.mapM_eq_mapM_toList]
  simp only [Sem.run_map, mapM_places w _ _ hp, Result.andThen_ok]
theorem MapTy.of {t kt vt : TypeId} {zv : Value} (hu : P.underlying t = some (.map kt vt)) (hz : (P.info? vt).bind (·.zero) = some zv) : MapTy P t kt vt zv := ⟨hu, zero_of hz⟩

/-- Nil where an empty slice is meant. -/
def NilL : List DV → List DV → Prop
  | [], [] => True
  | a :: as, b :: bs => (a = b ∨ (a = .v (.slice none 0 0) ∧ ∃ s, b = .sl s [])) ∧ NilL as bs
  | _, _ => False
theorem nil_reps {w : World} {I : Im} : ∀ {vs : List Value} {as bs : List DV}, NilL as bs → Reps w I vs as → Reps w I vs bs
  | vs, [], [], _, h => h
  | vs, [], b :: bs, h, _ => h.elim
  | vs, a :: as, [], h, _ => h.elim
  | [], a :: as, b :: bs, _, hr => by have := hr.1; simp at this
  | v :: vs, a :: as, b :: bs, h, hr => by
    obtain ⟨h1, h2⟩ := pw_tail hr
    refine Pw.cons ?_ (nil_reps h.2 h2)
    rcases h.1 with rfl | ⟨rfl, s, rfl⟩
    · exact h1
    · cases h1; exact .nil _ _ _
theorem con_nil {f : FuncId} {as bs rs : List DV} (hc : Contract P f bs rs) (hn : NilL as bs) : Contract P f as rs :=
  ⟨hc.1, fun w I vs hI hG hr => hc.2 w I vs hI hG (nil_reps hn hr)⟩
end
end Go.AV

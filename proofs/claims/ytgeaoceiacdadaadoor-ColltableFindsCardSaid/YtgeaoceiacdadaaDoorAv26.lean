/- The layer of abstract values: what a temporary holds, said once; every rule of it is proved from the model. Conditions: none. -/
import Derived.Test.YtgeaoceiacdadaaDoorAv25
set_option linter.unusedSimpArgs false
set_option linter.unusedVariables false
set_option linter.unnecessarySimpa false
namespace Go.AV
open Go.RowKit Go.M

/-! ## Arrays -/
structure ArTy (P : Program) (t : TypeId) (n es : Nat) (e : TypeId) (zs : List Value) : Prop where
  und : P.underlying t = some (.array n e)
  size : ∀ w, (sizeOf e).run P w = .ok es w
  pos : 0 < es
  zero : ∀ w, (zeroValue t).run P w = .ok (.agg zs.toArray) w
  one : ∀ x ∈ zs, x.oneCell' = true
def arP (n es : Nat) : List (Nat × Nat) := (List.range n).map fun i => (i * es, es)
theorem arP_get {n es i : Nat} {q : Nat × Nat} (h : (arP n es)[i]? = some q) : i < n ∧ q = (i * es, es) := by
  unfold arP at h
  rw [List.getElem?_map] at h
  by_cases hi : i < n
  · simp [hi] at h; exact ⟨hi, h.symm⟩
  · simp [hi] at h
theorem ArTy.of {P : Program} {t e : TypeId} {n es : Nat} {zs : List Value} (hu : P.underlying t = some (.array n e)) (hs : (P.info? e).map (·.size) = some es) (hp : 0 < es) (hz : ((P.info? t).bind (·.zero)) = some (.agg zs.toArray)) (h1 : zs.all Value.oneCell' = true) : ArTy P t n es e zs :=
  ⟨hu, size_of hs, hp, zero_of hz, fun x hx => List.all_eq_true.1 h1 x hx⟩

theorem fill_congr {f g : Nat → Option (Nat × Nat)} : ∀ (vs : List (Nat × Value)) (arr : Array Value), (∀ p ∈ vs, f p.1 = g p.1) → Instr.fill f arr vs = Instr.fill g arr vs
  | [], _, _ => rfl
  | (i, v) :: vs, arr, h => by
    simp only [Instr.fill]
    rw [h (i, v) (by simp)]
    cases g i with
    | none => rfl
    | some q =>
      obtain ⟨off, size⟩ := q
      simp only
      split
      · rfl
      · exact fill_congr vs _ (fun p hp => h p (by simp [hp]))
theorem fillD_in {places : List (Nat × Nat)} : ∀ {ds : List (Nat × DV)} {cells cells' : List DV}, fillD places cells ds = some cells' → ∀ p ∈ ds, ∃ q, places[p.1]? = some q
  | [], _, _, _, p, hp => by cases hp
  | (i, v) :: ds, cells, cells', h, p, hp => by
    simp only [fillD] at h
    cases hq : places[i]? with
    | none => rw [hq] at h; cases h
    | some q =>
      rw [hq] at h
      obtain ⟨off, size⟩ := q
      simp only at h
      split at h
      · rcases List.mem_cons.1 hp with e | hp
        · rw [e]; exact ⟨_, hq⟩
        · exact fillD_in h p hp
      · cases h
theorem run_forEqG {P : Program} {α : Type} {w : World} {F : α → Option Bool × PUnit → Sem (ForInStep (Option Bool × PUnit))} : ∀ (fs : List α) (cs : List Bool), Pw (fun (f : α) c => ∀ s, (F f s).run P w = .ok (if c then .yield (none, ()) else .done (some false, ())) w) fs cs →
    (forIn fs ((none, ()) : Option Bool × PUnit) F).run P w = .ok (if cs.all id then (none, ()) else (some false, ())) w
  | [], cs, h => by cases cs with
    | nil => simp
    | cons c cs => have := h.1; simp at this
  | f :: fs, cs, h => by cases cs with
    | nil => have := h.1; simp at this
    | cons c cs =>
      obtain ⟨h1, ht⟩ := pw_tail h
      have ih := run_forEqG fs cs ht
      rw [List.forIn_cons]
      simp only [Sem.run_bind, h1, Result.andThen_ok]
      cases c with
      | false => simp
      | true => simpa using ih

section
variable {P : Program} {r : Option Nat} {E : Env} {S : AState} {d : Nat} {ty : TypeId} {pos : String} {af : Array Edge} {g : Option (Nat × Bool)}
theorem m_abuild {t e : TypeId} {n es : Nat} {zs : List Value} {ps : List (Nat × Operand)} {ds : List (Nat × DV)} {cells : List DV} (hn : d < E.n) (hT : ArTy P t n es e zs) (hds : dvP S ps = some ds) (hf : fillD (arP n es) (zs.map DV.v) ds = some cells) :
    AOp P r E S ⟨some d, .build t ps.toArray, ty, pos, af, g⟩ d (.d (.agg cells)) :=
  ⟨rfl, hn, fun S' ha => step_value rfl hn (by simp) fun A w I ρ C hs => by
    have hds' : dvP S' ps = some ds := (dvP_agree ha (fun p hp => by simp only [Op.operands]; simp; exact ⟨p.1, hp⟩)).trans hds
    have hpw := dvP_holds hs hds'
    obtain ⟨arr', h1, h2, h3⟩ := fill_rep (places := arP n es) ds (ps.map fun p => (p.1, A.eval p.2)) zs.toArray (zs.map DV.v) cells (by simpa using reps_v w I zs) (by simpa using hT.one) hpw hf
    refine ⟨.agg arr', ?_, by have := Rep.agg (w := w) (I := I) arr'.toList cells h2.1 h3 h2.2; rw [Array.toArray_toList] at this; exact this⟩
    have hz := hT.zero w
    have hc : Instr.fill (fun i => some (i * es, es)) zs.toArray (ps.map fun p => (p.1, A.eval p.2)) = some arr' := by
      rw [← h1]
      apply fill_congr
      intro p hp
      obtain ⟨j, hj, e1⟩ := List.getElem_of_mem hp
      have hjd : j < ds.length := by rw [← hpw.1]; exact hj
      have h4 := hpw.2 j _ _ (List.getElem?_eq_getElem hj) (List.getElem?_eq_getElem hjd)
      obtain ⟨q, hq⟩ := fillD_in hf ds[j] (List.getElem_mem hjd)
      rw [e1] at h4
      rw [h4.1, hq, (arP_get hq).2]
    simp only [execOp, Instr.build, List.map_toArray, Sem.run_bind, hz, Result.andThen_ok, run_underlying hT.und, hT.size w, Value.cells, hc, Sem.run_pure]⟩

theorem m_aindex {α : Type} {en : En α} {l : List α} {t e : TypeId} {n : Nat} {zs : List Value} {x ix : Operand} {kk : IntKind} {i : Int} {v : α} (hn : d < E.n) (hT : ArTy P t n 1 e zs) (ho : OneTy P e) (hc : ∀ v, en.cells v = [en.dv v]) (hx : S.ev x = .d (.agg (en.all l))) (hl : l.length = n) (hi : S.ev ix = .d (.v (.int kk i))) (hv : idx l i = some v) :
    AOp P r E S ⟨some d, .index t x ix, ty, pos, af, g⟩ d (.d (en.dv v)) :=
  ⟨rfl, hn, fun S' ha => step_value rfl hn (by simp) fun A w I ρ C hs => by
    have h1 := hs.ev x
    rw [(ha.ev (by simp [Op.operands])).trans hx] at h1
    have h2 := hs.ev ix
    rw [(ha.ev (by simp [Op.operands])).trans hi] at h2
    have h2' := rep_v h2
    obtain ⟨q0, q1, q2, q3⟩ := idx_some hv
    have hs1 : en.size = 1 := by rw [← en.len v, hc]; rfl
    generalize hX : A.eval x = vx at h1
    cases h1 with
    | agg xs cells hxl h1c hr =>
      have hlen : (en.all l).length = l.length := by rw [all_len, hs1, Nat.mul_one]
      have hg : (en.all l)[i.toNat]? = some (en.dv v) := by
        have := all_get (e := en) q3 0 (by omega)
        rw [hs1, Nat.mul_one, Nat.add_zero, hc] at this
        simpa using this
      have hxi : i.toNat < xs.length := by rw [hxl, hlen]; exact q2
      have hget : xs[i.toNat]? = some xs[i.toNat] := List.getElem?_eq_getElem hxi
      refine ⟨xs[i.toNat], ?_, hr i.toNat _ _ hget hg⟩
      have hin : 0 ≤ i ∧ i < (n : Int) := ⟨q0, by omega⟩
      simp only [execOp, hX, h2', Instr.index, Sem.run_bind, asIntOf, Sem.run_pure, Result.andThen_ok, run_underlying hT.und, hin, and_self, if_true, hT.size w, Nat.mul_one]
      rw [run_part ho.agg (a := xs[i.toNat]) (by simp [hget])]
      rfl⟩

theorem pw_slice {α β : Type} {R : α → β → Prop} {xs : List α} {ys : List β} (h : Pw R xs ys) (a n : Nat) : Pw R ((xs.drop a).take n) ((ys.drop a).take n) := by
  refine ⟨by simp [h.1], fun j x y hx hy => ?_⟩
  rw [List.getElem?_take] at hx hy
  by_cases hj : j < n
  · simp only [hj, if_true, List.getElem?_drop] at hx hy
    exact h.2 (a + j) x y hx hy
  · simp [hj] at hx
/-- An element that is a struct. -/
theorem m_aindexA {α : Type} {en : En α} {l : List α} {t e : TypeId} {n : Nat} {zs : List Value} {x ix : Operand} {kk : IntKind} {i : Int} {v : α} (hn : d < E.n) (hT : ArTy P t n en.size e zs) (ho : AggTy P e en.size) (hc : ∀ v, en.dv v = .agg (en.cells v)) (hx : S.ev x = .d (.agg (en.all l))) (hl : l.length = n) (hi : S.ev ix = .d (.v (.int kk i))) (hv : idx l i = some v) :
    AOp P r E S ⟨some d, .index t x ix, ty, pos, af, g⟩ d (.d (en.dv v)) :=
  ⟨rfl, hn, fun S' ha => step_value rfl hn (by simp) fun A w I ρ C hs => by
    have h1 := hs.ev x
    rw [(ha.ev (by simp [Op.operands])).trans hx] at h1
    have h2 := hs.ev ix
    rw [(ha.ev (by simp [Op.operands])).trans hi] at h2
    have h2' := rep_v h2
    obtain ⟨q0, q1, q2, q3⟩ := idx_some hv
    generalize hX : A.eval x = vx at h1
    cases h1 with
    | agg xs cells hxl h1c hr =>
      have hsub : ((en.all l).drop (i.toNat * en.size)).take en.size = en.cells v := by
        have := all_sub (e := en) q3 0 en.size (by omega)
        rw [Nat.add_zero, List.drop_zero, ← en.len v, List.take_length] at this
        rw [← en.len v]; exact this
      have hpw := pw_slice (R := Rep w I) ⟨hxl, hr⟩ (i.toNat * en.size) en.size
      rw [hsub] at hpw
      have hex : (xs.toArray.extract (i.toNat * en.size) (i.toNat * en.size + en.size)) = ((xs.drop (i.toNat * en.size)).take en.size).toArray := by
        rw [List.extract_toArray, List.extract_eq_take_drop]
        congr 2
        omega
      refine ⟨.agg ((xs.drop (i.toNat * en.size)).take en.size).toArray, ?_, ?_⟩
      · have hin : 0 ≤ i ∧ i < (n : Int) := ⟨q0, by omega⟩
        simp only [execOp, hX, h2', Instr.index, Sem.run_bind, asIntOf, Sem.run_pure, Result.andThen_ok, run_underlying hT.und, hin, and_self, if_true, hT.size w, part, ho.agg w, hex]
      · rw [hc]
        exact .agg _ _ hpw.1 (fun y hy => h1c y (List.mem_of_mem_drop (List.mem_of_mem_take hy))) hpw.2⟩

/-- The whole of a package-level variable. -/
theorem m_loadG {t n gi : Nat} {zs : List Value} (hn : d < E.n) (hT : AggTy P t n) (hg : E.gdt gi = some zs) (hl : zs.length = n) (h1 : zs.all Value.oneCell' = true) :
    AOp P r E S ⟨some d, .load t (.global gi), ty, pos, af, g⟩ d (.d (.agg (zs.map DV.v))) :=
  ⟨rfl, hn, fun S' ha => step_value rfl hn (by simp) fun A w I ρ C hs => by
    have hgl := hs.gl gi zs hg
    refine ⟨.agg zs.toArray, ?_, .agg _ _ (by simp) (fun x hx => List.all_eq_true.1 h1 x hx) (reps_v w I zs).2⟩
    have hev : A.eval (.global gi) = .pointer (some ⟨gi, 0, none⟩) := rfl
    simp only [execOp, hev, Sem.run_bind]
    rw [run_loadAgg w hT gi 0 zs hl (fun j v hj => by rw [Nat.zero_add]; exact (hgl j v hj).1)]
    rfl⟩

theorem run_indexAtA {t e : TypeId} {n es : Nat} {zs : List Value} (h : ArTy P t n es e zs) {k : Nat} (hk : k < n) (kk : IntKind) (w : World) (b o : Nat) :
    (Instr.indexAt t (.pointer (some ⟨b, o, none⟩)) (.int kk (k : Int))).run P w = .ok (.pointer (some ⟨b, o + k * es, none⟩)) w := by
  have hadd : (⟨b, o, none⟩ : Addr).add (k * es) = ⟨b, o + k * es, none⟩ := by
    unfold Addr.add; split
    · rename_i e; rw [e]; rfl
    · rfl
  have hin : 0 ≤ (k : Int) ∧ (k : Int) < (n : Int) := ⟨by omega, by omega⟩
  simp only [Instr.indexAt, Sem.run_bind, asIntOf, Sem.run_pure, Result.andThen_ok, run_underlying h.und, Instr.sureAddr, hin, and_self, if_true, h.size w, Int.toNat_natCast, hadd]
theorem a_indexAddr_ptr {t e : TypeId} {n es id o : Nat} {zs : List Value} {x ix : Operand} {kk : IntKind} {k : Nat} (hn : d < E.n) (hT : ArTy P t n es e zs) (hx : S.ev x = .ptr id o) (hi : S.ev ix = .d (.v (.int kk (k : Int)))) (hk : k < n) :
    AOp P r E S ⟨some d, .indexAddr t x ix, ty, pos, af, g⟩ d (.ptr id (o + k * es)) :=
  ⟨rfl, hn, fun S' ha => step_value rfl hn (by simp) fun A w I ρ C hs => by
    have h := hs.ev x
    rw [(ha.ev (by simp [Op.operands])).trans hx] at h
    have h2 := hs.ev ix
    rw [(ha.ev (by simp [Op.operands])).trans hi] at h2
    have h2' := rep_v h2
    obtain ⟨b, hρ, hv⟩ := h
    refine ⟨.pointer (some ⟨b, o + k * es, none⟩), ?_, b, hρ, rfl⟩
    simp only [execOp, hv, h2', Sem.run_bind, run_indexAtA hT hk kk w b o]
    rfl⟩
theorem m_indexPt {t e : TypeId} {n es : Nat} {zs : List Value} {cells : List DV} {x ix : Operand} {kk : IntKind} {k : Nat} (hn : d < E.n) (hT : ArTy P t n es e zs) (hx : S.ev x = .d (.pt cells)) (hi : S.ev ix = .d (.v (.int kk (k : Int)))) (hk : k < n) :
    AOp P r E S ⟨some d, .indexAddr t x ix, ty, pos, af, g⟩ d (.ip cells (0 + k * es)) :=
  ⟨rfl, hn, fun S' ha => step_value rfl hn (by simp) fun A w I ρ C hs => by
    have h := hs.ev x
    rw [(ha.ev (by simp [Op.operands])).trans hx] at h
    have h2 := hs.ev ix
    rw [(ha.ev (by simp [Op.operands])).trans hi] at h2
    have h2' := rep_v h2
    obtain ⟨b, o', xs, hv, hr, h1, hcc⟩ := pt_ip (ρ := ρ) h
    refine ⟨.pointer (some ⟨b, o' + (0 + k * es), none⟩), ?_, b, o', xs, rfl, hr, h1, hcc⟩
    simp only [execOp, hv, h2', Sem.run_bind, run_indexAtA hT hk kk w b (o' + 0), Nat.add_assoc]
    rfl⟩
end

/-- == on an array type of cells. -/
theorem EqTy.ofA {P : Program} {α : Type} [DecidableEq α] {t e : TypeId} {n : Nat} {zs : List Value} {en : En α} {vals : α → List Value} {cs : α → α → List Bool} (hT : ArTy P t n 1 e zs) (ho : OneTy P e) (hg : P.eqGuardType P.depth t = false)
    (hv : ∀ a, en.dv a = .agg ((vals a).map DV.v)) (he : ∀ a b w, Pw (fun (i : Nat) c => ∃ x y, (vals a)[i]? = some x ∧ (vals b)[i]? = some y ∧ (Op.equalIn (9998 + 1) e x y).run P w = .ok c w) (List.range n) (cs a b)) (hc : ∀ a b, (cs a b).all id = decide (a = b)) : EqTy P t en where
  eq := fun a b va vb w I h1 h2 => by
    rw [hv] at h1 h2
    rw [rep_agg_v h1, rep_agg_v h2]
    refine ⟨⟨_, _, rfl, rfl⟩, ?_⟩
    show (Op.equalIn (9999 + 1) t _ _).run P w = _
    rw [Op.equalIn]
    simp only [Sem.run_bind, run_underlying hT.und, Result.andThen_ok, hT.size w]
    rw [Std.Legacy.Range.forIn_eq_forIn_range']
    have hrg : List.range' 0 ((n - 0 + 1 - 1) / 1) 1 = List.range n := by simp [List.range_eq_range']
    have hsz : (Std.Legacy.Range.size [0:n]) = n := by simp [Std.Legacy.Range.size]
    simp only [hsz]
    rw [← List.range_eq_range', ← hc a b]
    rw [run_forEqG (P := P) (w := w) (List.range n) (cs a b) ⟨(he a b w).1, fun j f c hf hcj s => ?_⟩]
    · simp only [Result.andThen_ok]
      cases (cs a b).all id <;> simp
    · obtain ⟨x, y, q3, q4, q5⟩ := (he a b w).2 j f c hf hcj
      simp only [Sem.run_bind, Nat.mul_one, run_part ho.agg (xs := (vals a).toArray) (a := x) (by simpa using q3), run_part ho.agg (xs := (vals b).toArray) (a := y) (by simpa using q4), Result.andThen_ok]
      have q5' : (Op.equalIn 9999 e x y).run P w = .ok c w := q5
      rw [q5']
      cases c <;> simp
  guard := fun op x y xs ys w => by
    have hp : (program).run P w = .ok P w := by rfl
    cases op <;> simp [eqGuard, hp, hg]
end Go.AV

/- The layer of abstract values: what a temporary holds, said once; every rule of it is proved from the model. Conditions: none. -/
import Derived.Test.YtgeaoceiacdadaaDoorAv28
set_option linter.unusedSimpArgs false
set_option linter.unusedVariables false
set_option linter.unnecessarySimpa false
namespace Go.AV
open Go.RowKit Go.M

/-- A frozen map, laid. -/
def mpD {κ ν : Type} (kv : κ → Value) (ev : En ν) (m : List (κ × ν)) : DV := .mp (m.map fun p => kv p.1) (m.map fun p => ev.dv p.2)

theorem mp_inv {w : World} {I : Im} {v : Value} {κ ν : Type} {kv : κ → Value} {ev : En ν} {m : List (κ × ν)} (h : Rep w I v (mpD kv ev m)) :
    ∃ b ents clock, v = .map (some b) ∧ w.heap[b]? = some (.map ents clock) ∧ Pw (fun (x : MapEntry) (y : Value × DV) => x.key = y.1 ∧ Rep w I x.val y.2) ents.toList (mapE kv ev m) := by
  unfold mpD at h
  generalize hk : (m.map fun p => kv p.1) = ks at h
  generalize hvv : (m.map fun p => ev.dv p.2) = vs at h
  cases h with
  | mp b clock ents vs hh hI hx hr =>
    refine ⟨b, ents, clock, rfl, hh, ?_, fun j x y hj hy => ?_⟩
    · have := congrArg List.length hk; simp at this; simp [mapE, this]
    · simp only [mapE, List.getElem?_map] at hy
      cases hm : m[j]? with
      | none => rw [hm] at hy; cases hy
      | some p =>
        rw [hm] at hy; cases hy
        refine ⟨?_, hr j x _ hj (by rw [← hvv]; simp [hm])⟩
        have := congrArg (fun l => l[j]?) hk
        simp only [List.getElem?_map, hm, hj, Option.map_some, Option.some.injEq] at this
        exact this.symm
theorem mp_mk {w : World} {I : Im} {b clock : Nat} {ents : Array MapEntry} {κ ν : Type} {kv : κ → Value} {ev : En ν} {m : List (κ × ν)} (hh : w.heap[b]? = some (.map ents clock)) (hI : I b 0)
    (hp : Pw (fun (x : MapEntry) (y : Value × DV) => x.key = y.1 ∧ Rep w I x.val y.2) ents.toList (mapE kv ev m)) : Rep w I (.map (some b)) (mpD kv ev m) := by
  have hk : ents.toList.map (·.key) = m.map fun p => kv p.1 := by
    apply List.ext_getElem?
    intro j
    simp only [List.getElem?_map]
    cases hx : ents.toList[j]? with
    | none =>
      have h1 : ents.toList.length ≤ j := List.getElem?_eq_none_iff.1 hx
      have h2 : m.length ≤ j := by have := hp.1; simp only [mapE, List.length_map] at this; omega
      simp [List.getElem?_eq_none_iff.2 h2]
    | some x =>
      have h1 : j < m.length := by have := (List.getElem?_eq_some_iff.1 hx).1; have h3 := hp.1; simp only [mapE, List.length_map] at h3; omega
      have hm : m[j]? = some m[j] := List.getElem?_eq_getElem h1
      have := (hp.2 j x (kv m[j].1, ev.dv m[j].2) hx (by simp [mapE, hm])).1
      simp [hm, this]
  unfold mpD
  rw [← hk]
  refine .mp b clock ents _ hh hI (by have := hp.1; simpa [mapE] using this) fun j x dd hj hd => ?_
  rw [List.getElem?_map] at hd
  cases hm : m[j]? with
  | none => rw [hm] at hd; cases hd
  | some p => rw [hm] at hd; cases hd; exact (hp.2 j x (kv p.1, ev.dv p.2) hj (by simp [mapE, hm])).2

/-- What an array or a struct of plain values is. -/
theorem kAgg {vals : List Value} {u : DV} (h : u = .agg (vals.map DV.v)) : ∀ (w : World) (I : Im) v, Rep w I v u → v = .agg vals.toArray := by
  subst h
  intro w I v h
  cases h with
  | agg xs cells hx h1 hr =>
    congr 2
    apply List.ext_getElem?
    intro j
    cases hxj : xs[j]? with
    | none =>
      have h1 : xs.length ≤ j := List.getElem?_eq_none_iff.1 hxj
      rw [List.length_map] at hx
      exact (List.getElem?_eq_none_iff.2 (by omega)).symm
    | some x =>
      have h1 : j < vals.length := by have := (List.getElem?_eq_some_iff.1 hxj).1; rw [List.length_map] at hx; omega
      have hv : vals[j]? = some vals[j] := List.getElem?_eq_getElem h1
      rw [hv, rep_v (hr j x (.v vals[j]) hxj (by simp [hv]))]
theorem kVal {x : Value} : ∀ (w : World) (I : Im) v, Rep w I v (.v x) → v = x := fun _ _ _ h => rep_v h

section
variable {P : Program} {r : Option Nat} {E : Env} {S : AState} {d : Nat} {ty : TypeId} {pos : String} {af : Array Edge} {g : Option (Nat × Bool)}

theorem a_nil_ptr {x : Operand} {id off : Nat} (hn : d < E.n) (hx : S.ev x = .ptr id off) : AOp P r E S ⟨some d, .nilCheck x, ty, pos, af, g⟩ d (.ptr id off) :=
  ⟨rfl, hn, fun S' ha => step_value rfl hn (by simp) fun A w I ρ C hs => by
    have h := hs.ev x
    rw [(ha.ev (by simp [Op.operands])).trans hx] at h
    obtain ⟨b, h1, h2⟩ := h
    exact ⟨_, by simp [execOp, h2], b, h1, rfl⟩⟩
theorem a_nil_pt {x : Operand} {cells : List DV} (hn : d < E.n) (hx : S.ev x = .d (.pt cells)) : AOp P r E S ⟨some d, .nilCheck x, ty, pos, af, g⟩ d (.d (.pt cells)) :=
  ⟨rfl, hn, fun S' ha => step_value rfl hn (by simp) fun A w I ρ C hs => by
    have h := hs.ev x
    rw [(ha.ev (by simp [Op.operands])).trans hx] at h
    have h' : Rep w I (A.eval x) (.pt cells) := h
    generalize hv : A.eval x = v at h'
    cases h' with
    | pt b off xs cells hx hc h1 hr => exact ⟨_, by simp [execOp, hv], .pt b off xs cells hx hc h1 hr⟩⟩

/-! ## A struct that holds a block -/
theorem fill_snoc {f : Nat → Option (Nat × Nat)} : ∀ (vs : List (Nat × Value)) (arr arr' : Array Value) (i : Nat) (v : Value) (off : Nat), Instr.fill f arr vs = some arr' → f i = some (off, 1) → v.oneCell' = true → off < arr'.size → Instr.fill f arr (vs ++ [(i, v)]) = some (arr'.setIfInBounds off v)
  | [], arr, arr', i, v, off, h, hi, h1, hlt => by
    simp only [Instr.fill, Option.some.injEq] at h
    subst h
    simp only [List.nil_append, Instr.fill, hi, cells_one h1]
    have : ¬ (off + 1 > arr.size) := by omega
    simp [this]
  | (j, u) :: vs, arr, arr', i, v, off, h, hi, h1, hlt => by
    simp only [Instr.fill, List.cons_append] at h ⊢
    cases hj : f j with
    | none => rw [hj] at h; cases h
    | some q =>
      obtain ⟨o, s⟩ := q
      rw [hj] at h
      simp only at h ⊢
      split at h
      · cases h
      · rename_i hc
        rw [if_neg hc]
        exact fill_snoc vs _ _ i v off h hi h1 hlt

theorem m_buildR {t : TypeId} {places : List (Nat × Nat)} {zs : List Value} (ps : List (Nat × Operand)) (i : Nat) (x : Operand) {ds : List (Nat × DV)} {cells : List DV} {id off : Nat} (hn : d < E.n) (hT : StTy P t places zs) (hds : dvP S ps = some ds) (hf : fillD places (zs.map DV.v) ds = some cells)
    (hx : S.ev x = .row id) (hr : rowOk S (.row id) = true) (hi : places[i]? = some (off, 1)) (hlt : Nat.ble (off + 1) cells.length = true) :
    AOp P r E S ⟨some d, .build t (ps ++ [(i, x)]).toArray, ty, pos, af, g⟩ d (.aggc ((cells.map Cap.d).set off (.row id))) :=
  ⟨rfl, hn, fun S' ha => step_value rfl hn (by simp) fun A w I ρ C hs => by
    obtain ⟨fields, hu, hp⟩ := hT.und
    have hlt' : off < cells.length := Nat.le_of_ble_eq_true hlt
    have hds' : dvP S' ps = some ds := (dvP_agree ha (fun p hp => by simp only [Op.operands]; simp; exact .inl ⟨p.1, hp⟩)).trans hds
    obtain ⟨arr', h1, h2, h3⟩ := fill_rep (places := places) ds (ps.map fun p => (p.1, A.eval p.2)) zs.toArray (zs.map DV.v) cells (by simpa using reps_v w I zs) (by simpa using hT.one) (dvP_holds hs hds') hf
    have hv := hs.ev x
    rw [(ha.ev (x := x) (by simp [Op.operands])).trans hx] at hv
    have hone : (A.eval x).oneCell' = true := one_of hs.blks hv rfl (fun i' e => by
      cases e
      have := rowOk_spec hr id rfl
      rwa [ha.blk])
    have hsz : off < arr'.size := by rw [← Array.length_toList, h2.1]; exact hlt'
    have hfs := fill_snoc (f := fun i => places[i]?) (ps.map fun p => (p.1, A.eval p.2)) zs.toArray arr' i (A.eval x) off h1 hi hone hsz
    refine ⟨.agg (arr'.toList.set off (A.eval x)).toArray, ?_, _, rfl, ?_, ?_⟩
    · have hz := hT.zero w
      simp only [execOp, Instr.build, List.map_toArray, Sem.run_bind, hz, Result.andThen_ok, run_underlying hu, hp w, Value.cells, List.getElem?_toArray, List.map_append, List.map_cons, List.map_nil, hfs, Sem.run_pure]
      congr 2
      congr 1
      rw [← Array.toList_inj]
      simp
    · have hpw : Pw (HoldsC w I ρ) arr'.toList (cells.map Cap.d) := by
        refine ⟨by rw [h2.1, List.length_map], fun j u c hu hc => ?_⟩
        rw [List.getElem?_map] at hc
        cases hcc : cells[j]? with
        | none => rw [hcc] at hc; cases hc
        | some q => rw [hcc] at hc; cases hc; exact h2.2 j u q hu hcc
      exact hpw.set (y := Cap.row id) hv off
    · intro y hy
      rcases List.mem_or_eq_of_mem_set hy with h | h
      · exact h3 y h
      · rw [h]; exact hone⟩

theorem s_box_aggc {elem : TypeId} {x : Operand} {cs : List Cap} (hn : d < E.n) (hx : S.ev x = .aggc cs) (hnm : E.nm d = none) :
    Step P r E ⟨some d, .box elem x, ty, pos, af, g⟩ S (((S.kill d).setBlk d (.box elem ((cs.map Cap.av).map (killAV d)))).put d (.ptr d 0)) :=
  step_run (by simp) fun A w I ρ C hs => by
    have h := hs.ev x
    rw [hx] at h
    obtain ⟨xs, hv, hp, h1⟩ := h
    have hpw : Pw (Holds w I ρ) xs (cs.map Cap.av) := by
      refine ⟨by rw [hp.1, List.length_map], fun j u c hu hc => ?_⟩
      rw [List.getElem?_map] at hc
      cases hcc : cs[j]? with
      | none => rw [hcc] at hc; cases hc
      | some q => rw [hcc] at hc; cases hc; exact Cap.holds (hp.2 j u q hu hcc)
    have hb := hs.newBox (id := d) (e := elem) (arr := xs.toArray) (cells := cs.map Cap.av) (by simpa using hpw) (by simpa using h1) hnm
    refine ⟨.pointer (some ⟨w.heap.size, 0, none⟩), w.alloc (.cells xs.toArray elem), ?_, I, _, C, hb.put hn (show Holds _ _ _ (.pointer (some ⟨w.heap.size, 0, none⟩)) (AV.ptr d 0) from ⟨w.heap.size, by simp [upd, blockOf], rfl⟩)⟩
    simp only [execOp, hv, Instr.box, newVar, Value.cells]
    simp [newRow]

/-! ## Maps whose keys are not single values; frozen maps -/
section
variable {t : TypeId} {κ ν : Type} [DecidableEq κ] {kv : κ → Value} {ev : En ν} {mp : List (κ × ν)} {k : κ} {kt vt : TypeId} {zv : Value} {zero : ν} {km kk : Operand} {id : Nat} {uk : DV}

theorem m_lookupK (hn : d < E.n) (hT : MapTy P t kt vt zv) (hK : KeyTy P kt kv) (hm : S.ev km = .row id) (hb : S.blk id = .map (mapE kv ev mp)) (hk : S.ev kk = .d uk) (hu : ∀ (w : World) (I : Im) v, Rep w I v uk → v = kv k) (hz : ∀ w I, Rep w I zv (ev.dv zero)) :
    AOp P r E S ⟨some d, .lookup t km kk false, ty, pos, af, g⟩ d (.d (ev.dv (mgetD mp k zero))) :=
  ⟨rfl, hn, fun S' ha => step_value rfl hn (by simp) fun A w I ρ C hs => by
    have hbk := hs.blks id
    rw [(ha.blk id).trans hb] at hbk
    obtain ⟨b, ents, clock, hρ, _, hh, hp, _⟩ := hbk
    have hv := hs.ev km
    rw [(ha.ev (by simp [Op.operands])).trans hm] at hv
    have hv' : A.eval km = .map (some b) := Eq.trans hv hρ
    have hkk := hs.ev kk
    rw [(ha.ev (x := kk) (by simp [Op.operands])).trans hk] at hkk
    have hkv := hu _ _ _ hkk
    have hz' := hz w I
    obtain ⟨v, h1, h2⟩ := run_lookup (w := w) (I := I) hT hK hh hp hz' false
    refine ⟨v, ?_, h2⟩
    simp only [execOp, hv', hkv, Sem.run_bind, h1]
    rfl⟩
theorem m_lookup2K (hn : d < E.n) (hT : MapTy P t kt vt zv) (hK : KeyTy P kt kv) (hm : S.ev km = .row id) (hb : S.blk id = .map (mapE kv ev mp)) (hk : S.ev kk = .d uk) (hu : ∀ (w : World) (I : Im) v, Rep w I v uk → v = kv k) (hz : ∀ w I, Rep w I zv (ev.dv zero)) :
    AOp P r E S ⟨some d, .lookup t km kk true, ty, pos, af, g⟩ d (.tup [ev.dv (mgetD mp k zero), db (mhas mp k)]) :=
  ⟨rfl, hn, fun S' ha => step_value rfl hn (by simp) fun A w I ρ C hs => by
    have hbk := hs.blks id
    rw [(ha.blk id).trans hb] at hbk
    obtain ⟨b, ents, clock, hρ, _, hh, hp, _⟩ := hbk
    have hv := hs.ev km
    rw [(ha.ev (by simp [Op.operands])).trans hm] at hv
    have hv' : A.eval km = .map (some b) := Eq.trans hv hρ
    have hkk := hs.ev kk
    rw [(ha.ev (x := kk) (by simp [Op.operands])).trans hk] at hkk
    have hkv := hu _ _ _ hkk
    have hz' := hz w I
    obtain ⟨v, h1, h2⟩ := run_lookup (w := w) (I := I) hT hK hh hp hz' true
    refine ⟨.tuple #[v, .bool (mhas mp k)], ?_, [v, .bool (mhas mp k)], rfl, Pw.cons h2 (Pw.cons (.v _) Pw.nil)⟩
    simp only [execOp, hv', hkv, Sem.run_bind, h1]
    rfl⟩
theorem m_lookupF (hn : d < E.n) (hT : MapTy P t kt vt zv) (hK : KeyTy P kt kv) (hm : S.ev km = .d (mpD kv ev mp)) (hk : S.ev kk = .d uk) (hu : ∀ (w : World) (I : Im) v, Rep w I v uk → v = kv k) (hz : ∀ w I, Rep w I zv (ev.dv zero)) :
    AOp P r E S ⟨some d, .lookup t km kk false, ty, pos, af, g⟩ d (.d (ev.dv (mgetD mp k zero))) :=
  ⟨rfl, hn, fun S' ha => step_value rfl hn (by simp) fun A w I ρ C hs => by
    have hv := hs.ev km
    rw [(ha.ev (by simp [Op.operands])).trans hm] at hv
    obtain ⟨b, ents, clock, hv', hh, hp⟩ := mp_inv hv
    have hkk := hs.ev kk
    rw [(ha.ev (x := kk) (by simp [Op.operands])).trans hk] at hkk
    have hkv := hu _ _ _ hkk
    have hz' := hz w I
    obtain ⟨v, h1, h2⟩ := run_lookup (w := w) (I := I) hT hK hh hp hz' false
    refine ⟨v, ?_, h2⟩
    simp only [execOp, hv', hkv, Sem.run_bind, h1]
    rfl⟩
theorem m_lookup2F (hn : d < E.n) (hT : MapTy P t kt vt zv) (hK : KeyTy P kt kv) (hm : S.ev km = .d (mpD kv ev mp)) (hk : S.ev kk = .d uk) (hu : ∀ (w : World) (I : Im) v, Rep w I v uk → v = kv k) (hz : ∀ w I, Rep w I zv (ev.dv zero)) :
    AOp P r E S ⟨some d, .lookup t km kk true, ty, pos, af, g⟩ d (.tup [ev.dv (mgetD mp k zero), db (mhas mp k)]) :=
  ⟨rfl, hn, fun S' ha => step_value rfl hn (by simp) fun A w I ρ C hs => by
    have hv := hs.ev km
    rw [(ha.ev (by simp [Op.operands])).trans hm] at hv
    obtain ⟨b, ents, clock, hv', hh, hp⟩ := mp_inv hv
    have hkk := hs.ev kk
    rw [(ha.ev (x := kk) (by simp [Op.operands])).trans hk] at hkk
    have hkv := hu _ _ _ hkk
    have hz' := hz w I
    obtain ⟨v, h1, h2⟩ := run_lookup (w := w) (I := I) hT hK hh hp hz' true
    refine ⟨.tuple #[v, .bool (mhas mp k)], ?_, [v, .bool (mhas mp k)], rfl, Pw.cons h2 (Pw.cons (.v _) Pw.nil)⟩
    simp only [execOp, hv', hkv, Sem.run_bind, h1]
    rfl⟩

/-- The key is turned to a single value first: m_mapUpdate for keys of any kind. -/
theorem m_mapUpdateK {x : Operand} {v : ν} {u : DV} (hT : MapTy P t kt vt zv) (hK : KeyTy P kt kv) (hm : S.ev km = .row id) (hb : S.blk id = .map (mapE kv ev mp)) (hk : S.ev kk = .d uk) (hku : ∀ (w : World) (I : Im) v, Rep w I v uk → v = kv k) (hx : S.ev x = .d u) (hu : u = ev.dv v) (hE : E.wrB = true) :
    Step P r E ⟨none, .mapUpdate t km kk x, ty, pos, af, g⟩ S (S.setBlk id (.map (mapE kv ev (mput mp k v)))) :=
  step_skip rfl (by simp) fun A w I ρ C hs => by
    subst hu
    have hbk := hs.blks id
    rw [hb] at hbk
    obtain ⟨b, ents, clock, hρ, hM, hh, hp, hI⟩ := hbk
    have hv := hs.ev km
    rw [hm] at hv
    have hv' : A.eval km = .map (some b) := Eq.trans hv hρ
    have hkk := hs.ev kk
    rw [hk] at hkk
    have hkv := hku _ _ _ hkk
    have hxv := hs.ev x
    rw [hx] at hxv
    have hlt := (Array.getElem?_eq_some_iff.1 hh).1
    have hf := hK.find k _ ents.toList w (keys_pw hp)
    have hget : (getObj b).run P w = .ok (.map ents clock) w := by simp [getObj, Sem.run, hh]
    have fin : ∀ (ents' : Array MapEntry) (clock' : Nat), Pw (fun (x : MapEntry) (y : Value × DV) => x.key = y.1 ∧ Rep w I x.val y.2) ents'.toList (mapE kv ev (mput mp k v)) →
        Sat E (S.setBlk id (.map (mapE kv ev (mput mp k v)))) A { w with heap := w.heap.setIfInBounds b (.map ents' clock') } := by
      intro ents' clock' hp'
      have hg : w.grownBy { w with heap := w.heap.setIfInBounds b (.map ents' clock') } (some b) :=
        ⟨rfl, rfl, rfl, by simp, fun q _ hq => Array.getElem?_setIfInBounds_ne (fun e => hq (by rw [e]))⟩
      have hsame : Same I w { w with heap := w.heap.setIfInBounds b (.map ents' clock') } := fun b' j hi => by
        have : b' ≠ b := fun e => hI j (e ▸ hi)
        exact KeepB.of (Array.getElem?_setIfInBounds_ne (fun e => this e.symm))
      refine ⟨I, ρ, C, hs.modify hg (by rw [hb]; simp) (by rw [hρ]; rfl) hsame ⟨b, ents', clock', hρ, hM, by simp [hlt], hp'.imp fun _ _ h => ⟨h.1, h.2.mono hsame (fun _ _ h => h)⟩, hI⟩ hE⟩
    rcases findAt_get (a := k) (i := 0) hp with ⟨e1, e2⟩ | ⟨v0, j, x0, e1, e2, e3, ⟨q, q1, q2, q3⟩, e4⟩
    · rw [e2] at hf
      refine ⟨_, ?_, fin (ents.push { key := kv k, val := A.eval x, born := clock }) (clock + 1) ?_⟩
      · simp only [execOp, hv', hkv, Instr.mapUpdate, Sem.run_bind, run_underlying hT.und, Result.andThen_ok, hget, hK.check, hf, run_setObj hh, Sem.run_pure]
      · rw [mput_new e1]
        simp only [mapE, List.map_append, Array.toList_push, List.map_cons, List.map_nil]
        exact Pw.append hp (Pw.cons ⟨rfl, hxv⟩ Pw.nil)
    · rw [e2] at hf
      have hq : ents[0 + j]? = some q := by rw [Nat.zero_add]; simpa using q1
      have hkey : (Instr.keyThatStays (((ents[0 + j]?).map (·.key)).getD (kv k)) (kv k)).run P w = .ok (kv k) w := by
        rw [hq]
        simp only [Option.map_some, Option.getD_some, q2, Instr.keyThatStays, hK.same, if_true, Sem.run_pure]
      refine ⟨_, ?_, fin (ents.modify (0 + j) fun e => { e with key := kv k, val := A.eval x }) clock ?_⟩
      · simp only [execOp, hv', hkv, Instr.mapUpdate, Sem.run_bind, run_underlying hT.und, Result.andThen_ok, hget, hK.check, hf, hkey, run_setObj hh, Sem.run_pure]
      · rw [Nat.zero_add, Array.toList_modify]
        exact e4 (A.eval x) v _ (fun _ => .inr rfl) (fun _ => rfl) hxv
end

/-- A block is given up: all of it is fixed from now on. -/
theorem SatAt.giveUp {a : Act} {w : World} {I : Im} {ρ : Nat → Value} {C : Nat → Prop} (h : SatAt E S a w I ρ C) {id b : Nat} (hne : S.blk id ≠ .none) (hbo : blockOf (ρ id) = some b) :
    SatAt E (S.setBlk id .none) a w (fun b' j => I b' j ∨ b' = b) ρ C := by
  have hbt := h.blt id b hne hbo
  have hsub : ∀ b' j, I b' j → (fun b' (j : Nat) => I b' j ∨ b' = b) b' j := fun _ _ h => .inl h
  have key : ∀ i, (S.setBlk id .none).blk i ≠ .none → S.blk i ≠ .none ∧ i ≠ id := by
    intro i hi
    rw [blk_setBlk] at hi
    by_cases e : id = i
    · subst e; simp at hi
    · simp only [e, if_false] at hi; exact ⟨hi, fun e' => e e'.symm⟩
  refine ⟨fun u => (h.tmps u).mono (same_refl I w) hsub, fun i => ?_, fun i i' b' hn' hi hi' => h.dist i i' b' hn' (key i hi).1 (key i' hi').1, h.frame, fun b j hi => hsub b j (h.sub b j hi), fun b' j hi => ?_, h.size, h.defers, fun b' j hi => ?_, fun i b' hi hb' => h.cB i b' (key i hi).1 hb', fun i v hv hi => h.nm i v hv (key i hi).1⟩
  · by_cases e : id = i
    · subst e; rw [blk_setBlk]; simp only [if_true]; trivial
    · rw [blk_setBlk, if_neg e]
      refine (h.blks i).widenI hsub fun b2 j hx hbo2 hi => ?_
      rcases hi with hi | hi
      · exact hi
      · subst hi; exact absurd hbo2 (h.dist id i b2 e hne hx hbo)
  · rcases hi with hi | hi
    · exact h.old b' j hi
    · subst hi; exact ⟨hbt.2, .inr hbt.1⟩
  · rcases hi with hi | hi
    · exact h.cI b' j hi
    · subst hi; exact h.cB id b' hne hbo

/-- The map that a cell of a variable holds is written no more. -/
theorem weak_map_box {κ ν : Type} {kv : κ → Value} {ev : En ν} {m : List (κ × ν)} {bid eb off mid : Nat} {cells : List AV} (hb : S.blk bid = .box eb cells) (hc : cells[off]? = some (.row mid)) (hr : S.blk mid = .map (mapE kv ev m)) :
    Weak E S ((S.setBlk mid .none).setBlk bid (.box eb (cells.set off (.d (mpD kv ev m))))) := by
  rintro a w ⟨I, ρ, C, h⟩
  have hne : mid ≠ bid := by rintro rfl; rw [hb] at hr; cases hr
  have hk := h.blks mid
  rw [hr] at hk
  obtain ⟨b, ents, clock, hρ, hM, hh, hp, hI⟩ := hk
  have h2 := h.giveUp (id := mid) (b := b) (by rw [hr]; simp) (by rw [hρ]; rfl)
  refine ⟨_, ρ, C, h2.rebox (eb := eb) (cells := cells) (by rw [blk_setBlk, if_neg hne]; exact hb) fun xs hx => hx.set_right hc fun x hx2 => ?_⟩
  have hx3 : x = ρ mid := hx2
  rw [hx3, hρ]
  exact mp_mk hh (.inr rfl) (hp.imp fun _ _ q => ⟨q.1, q.2.mono (same_refl I w) fun _ _ h => .inl h⟩)
end
end Go.AV

/- The layer of abstract values: what a temporary holds, said once; every rule of it is proved from the model. Conditions: none. -/
import Derived.Test.YtgeaoceiacdadaaDoorAv20
set_option linter.unusedSimpArgs false
set_option linter.unusedVariables false
set_option linter.unnecessarySimpa false
namespace Go.AV
open Go.RowKit Go.M

section
variable {P : Program} {r : Option Nat} {E : Env} {S : AState} {d : Nat} {ty : TypeId} {pos : String} {af : Array Edge} {g : Option (Nat × Bool)}
variable {α : Type} {en : En α} {t e bytes : Nat} {z : Value} {l m l' : List α} {x s : Operand}

theorem app_some (h : app l m = some l') : l' = l ++ m ∧ l.length + m.length ≤ LIM := by
  unfold app at h
  split at h
  · rename_i hh; exact ⟨(Option.some.inj h).symm, hh⟩
  · cases h

theorem app_bytes (hb : bytes ≤ 32768) (h : l.length + m.length ≤ LIM) : (l.length + m.length) * bytes ≤ 140737488355328 := by
  have h1 : (l.length + m.length) * bytes ≤ 4294967296 * bytes := Nat.mul_le_mul_right _ h
  have h2 : 4294967296 * bytes ≤ 4294967296 * 32768 := Nat.mul_le_mul_left _ hb
  omega

theorem kill_app {id : Nat} {sh : Bool} {cells : List DV} (hb : S.blk id = .row e en.size sh cells) (news : List DV) : (S.kill id).app id news = (S.kill id).setBlk id (.row e en.size sh (cells ++ news)) := by
  unfold AState.app
  rw [blk_kill, hb]
  rfl

theorem m_append {id : Nat} {sh : Bool} (hn : d < E.n) (hT : SlTy P t e en.size bytes z) (hs : S.ev s = .row id) (hb : S.blk id = .row e en.size sh (en.all l)) (hx : S.ev x = .d (dsl en m)) (ha : app l m = some l') (hby : 0 < bytes) (hby2 : bytes ≤ 32768)
    (hE : E.wrB = true) (hnm : E.nm id = none) :
    Step P r E ⟨some d, .call { callee := .builtin .append, args := #[s, x], argTypes := #[t, t] }, ty, pos, af, g⟩ S (((S.kill id).setBlk id (.row e en.size sh (en.all l'))).put d (.row id)) := by
  obtain ⟨rfl, hle⟩ := app_some ha
  have := s_append_d (P := P) (r := r) (ty := ty) (pos := pos) (af := af) (g := g) hn hT hs hb hx (all_len en l) (all_len en m) hby (app_bytes hby2 hle) hE hnm
  rw [kill_app hb] at this
  rw [all_append]
  exact this
theorem m_appendR {id id2 : Nat} {sh sh2 : Bool} {e2 : Nat} (hn : d < E.n) (hT : SlTy P t e en.size bytes z) (hs : S.ev s = .row id) (hb : S.blk id = .row e en.size sh (en.all l)) (hx : S.ev x = .row id2) (hb2 : S.blk id2 = .row e2 en.size sh2 (en.all m)) (hne : id ≠ id2) (ha : app l m = some l') (hby : 0 < bytes) (hby2 : bytes ≤ 32768)
    (hE : E.wrB = true) (hnm : E.nm id = none) :
    Step P r E ⟨some d, .call { callee := .builtin .append, args := #[s, x], argTypes := #[t, t] }, ty, pos, af, g⟩ S ((((S.setBlk id2 (.row e2 en.size true (en.all m))).kill id).setBlk id (.row e en.size sh (en.all l'))).put d (.row id)) := by
  obtain ⟨rfl, hle⟩ := app_some ha
  have hsh : S.shareAV (S.ev x) = S.setBlk id2 (.row e2 en.size true (en.all m)) := by rw [hx]; simp only [AState.shareAV, hb2]
  have hml : l.length + m.length ≤ maxLen := by unfold maxLen; unfold LIM at hle; omega
  have := step_append (P := P) (r := r) (ty := ty) (pos := pos) (af := af) (g := g) hn hT hs hb (x := x) (news := en.all m) (m := m.length) (by rw [hx]; simp only [AState.dv, hb2]) (all_len en l) (all_len en m) (app_bytes hby2 hle) hml hE hnm
  rw [hsh] at this
  have hbk : (S.setBlk id2 (.row e2 en.size true (en.all m))).blk id = .row e en.size sh (en.all l) := by rw [blk_setBlk, if_neg (fun e => hne e.symm), hb]
  rw [hbk] at this
  rw [all_append]
  exact this

theorem m_make {n : Int} {zero : α} (hn : d < E.n) (hT : SlTy P t e en.size bytes z) (hx : S.ev x = .d (.v (.int .i64 n))) (hz : z.cells.toList.map DV.v = en.cells zero) (ha : mkM zero n = some l) (hby2 : bytes ≤ 32768) (hnm : E.nm d = none) :
    Step P r E ⟨some d, .makeSlice t x x, ty, pos, af, g⟩ S (((S.kill d).setBlk d (.row e en.size false (en.all l))).put d (.row d)) := by
  unfold mkM at ha
  split at ha
  · rename_i hh
    cases ha
    have h1 : n = ((n.toNat : Nat) : Int) := by omega
    have h2 : n.toNat * bytes ≤ 140737488355328 := by
      have h1 : n.toNat * bytes ≤ 4294967296 * bytes := Nat.mul_le_mul_right _ hh.2
      have h2 : 4294967296 * bytes ≤ 4294967296 * 32768 := Nat.mul_le_mul_left _ hby2
      omega
    have := step_make (P := P) (r := r) (ty := ty) (pos := pos) (af := af) (g := g) hn hT hx h1 h2 (by have := hh.2; unfold LIM at this; unfold maxLen; omega) hnm
    have e1 : zerosDV z n.toNat = en.all (List.replicate n.toNat zero) := by
      unfold zerosDV
      rw [hz]
      induction n.toNat with
      | zero => rfl
      | succ k ih => simp only [List.replicate_succ, List.flatten_cons, En.all, List.flatMap_cons] at ih ⊢; rw [ih]
    rw [e1] at this
    exact this
  · cases ha

theorem setM_some {i : Int} {v : α} (h : setM l i v = some l') : l' = l.set i.toNat v ∧ 0 ≤ i ∧ i.toNat < l.length := by
  unfold setM at h
  split at h
  · rename_i hh; exact ⟨(Option.some.inj h).symm, hh⟩
  · cases h

/-- A cell of an element of a row is written. -/
theorem m_store {tt : TypeId} {y : Operand} {id off : Nat} {i : Int} {v v' : α} {u : DV} (hT : OneTy P tt) (hx : S.ev x = .ptr id (i.toNat * en.size + off)) (hb : S.blk id = .row e en.size false (en.all l)) (hy : S.ev y = .d u) (hv : idx l i = some v)
    (hu : (en.cells v).set off u = en.cells v') (ho : off < en.size) (hs : setM l i v' = some l') (h1 : (AV.d u).one = true) (hE : E.wrB = true) :
    Step P r E ⟨none, .store tt x y, ty, pos, af, g⟩ S (S.setBlk id (.row e en.size false (en.all l'))) := by
  obtain ⟨rfl, h0, hlt⟩ := setM_some hs
  rw [← all_set en (idx_some hv).2.2.2 ho hu]
  refine step_store_row hT hx hb ?_ hy h1 hE
  rw [all_len]
  have : (i.toNat + 1) * en.size ≤ l.length * en.size := Nat.mul_le_mul_right _ hlt
  rw [Nat.add_mul] at this
  omega

/-- Part of a slice of data. -/
theorem slc_some {lo hi : Int} (h : slc l lo hi = some l') : l' = (l.take hi.toNat).drop lo.toNat ∧ 0 ≤ lo ∧ lo ≤ hi ∧ hi.toNat ≤ l.length := by
  unfold slc at h
  split at h
  · rename_i hh; exact ⟨(Option.some.inj h).symm, hh⟩
  · cases h
theorem m_slice {lo hi : Operand} {k1 k2 : IntKind} {a b : Int} (hn : d < E.n) (hT : SlTy P t e en.size bytes z) (hx : S.ev x = .d (dsl en l)) (hlo : S.ev lo = .d (.v (.int k1 a))) (hhi : S.ev hi = .d (.v (.int k2 b))) (h : slc l a b = some l') :
    AOp P r E S ⟨some d, .slice t x (some lo) (some hi) none, ty, pos, af, g⟩ d (.d (dsl en l')) := by
  obtain ⟨rfl, h1, h2, h3⟩ := slc_some h
  exact a_slice_d hn hT hx (all_len en l) (l := a.toNat) (h := b.toNat) ⟨⟨k1, a, hlo, by omega⟩, ⟨k2, b, hhi, by omega⟩, by omega, h3⟩ (by rw [all_take, all_drop])
theorem m_sliceL {lo : Operand} {k1 : IntKind} {a : Int} (hn : d < E.n) (hT : SlTy P t e en.size bytes z) (hx : S.ev x = .d (dsl en l)) (hlo : S.ev lo = .d (.v (.int k1 a))) (h : slc l a l.length = some l') :
    AOp P r E S ⟨some d, .slice t x (some lo) none none, ty, pos, af, g⟩ d (.d (dsl en l')) := by
  obtain ⟨rfl, h1, h2, h3⟩ := slc_some h
  exact a_slice_d hn hT hx (all_len en l) (l := a.toNat) (h := l.length) ⟨⟨k1, a, hlo, by omega⟩, rfl, by omega, by omega⟩ (by rw [all_take, all_drop]; simp)
theorem m_sliceH {hi : Operand} {k2 : IntKind} {b : Int} (hn : d < E.n) (hT : SlTy P t e en.size bytes z) (hx : S.ev x = .d (dsl en l)) (hhi : S.ev hi = .d (.v (.int k2 b))) (h : slc l 0 b = some l') :
    AOp P r E S ⟨some d, .slice t x none (some hi) none, ty, pos, af, g⟩ d (.d (dsl en l')) := by
  obtain ⟨rfl, h1, h2, h3⟩ := slc_some h
  exact a_slice_d hn hT hx (all_len en l) (l := 0) (h := b.toNat) ⟨rfl, ⟨k2, b, hhi, by omega⟩, by omega, h3⟩ (by rw [all_take]; simp)

/-! ## Maps -/

/-- Where a key is first found. -/
def findAt {κ : Type} [DecidableEq κ] (a : κ) : List κ → List MapEntry → Nat → Option (Nat × Value)
  | k :: ks, x :: es, i => if a = k then some (i, x.val) else findAt a ks es (i + 1)
  | _, _, _ => none

/-- How the keys of a type are laid and compared. -/
structure KeyTy {κ : Type} [DecidableEq κ] (P : Program) (kt : TypeId) (kv : κ → Value) : Prop where
  same : ∀ a, Instr.sameBits 10000 (kv a) (kv a) = true
  check : ∀ a b w, (Instr.checkKey b 10000 kt (kv a)).run P w = .ok () w
  find : ∀ a (ks : List κ) (es : List MapEntry) w, Pw (fun (x : MapEntry) k => x.key = kv k) es ks → (Instr.findKey kt (kv a) es).run P w = .ok (findAt a ks es 0) w

theorem pw_tail {α β : Type} {R : α → β → Prop} {x : α} {y : β} {xs : List α} {ys : List β} (h : Pw R (x :: xs) (y :: ys)) : R x y ∧ Pw R xs ys :=
  ⟨h.2 0 x y rfl rfl, by have := h.1; simpa using this, fun j a b ha hb => h.2 (j + 1) a b (by simpa using ha) (by simpa using hb)⟩

theorem findNow_gen {κ : Type} [DecidableEq κ] {kv : κ → Value} {td : TypeDesc} (h0 : ∀ a b, Instr.sameNow td (kv a) (kv b) = some (decide (a = b))) (a : κ) : ∀ (es : List MapEntry) (ks : List κ) (i : Nat), Pw (fun (x : MapEntry) k => x.key = kv k) es ks →
    Instr.findNow td (kv a) es i = some (findAt a ks es i)
  | [], ks, i, h => by
    cases ks with
    | nil => rfl
    | cons k ks => have := h.1; simp at this
  | x :: es, ks, i, h => by
    cases ks with
    | nil => have := h.1; simp at this
    | cons k ks =>
      obtain ⟨h1, h2⟩ := pw_tail h
      simp only [Instr.findNow, h1, h0, findAt]
      by_cases e : a = k
      · simp [e]
      · simp only [e, decide_false, if_false]
        exact findNow_gen h0 a es ks (i + 1) h2

def kI (n : Int) : Value := .int .i64 n
def kS (s : Str) : Value := .string ⟨s.toArray⟩
theorem check_int {kt : TypeId} (hu : P.underlying kt = some (.int .i64)) (n : Nat) (a : Int) (b : Bool) (w : World) : (Instr.checkKey b (n + 1) kt (kI a)).run P w = .ok () w := by
  simp only [kI, Instr.checkKey, Sem.run_bind, run_underlying hu, Result.andThen_ok]
  rfl
theorem check_str {kt : TypeId} (hu : P.underlying kt = some .string) (n : Nat) (a : Str) (b : Bool) (w : World) : (Instr.checkKey b (n + 1) kt (kS a)).run P w = .ok () w := by
  simp only [kS, Instr.checkKey, Sem.run_bind, run_underlying hu, Result.andThen_ok]
  rfl
theorem keyInt {kt : TypeId} (hu : P.underlying kt = some (.int .i64)) : KeyTy P kt kI where
  same := fun a => by simp [kI, Instr.sameBits]
  check := fun a b w => check_int hu 9999 a b w
  find := fun a ks es w h => by
    have := findNow_gen (kv := kI) (td := .int .i64) (fun a b => by simp only [kI, Instr.sameNow, if_true]; rfl) a es ks 0 h
    simp only [Instr.findKey, Sem.run_bind, run_underlying hu, Result.andThen_ok]
    rw [this]
    rfl
theorem ba_beq (a b : Str) : ((⟨a.toArray⟩ : ByteArray) == ⟨b.toArray⟩) = decide (a = b) := by
  show (a.toArray == b.toArray) = _
  rw [Bool.eq_iff_iff]; simp
theorem keyStr {kt : TypeId} (hu : P.underlying kt = some .string) : KeyTy P kt kS where
  same := fun a => by simp only [kS, Instr.sameBits, ba_beq]; simp
  check := fun a b w => check_str hu 9999 a b w
  find := fun a ks es w h => by
    have := findNow_gen (kv := kS) (td := .string) (fun a b => by simp only [kS, Instr.sameNow, ba_beq]) a es ks 0 h
    simp only [Instr.findKey, Sem.run_bind, run_underlying hu, Result.andThen_ok]
    rw [this]
    rfl

theorem rep_vals {w : World} {I : Im} (vs : List Value) (h : vs.all Value.oneCell' = true) : Rep w I (.agg vs.toArray) (.agg (vs.map DV.v)) :=
  .agg vs _ (by simp) (fun x hx => List.all_eq_true.1 h x hx) (reps_v w I vs).2

/-- The entries of a map, laid. -/
def mapE {κ ν : Type} (kv : κ → Value) (ev : En ν) (m : List (κ × ν)) : List (Value × DV) := m.map fun p => (kv p.1, ev.dv p.2)

structure MapTy (P : Program) (t kt vt : TypeId) (zv : Value) : Prop where
  und : P.underlying t = some (.map kt vt)
  zero : ∀ w, (zeroValue vt).run P w = .ok zv w

section
variable {κ ν : Type} [DecidableEq κ] {kv : κ → Value} {ev : En ν} {mp : List (κ × ν)} {k : κ} {kt vt : TypeId} {zv : Value} {zero : ν} {km kk : Operand} {id : Nat}

theorem findAt_get {w : World} {I : Im} {a : κ} : ∀ {m : List (κ × ν)} {es : List MapEntry} {i : Nat}, Pw (fun (x : MapEntry) (y : Value × DV) => x.key = y.1 ∧ Rep w I x.val y.2) es (mapE kv ev m) →
    (mget m a = none ∧ findAt a (m.map Prod.fst) es i = none) ∨ ∃ v j x, mget m a = some v ∧ findAt a (m.map Prod.fst) es i = some (i + j, x) ∧ Rep w I x (ev.dv v) ∧ (∃ y, es[j]? = some y ∧ y.key = kv a ∧ y.val = x) ∧
      ∀ (u : Value) (v' : ν) (f : MapEntry → MapEntry), (∀ y, (f y).key = y.key ∨ (f y).key = kv a) → (∀ y, (f y).val = u) → Rep w I u (ev.dv v') → Pw (fun (x : MapEntry) (y : Value × DV) => x.key = y.1 ∧ Rep w I x.val y.2) (es.modify j f) (mapE kv ev (mput m a v'))
  | [], es, i, h => by left; exact ⟨rfl, by cases es <;> rfl⟩
  | (k', v') :: m, [], i, h => by have := h.1; simp [mapE] at this
  | (k', v') :: m, x :: es, i, h => by
    obtain ⟨h1, h2⟩ := pw_tail h
    simp only [List.map_cons, findAt, mget, mput]
    by_cases e : a = k'
    · subst e
      right
      refine ⟨v', 0, x.val, by simp, by simp, h1.2, ⟨x, rfl, h1.1, rfl⟩, fun u v'' f hk hv hr => ?_⟩
      simp only [if_true, List.modify_zero_cons]
      refine Pw.cons ⟨?_, by rw [hv]; exact hr⟩ h2
      rcases hk x with hk | hk
      · rw [hk]; exact h1.1
      · exact hk
    · simp only [e, if_false]
      rcases findAt_get (a := a) (m := m) (es := es) (i := i + 1) h2 with ⟨e1, e2⟩ | ⟨v, j, y, e1, e2, e3, ⟨q, q1, q2, q3⟩, e4⟩
      · left; exact ⟨e1, e2⟩
      · right
        refine ⟨v, j + 1, y, e1, by rw [e2]; congr 2; omega, e3, ⟨q, by simpa using q1, q2, q3⟩, fun u v'' f hk hv hr => ?_⟩
        simp only [List.modify_succ_cons]
        exact Pw.cons h1 (e4 u v'' f hk hv hr)

theorem mput_new {m : List (κ × ν)} {a : κ} (h : mget m a = none) (v : ν) : mput m a v = m ++ [(a, v)] := by
  induction m with
  | nil => rfl
  | cons p m ih =>
    obtain ⟨k', v'⟩ := p
    simp only [mget, mput] at h ⊢
    split at h
    · cases h
    · rename_i e; simp only [e, if_false, ih h, List.cons_append]

omit [DecidableEq κ] in
theorem keys_pw {w : World} {I : Im} {m : List (κ × ν)} {es : List MapEntry} (h : Pw (fun (x : MapEntry) (y : Value × DV) => x.key = y.1 ∧ Rep w I x.val y.2) es (mapE kv ev m)) : Pw (fun (x : MapEntry) k => x.key = kv k) es (m.map Prod.fst) := by
  refine ⟨by rw [h.1]; simp [mapE], fun j x k hx hk => ?_⟩
  rw [List.getElem?_map] at hk
  cases hm : m[j]? with
  | none => simp [hm] at hk
  | some p =>
    simp [hm] at hk; subst hk
    exact (h.2 j x (kv p.1, ev.dv p.2) hx (by simp [mapE, hm])).1

theorem run_lookup {w : World} {I : Im} {b clock : Nat} {ents : Array MapEntry} (hT : MapTy P t kt vt zv) (hK : KeyTy P kt kv) (hh : w.heap[b]? = some (.map ents clock)) (hp : Pw (fun (x : MapEntry) (y : Value × DV) => x.key = y.1 ∧ Rep w I x.val y.2) ents.toList (mapE kv ev mp)) (hz : Rep w I zv (ev.dv zero)) (ok : Bool) :
    ∃ v, (Instr.lookup t (.map (some b)) (kv k) ok).run P w = .ok (if ok then .tuple #[v, .bool (mhas mp k)] else v) w ∧ Rep w I v (ev.dv (mgetD mp k zero)) := by
  have hf := hK.find k _ ents.toList w (keys_pw hp)
  have hget : (getObj b).run P w = .ok (.map ents clock) w := by simp [getObj, Sem.run, hh]
  rcases findAt_get (a := k) (i := 0) hp with ⟨e1, e2⟩ | ⟨v, j, x, e1, e2, e3, _, _⟩
  · rw [e2] at hf
    refine ⟨zv, ?_, by simpa [mgetD, e1] using hz⟩
    simp only [Instr.lookup, Sem.run_bind, run_underlying hT.und, Result.andThen_ok, hget, Sem.run_pure, hK.check, hf, hT.zero, mhas, e1]
    rfl
  · rw [e2] at hf
    refine ⟨x, ?_, by simpa [mgetD, e1] using e3⟩
    simp only [Instr.lookup, Sem.run_bind, run_underlying hT.und, Result.andThen_ok, hget, Sem.run_pure, hK.check, hf, mhas, e1]
    rfl

theorem m_lookup (hn : d < E.n) (hT : MapTy P t kt vt zv) (hK : KeyTy P kt kv) (hm : S.ev km = .row id) (hb : S.blk id = .map (mapE kv ev mp)) (hk : S.ev kk = .d (.v (kv k))) (hz : ∀ w I, Rep w I zv (ev.dv zero)) :
    AOp P r E S ⟨some d, .lookup t km kk false, ty, pos, af, g⟩ d (.d (ev.dv (mgetD mp k zero))) :=
  ⟨rfl, hn, fun S' ha => step_value rfl hn (by simp) fun A w I ρ C hs => by
    have hbk := hs.blks id
    rw [(ha.blk id).trans hb] at hbk
    obtain ⟨b, ents, clock, hρ, _, hh, hp, _⟩ := hbk
    have hv := hs.ev km
    rw [(ha.ev (by simp [Op.operands])).trans hm] at hv
    have hv' : A.eval km = .map (some b) := Eq.trans hv hρ
    have hkv := hs.val ((ha.ev (x := kk) (by simp [Op.operands])).trans hk)
    have hz' := hz w I
    obtain ⟨v, h1, h2⟩ := run_lookup (w := w) (I := I) hT hK hh hp hz' false
    refine ⟨v, ?_, h2⟩
    simp only [execOp, hv', hkv, Sem.run_bind, h1]
    rfl⟩
theorem m_lookup2 (hn : d < E.n) (hT : MapTy P t kt vt zv) (hK : KeyTy P kt kv) (hm : S.ev km = .row id) (hb : S.blk id = .map (mapE kv ev mp)) (hk : S.ev kk = .d (.v (kv k))) (hz : ∀ w I, Rep w I zv (ev.dv zero)) :
    AOp P r E S ⟨some d, .lookup t km kk true, ty, pos, af, g⟩ d (.tup [ev.dv (mgetD mp k zero), db (mhas mp k)]) :=
  ⟨rfl, hn, fun S' ha => step_value rfl hn (by simp) fun A w I ρ C hs => by
    have hbk := hs.blks id
    rw [(ha.blk id).trans hb] at hbk
    obtain ⟨b, ents, clock, hρ, _, hh, hp, _⟩ := hbk
    have hv := hs.ev km
    rw [(ha.ev (by simp [Op.operands])).trans hm] at hv
    have hv' : A.eval km = .map (some b) := Eq.trans hv hρ
    have hkv := hs.val ((ha.ev (x := kk) (by simp [Op.operands])).trans hk)
    have hz' := hz w I
    obtain ⟨v, h1, h2⟩ := run_lookup (w := w) (I := I) hT hK hh hp hz' true
    refine ⟨.tuple #[v, .bool (mhas mp k)], ?_, [v, .bool (mhas mp k)], rfl, Pw.cons h2 (Pw.cons (.v _) Pw.nil)⟩
    simp only [execOp, hv', hkv, Sem.run_bind, h1]
    rfl⟩

theorem m_makeMap (hn : d < E.n) (hnm : E.nm d = none) : Step P r E ⟨some d, .makeMap t none, ty, pos, af, g⟩ S (((S.kill d).setBlk d (.map [])).put d (.row d)) :=
  step_run (by simp) fun A w I ρ C hs => by
    have hI : ∀ b j, I b j → b < w.heap.size := fun b j h => (hs.old b j h).1
    have hb := hs.update (grownBy_alloc' w (.map #[] 0)) (id := d) (u := .map (some w.heap.size)) (x := .map []) (by simp) (same_alloc _ hI) (fun b hb => .inl (by simp [blockOf] at hb; omega))
      ⟨w.heap.size, #[], 0, by simp [upd], E.mineB _ (E.size _ _ _ hs.frame), heap_alloc_new w _, Pw.nil, fun j hj => by have := hI _ j hj; omega⟩ (.inl rfl) hnm
    refine ⟨.map (some w.heap.size), w.alloc (.map #[] 0), ?_, I, _, C, hb.put hn (by simp [Holds, upd])⟩
    simp only [execOp, Instr.makeMap, Option.map_none, Sem.run_bind, run_newObj_alloc, Result.andThen_ok, Sem.run_pure]

theorem run_setObj {w : World} {b clock : Nat} {ents : Array MapEntry} {o' : Obj} (h : w.heap[b]? = some (.map ents clock)) : (setObj b o').run P w = .ok () { w with heap := w.heap.setIfInBounds b o' } := by
  simp [setObj, Sem.run, h]

theorem m_mapUpdate {x : Operand} {v : ν} {u : DV} (hT : MapTy P t kt vt zv) (hK : KeyTy P kt kv) (hm : S.ev km = .row id) (hb : S.blk id = .map (mapE kv ev mp)) (hk : S.ev kk = .d (.v (kv k))) (hx : S.ev x = .d u) (hu : u = ev.dv v) (hE : E.wrB = true) :
    Step P r E ⟨none, .mapUpdate t km kk x, ty, pos, af, g⟩ S (S.setBlk id (.map (mapE kv ev (mput mp k v)))) :=
  step_skip rfl (by simp) fun A w I ρ C hs => by
    subst hu
    have hbk := hs.blks id
    rw [hb] at hbk
    obtain ⟨b, ents, clock, hρ, hM, hh, hp, hI⟩ := hbk
    have hv := hs.ev km
    rw [hm] at hv
    have hv' : A.eval km = .map (some b) := Eq.trans hv hρ
    have hkv := hs.val hk
    have hxv := hs.ev x
    rw [hx] at hxv
    have hlt := (Array.getElem?_eq_some_iff.1 hh).1
    have hf := hK.find k _ ents.toList w (keys_pw hp)
    have hget : (getObj b).run P w = .ok (.map ents clock) w := by simp [getObj, Sem.run, hh]
    have fin : ∀ (ents' : Array MapEntry) (clock' : Nat), Pw (fun (x : MapEntry) (y : Value × DV) => x.key = y.1 ∧ Rep w I x.val y.2) ents'.toList (mapE kv ev (mput mp k v)) →
        Sat E (S.setBlk id (.map (mapE kv ev (mput mp k v)))) A { w with heap := w.heap.setIfInBounds b (.map ents' clock') } := by
      intro ents' clock' hp'
      have hg : w.grownBy { w with heap := w.heap.setIfInBounds b (.map ents' clock') } (some b) :=
        ⟨rfl, rfl, rfl, by simp, fun q _ hq => Array.getElem?_setIfInBounds_ne (fun e => hq (by rw [e]))⟩
      have hsame : Same I w { w with heap := w.heap.setIfInBounds b (.map ents' clock') } := fun b' j hi => by
        have : b' ≠ b := fun e => hI j (e ▸ hi)
        exact KeepB.of (Array.getElem?_setIfInBounds_ne (fun e => this e.symm))
      refine ⟨I, ρ, C, hs.modify hg (by rw [hb]; simp) (by rw [hρ]; rfl) hsame ⟨b, ents', clock', hρ, hM, by simp [hlt], hp'.imp fun _ _ h => ⟨h.1, h.2.mono hsame (fun _ _ h => h)⟩, hI⟩ hE⟩
    rcases findAt_get (a := k) (i := 0) hp with ⟨e1, e2⟩ | ⟨v0, j, x0, e1, e2, e3, ⟨q, q1, q2, q3⟩, e4⟩
    · rw [e2] at hf
      refine ⟨_, ?_, fin (ents.push { key := kv k, val := A.eval x, born := clock }) (clock + 1) ?_⟩
      · simp only [execOp, hv', hkv, Instr.mapUpdate, Sem.run_bind, run_underlying hT.und, Result.andThen_ok, hget, hK.check, hf, run_setObj hh, Sem.run_pure]
      · rw [mput_new e1]
        simp only [mapE, List.map_append, Array.toList_push, List.map_cons, List.map_nil]
        exact Pw.append hp (Pw.cons ⟨rfl, hxv⟩ Pw.nil)
    · rw [e2] at hf
      have hq : ents[0 + j]? = some q := by rw [Nat.zero_add]; simpa using q1
      have hkey : (Instr.keyThatStays (((ents[0 + j]?).map (·.key)).getD (kv k)) (kv k)).run P w = .ok (kv k) w := by
        rw [hq]
        simp only [Option.map_some, Option.getD_some, q2, Instr.keyThatStays, hK.same, if_true, Sem.run_pure]
      refine ⟨_, ?_, fin (ents.modify (0 + j) fun e => { e with key := kv k, val := A.eval x }) clock ?_⟩
      · simp only [execOp, hv', hkv, Instr.mapUpdate, Sem.run_bind, run_underlying hT.und, Result.andThen_ok, hget, hK.check, hf, hkey, run_setObj hh, Sem.run_pure]
      · rw [Nat.zero_add, Array.toList_modify]
        exact e4 (A.eval x) v _ (fun _ => .inr rfl) (fun _ => rfl) hxv
end
end
end Go.AV

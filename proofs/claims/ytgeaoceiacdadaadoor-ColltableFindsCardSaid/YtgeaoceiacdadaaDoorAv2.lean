/- The layer of abstract values: what a temporary holds, said once; every rule of it is proved from the model. Conditions: none. -/
import Derived.Test.YtgeaoceiacdadaaDoorAv
set_option linter.unusedSimpArgs false
set_option linter.unusedVariables false
set_option linter.unnecessarySimpa false
namespace Go.AV
open Go.RowKit

/-! ## Types -/

structure OneTy (P : Program) (t : TypeId) : Prop where
  agg : ∀ w, (isAgg t).run P w = .ok false w
  size : ∀ w, (sizeOf t).run P w = .ok 1 w
structure AggTy (P : Program) (t n : Nat) : Prop where
  agg : ∀ w, (isAgg t).run P w = .ok true w
  size : ∀ w, (sizeOf t).run P w = .ok n w
structure SlTy (P : Program) (t e size bytes : Nat) (z : Value) : Prop where
  und : P.underlying t = some (.slice e)
  info : ∃ i, P.info? e = some i ∧ i.zero = some z ∧ i.size = size ∧ i.bytes = bytes
  zs : z.cells.size = size
  pos : 0 < size
  one : ∀ c ∈ z.cells.toList, c.oneCell' = true

theorem OneTy.of {P : Program} {t : TypeId} {ds : TypeDesc} (hu : P.underlying t = some ds) (hd : (match ds with | .struct _ | .array _ _ => true | _ => false) = false) (hi : (P.info? t).map (·.size) = some 1) : OneTy P t := by
  refine ⟨fun w => ?_, fun w => ?_⟩
  · cases ds <;> simp_all [isAgg, run_underlying hu]
  · cases h : P.info? t with
    | none => simp [h] at hi
    | some i => simp [h] at hi; simp [sizeOf, typeInfo, h, hi]
theorem AggTy.of {P : Program} {t n : Nat} {ds : TypeDesc} (hu : P.underlying t = some ds) (hd : (match ds with | .struct _ | .array _ _ => true | _ => false) = true) (hi : (P.info? t).map (·.size) = some n) : AggTy P t n := by
  refine ⟨fun w => ?_, fun w => ?_⟩
  · cases ds <;> simp_all [isAgg, run_underlying hu]
  · cases h : P.info? t with
    | none => simp [h] at hi
    | some i => simp [h] at hi; simp [sizeOf, typeInfo, h, hi]
theorem SlTy.of {P : Program} {t e size bytes : Nat} {z : Value} (hu : P.underlying t = some (.slice e)) (hi : (P.info? e).map (fun i => (i.zero, i.size, i.bytes)) = some (some z, size, bytes))
    (hz : z.cells.size = size) (hp : 0 < size) (h1 : z.cells.toList.all Value.oneCell' = true) : SlTy P t e size bytes z := by
  refine ⟨hu, ?_, hz, hp, fun c hc => List.all_eq_true.1 h1 c hc⟩
  cases h : P.info? e with
  | none => simp [h] at hi
  | some i => simp [h] at hi; exact ⟨i, rfl, hi.1, hi.2.1, hi.2.2⟩
theorem SlTy.size {P : Program} {t e size bytes : Nat} {z : Value} (h : SlTy P t e size bytes z) (w : World) : (sizeOf e).run P w = .ok size w := by
  obtain ⟨i, hi, _, hs, _⟩ := h.info
  simp [sizeOf, typeInfo, hi, hs]

/-! ## Slices -/

theorem add_lit (b off j : Nat) : (⟨b, off, none⟩ : Addr).add j = ⟨b, off + j, none⟩ := by unfold Addr.add; split <;> simp_all

theorem Rep.sl_inv {w : World} {I : Im} {v : Value} {size : Nat} {cells : List DV} (h : Rep w I v (.sl size cells)) :
    ∃ A n c xs, v = .slice A n c ∧ n ≤ c ∧ cells.length = n * size ∧ Reps w I xs cells ∧ (∀ x ∈ xs, x.oneCell' = true) ∧
      (0 < n → ∃ b off, A = some ⟨b, off, none⟩ ∧ ∀ (j : Nat) x, xs[j]? = some x → w.cell? ⟨b, off + j, none⟩ = some x ∧ I b (off + j)) := by
  cases h with
  | nil A c => exact ⟨A, 0, c, [], rfl, by omega, by simp, Pw.nil, by simp, fun h => absurd h (by omega)⟩
  | sl b off n c size xs cells hn hcap hl hx hc h1 hr => exact ⟨_, n, c, xs, rfl, by omega, hl, ⟨hx, hr⟩, h1, fun _ => ⟨b, off, rfl, hc⟩⟩

theorem len_eq {n m size : Nat} {cells : List DV} (h : cells.length = n * size) (h' : cells.length = m * size) (hp : 0 < size) : n = m :=
  Nat.eq_of_mul_eq_mul_right hp (h.symm.trans h')

section
variable {P : Program} {r : Option Nat} {E : Env} {S : AState} {d : Nat} {ty : TypeId} {pos : String} {af : Array Edge} {g : Option (Nat × Bool)}

theorem run_len (w : World) {t e : TypeId} (hu : P.underlying t = some (.slice e)) (A : Option Addr) (n c : Nat) (x : Operand) (a : Act) (hx : a.eval x = .slice A n c) (o : Oper)
    (ho : o.op = .call { callee := .builtin .len, args := #[x], argTypes := #[t] }) : (execOp a.eval o).run P w = .ok (.value (.int .i64 n)) w := by
  unfold execOp
  simp only [ho, resolve, List.map_toArray, List.map_cons, List.map_nil, hx]
  simp [invoke, builtin, Builtin.len_, run_underlying hu, goInt]

theorem step_len_d {t e size bytes : Nat} {z : Value} {x : Operand} {cells : List DV} {n : Nat} (hn : d < E.n) (hT : SlTy P t e size bytes z) (hx : S.ev x = .d (.sl size cells)) (hl : cells.length = n * size) :
    Step P r E ⟨some d, .call { callee := .builtin .len, args := #[x], argTypes := #[t] }, ty, pos, af, g⟩ S (S.put d (.d (.v (.int .i64 n)))) :=
  step_val rfl hn (by simp) fun A w I ρ C hs => by
    have h := hs.ev x
    rw [hx] at h
    obtain ⟨A', n', c, xs, hv, _, hl', _⟩ := Rep.sl_inv h
    obtain rfl := len_eq hl' hl hT.pos
    exact run_len w hT.und A' n' c x A hv _ rfl
theorem step_len_row {t e size bytes : Nat} {z : Value} {x : Operand} {id : Nat} {sh : Bool} {cells : List DV} {n : Nat} (hn : d < E.n) (hT : SlTy P t e size bytes z) (hx : S.ev x = .row id) (hb : S.blk id = .row e size sh cells) (hl : cells.length = n * size) :
    Step P r E ⟨some d, .call { callee := .builtin .len, args := #[x], argTypes := #[t] }, ty, pos, af, g⟩ S (S.put d (.d (.v (.int .i64 n)))) :=
  step_val rfl hn (by simp) fun A w I ρ C hs => by
    have h := hs.ev x
    rw [hx] at h
    have hbk := hs.blks id
    rw [hb] at hbk
    obtain ⟨h0, n', xs, hl', hown, _⟩ := hbk
    obtain rfl := len_eq hl' hl hT.pos
    have hv : A.eval x = ρ id := h
    rcases hown.2 with ⟨h1, rfl⟩ | ⟨gb, cap, cur, h1, _⟩
    · exact run_len w hT.und _ _ _ x A (hv.trans h1) _ rfl
    · exact run_len w hT.und _ _ _ x A (hv.trans h1) _ rfl
theorem step_len_nil {t e : TypeId} {x : Operand} {A : Option Addr} {n c : Nat} (hn : d < E.n) (hu : P.underlying t = some (.slice e)) (hx : S.ev x = .d (.v (.slice A n c))) :
    Step P r E ⟨some d, .call { callee := .builtin .len, args := #[x], argTypes := #[t] }, ty, pos, af, g⟩ S (S.put d (.d (.v (.int .i64 n)))) :=
  step_val rfl hn (by simp) fun Ac w I ρ C hs => run_len w hu A n c x Ac (hs.val hx) _ rfl
theorem step_len_str {t : TypeId} {x : Operand} {s : ByteArray} (hn : d < E.n) (hu : P.underlying t = some .string) (hx : S.ev x = .d (.v (.string s))) :
    Step P r E ⟨some d, .call { callee := .builtin .len, args := #[x], argTypes := #[t] }, ty, pos, af, g⟩ S (S.put d (.d (.v (.int .i64 s.size)))) :=
  step_val rfl hn (by simp) fun Ac w I ρ C hs => by
    simp only [execOp, resolve, List.map_toArray, List.map_cons, List.map_nil, hs.val hx]
    simp [invoke, builtin, Builtin.len_, run_underlying hu, goInt]

theorem run_indexAt (w : World) {t e size : Nat} (hu : P.underlying t = some (.slice e)) (hsz : (sizeOf e).run P w = .ok size w) (b off n c : Nat) (kk : IntKind) (k : Nat) (hk : k < n) :
    (Instr.indexAt t (.slice (some ⟨b, off, none⟩) n c) (.int kk k)).run P w = .ok (.pointer (some ⟨b, off + k * size, none⟩)) w := by
  simp [Instr.indexAt, asIntOf, run_underlying hu, hsz, add_lit, hk]

theorem step_index_d {t e size bytes : Nat} {z : Value} {x ix : Operand} {cells : List DV} {n k : Nat} {kk : IntKind} {i : Int} (hn : d < E.n) (hT : SlTy P t e size bytes z) (hx : S.ev x = .d (.sl size cells))
    (hi : S.ev ix = .d (.v (.int kk i))) (hk : i = (k : Int)) (hl : cells.length = n * size) (hlt : k < n) :
    Step P r E ⟨some d, .indexAddr t x ix, ty, pos, af, g⟩ S (S.put d (.ip cells (k * size))) :=
  step_value rfl hn (by simp) fun A w I ρ C hs => by
    subst hk
    have h := hs.ev x
    rw [hx] at h
    obtain ⟨A', n', c, xs, hv, _, hl', hr, h1, hc⟩ := Rep.sl_inv h
    obtain rfl := len_eq hl' hl hT.pos
    obtain ⟨b, off, rfl, hc'⟩ := hc (by omega)
    refine ⟨_, ?_, b, off, xs, rfl, hr, h1, hc'⟩
    simp only [execOp, hv, hs.val hi, Sem.run_bind, run_indexAt w hT.und (hT.size w) b off n' c kk k hlt]
    rfl
theorem step_index_row {t e size bytes : Nat} {z : Value} {x ix : Operand} {id : Nat} {sh : Bool} {cells : List DV} {n k : Nat} {kk : IntKind} {i : Int} (hn : d < E.n) (hT : SlTy P t e size bytes z) (hx : S.ev x = .row id)
    (hb : S.blk id = .row e size sh cells) (hi : S.ev ix = .d (.v (.int kk i))) (hk : i = (k : Int)) (hl : cells.length = n * size) (hlt : k < n) :
    Step P r E ⟨some d, .indexAddr t x ix, ty, pos, af, g⟩ S (S.put d (.ptr id (k * size))) :=
  step_value rfl hn (by simp) fun A w I ρ C hs => by
    subst hk
    have h := hs.ev x
    rw [hx] at h
    have hv : A.eval x = ρ id := h
    have hbk := hs.blks id
    rw [hb] at hbk
    obtain ⟨h0, n', xs, hl', hown, _⟩ := hbk
    obtain rfl := len_eq hl' hl hT.pos
    rcases hown.2 with ⟨h1, rfl⟩ | ⟨gb, cap, cur, h1, _⟩
    · exact absurd hlt (by omega)
    · refine ⟨_, ?_, gb, by rw [h1]; rfl, rfl⟩
      simp only [execOp, hv, h1, hs.val hi, Sem.run_bind, run_indexAt w hT.und (hT.size w) gb 0 n' cap kk k hlt]
      simp

/-! ### Loads -/

theorem run_loadOne (w : World) {t : TypeId} (hT : OneTy P t) (b off : Nat) (v : Value) (hc : w.cell? ⟨b, off, none⟩ = some v) : (Instr.loadAt t (.pointer (some ⟨b, off, none⟩))).run P w = .ok v w := by
  simp [Instr.loadAt, Instr.sureAddr, loadVar, hT.agg, run_load, hc]
theorem run_loadAgg (w : World) {t n : Nat} (hT : AggTy P t n) (b off : Nat) (vs : List Value) (hl : vs.length = n) (hc : ∀ j v, vs[j]? = some v → w.cell? ⟨b, off + j, none⟩ = some v) :
    (Instr.loadAt t (.pointer (some ⟨b, off, none⟩))).run P w = .ok (.agg vs.toArray) w := by
  subst hl
  have := run_loadCells_list (P := P) w ⟨b, off, none⟩ vs (fun j v hj => by rw [add_lit]; exact hc j v hj)
  simp [Instr.loadAt, Instr.sureAddr, loadVar, hT.agg, hT.size, this]

theorem step_load_ip {t : TypeId} {x : Operand} {cells : List DV} {off : Nat} {e : DV} (hn : d < E.n) (hT : OneTy P t) (hx : S.ev x = .ip cells off) (hc : cells[off]? = some e) :
    Step P r E ⟨some d, .load t x, ty, pos, af, g⟩ S (S.put d (.d e)) :=
  step_value rfl hn (by simp) fun A w I ρ C hs => by
    have h := hs.ev x
    rw [hx] at h
    obtain ⟨b, o, xs, hv, hr, h1, hcc⟩ := h
    have hlt : off < xs.length := by rw [hr.1]; exact (List.getElem?_eq_some_iff.1 hc).1
    have hx' := List.getElem?_eq_getElem hlt
    refine ⟨xs[off], ?_, hr.2 off _ e hx' hc⟩
    simp only [execOp, hv, Sem.run_bind, run_loadOne w hT b (o + off) _ (hcc off _ hx').1]
    rfl
theorem step_load_ipA {t n : Nat} {x : Operand} {cells : List DV} {off : Nat} {es : List DV} (hn : d < E.n) (hT : AggTy P t n) (hx : S.ev x = .ip cells off) (hc : (cells.drop off).take n = es) (hl : es.length = n) :
    Step P r E ⟨some d, .load t x, ty, pos, af, g⟩ S (S.put d (.d (.agg es))) :=
  step_value rfl hn (by simp) fun A w I ρ C hs => by
    have h := hs.ev x
    rw [hx] at h
    obtain ⟨b, o, xs, hv, hr, h1, hcc⟩ := h
    have hlen : ((xs.drop off).take n).length = n := by
      have : ((cells.drop off).take n).length = n := by rw [hc]; exact hl
      simp only [List.length_take, List.length_drop] at this ⊢
      rw [hr.1]; exact this
    refine ⟨.agg ((xs.drop off).take n).toArray, ?_, .agg _ _ (by rw [hlen, hl]) (fun x hx => h1 x (List.mem_of_mem_drop (List.mem_of_mem_take hx))) (fun j x e hx he => ?_)⟩
    · simp only [execOp, hv, Sem.run_bind]
      rw [run_loadAgg w hT b (o + off) _ hlen]
      · rfl
      · intro j v hj
        rw [List.getElem?_take] at hj
        split at hj
        · rw [List.getElem?_drop] at hj
          rw [Nat.add_assoc]
          exact (hcc _ v hj).1
        · cases hj
    · subst hc
      rw [List.getElem?_take] at hx he
      split at hx
      · rename_i hlt
        rw [if_pos hlt] at he
        rw [List.getElem?_drop] at hx he
        exact hr.2 _ x e hx he
      · cases hx

theorem step_load_box {t : TypeId} {x : Operand} {id off eb : Nat} {cells : List AV} {av : AV} (hn : d < E.n) (hT : OneTy P t) (hx : S.ev x = .ptr id off) (hb : S.blk id = .box eb cells) (hc : cells[off]? = some av) :
    Step P r E ⟨some d, .load t x, ty, pos, af, g⟩ S (S.put d av) :=
  step_value rfl hn (by simp) fun A w I ρ C hs => by
    have h := hs.ev x
    rw [hx] at h
    obtain ⟨b, hρ, hv⟩ := h
    have hbk := hs.blks id
    rw [hb] at hbk
    obtain ⟨b', arr, hρ', hB, hh, h1, hr, hI⟩ := hbk
    rw [hρ'] at hρ
    simp [blockOf] at hρ
    subst hρ
    have hlt : off < arr.size := by rw [← Array.length_toList, hr.1]; exact (List.getElem?_eq_some_iff.1 hc).1
    have hx' : arr[off]? = some arr[off] := Array.getElem?_eq_getElem hlt
    refine ⟨arr[off], ?_, hr.2 off _ av (by simp [hlt]) hc⟩
    simp only [execOp, hv, Sem.run_bind]
    rw [run_loadOne w hT b' off arr[off] (by rw [cell_of_row w b' off arr eb (0, 0) hh]; exact hx')]
    rfl
theorem row_cells {w : World} {I : Im} {ρ : Nat → Value} {M : Nat → Prop} {id e size : Nat} {sh : Bool} {cells : List DV} (h : BlkOk w I ρ M id (.row e size sh cells)) {b : Nat} (hb : blockOf (ρ id) = some b) :
    ∃ xs, Reps w I xs cells ∧ (∀ x ∈ xs, x.oneCell' = true) ∧ ∀ (j : Nat) x, xs[j]? = some x → w.cell? ⟨b, j, none⟩ = some x := by
  obtain ⟨h0, n', xs, hl', hown, h1, hr, _⟩ := h
  refine ⟨xs, hr, h1, fun j x hj => ?_⟩
  rcases hown.2 with ⟨h1, rfl⟩ | ⟨gb, cap, cur, h1, _⟩
  · rw [h1] at hb; cases hb
  · rw [h1] at hb
    simp [blockOf] at hb
    subst hb
    have := hown.cells (g := gb) (by rw [h1]; rfl) j x hj
    rw [add_lit] at this
    simpa using this
theorem step_load_row {t : TypeId} {x : Operand} {id off e size : Nat} {sh : Bool} {cells : List DV} {y : DV} (hn : d < E.n) (hT : OneTy P t) (hx : S.ev x = .ptr id off) (hb : S.blk id = .row e size sh cells) (hc : cells[off]? = some y) :
    Step P r E ⟨some d, .load t x, ty, pos, af, g⟩ S (S.put d (.d y)) :=
  step_value rfl hn (by simp) fun A w I ρ C hs => by
    have h := hs.ev x
    rw [hx] at h
    obtain ⟨b, hρ, hv⟩ := h
    have hbk := hs.blks id
    rw [hb] at hbk
    obtain ⟨xs, hr, h1, hcc⟩ := row_cells hbk hρ
    have hlt : off < xs.length := by rw [hr.1]; exact (List.getElem?_eq_some_iff.1 hc).1
    have hx' := List.getElem?_eq_getElem hlt
    refine ⟨xs[off], ?_, hr.2 off _ y hx' hc⟩
    simp only [execOp, hv, Sem.run_bind, run_loadOne w hT b off _ (hcc off _ hx')]
    rfl
theorem step_load_rowA {t n : Nat} {x : Operand} {id off e size : Nat} {sh : Bool} {cells es : List DV} (hn : d < E.n) (hT : AggTy P t n) (hx : S.ev x = .ptr id off) (hb : S.blk id = .row e size sh cells)
    (hc : (cells.drop off).take n = es) (hl : es.length = n) :
    Step P r E ⟨some d, .load t x, ty, pos, af, g⟩ S (S.put d (.d (.agg es))) :=
  step_value rfl hn (by simp) fun A w I ρ C hs => by
    have h := hs.ev x
    rw [hx] at h
    obtain ⟨b, hρ, hv⟩ := h
    have hbk := hs.blks id
    rw [hb] at hbk
    obtain ⟨xs, hr, h1, hcc⟩ := row_cells hbk hρ
    have hlen : ((xs.drop off).take n).length = n := by
      have : ((cells.drop off).take n).length = n := by rw [hc]; exact hl
      simp only [List.length_take, List.length_drop] at this ⊢
      rw [hr.1]; exact this
    refine ⟨.agg ((xs.drop off).take n).toArray, ?_, .agg _ _ (by rw [hlen, hl]) (fun x hx => h1 x (List.mem_of_mem_drop (List.mem_of_mem_take hx))) (fun j x e hx he => ?_)⟩
    · simp only [execOp, hv, Sem.run_bind]
      rw [run_loadAgg w hT b off _ hlen]
      · rfl
      · intro j v hj
        rw [List.getElem?_take] at hj
        split at hj
        · rw [List.getElem?_drop] at hj
          exact hcc _ v hj
        · cases hj
    · subst hc
      rw [List.getElem?_take] at hx he
      split at hx
      · rename_i hlt
        rw [if_pos hlt] at he
        rw [List.getElem?_drop] at hx he
        exact hr.2 _ x e hx he
      · cases hx

/-! ### Stores -/

theorem step_skip {o : Oper} {S' : AState} (hd : o.dst = none) (hnd : ∀ c, o.op ≠ .defer c)
    (h : ∀ a w I ρ C, SatAt E S a w I ρ C → ∃ w', (execOp a.eval o).run P w = .ok .skip w' ∧ Sat E S' a w') : Step P r E o S S' := by
  rintro a w K Q ⟨I, ρ, C, hs⟩ hk
  obtain ⟨w', hr, hv⟩ := h a w I ρ C hs
  refine ⟨fun f _ => trivial, ?_⟩
  rw [Oper.semAt_eq _ _ _ hnd, hr]
  refine hk _ _ ?_
  rw [hd]
  exact hv

theorem cells_one {v : Value} (h : v.oneCell' = true) : v.cells = #[v] := by cases v <;> simp_all [Value.oneCell', Value.cells]

theorem run_store1 (w : World) {t : TypeId} (hT : OneTy P t) {b off e : Nat} {arr : Array Value} {v : Value} (hh : w.heap[b]? = some (.cells arr e (0, 0))) (hlt : off < arr.size) (h1 : v.oneCell' = true) :
    (Instr.storeAt t (.pointer (some ⟨b, off, none⟩)) v).run P w = .ok () (w.setRow b (arr.toList.set off v).toArray) := by
  have := run_storeCells_at P b off e [v] 0 arr w hh (by simp; omega) (by simpa using h1)
  have e1 : arr.toList.take off ++ [v] ++ arr.toList.drop (off + 1) = arr.toList.set off v := by
    rw [List.set_eq_take_append_cons_drop, if_pos (by simpa using hlt)]
    simp
  simp only [Nat.add_zero, List.length_singleton, e1] at this
  simp [Instr.storeAt, Instr.sureAddr, storeVar, hT.size, cells_one h1, this]
theorem run_storeN (w : World) {t n : Nat} (hT : AggTy P t n) {b off e : Nat} {arr : Array Value} {vs : List Value} (hh : w.heap[b]? = some (.cells arr e (0, 0))) (hlt : off + n ≤ arr.size) (hl : vs.length = n) (h1 : ∀ v ∈ vs, v.oneCell' = true) :
    (Instr.storeAt t (.pointer (some ⟨b, off, none⟩)) (.agg vs.toArray)).run P w = .ok () (w.setRow b (arr.toList.take off ++ vs ++ arr.toList.drop (off + n)).toArray) := by
  subst hl
  have := run_storeCells_at P b off e vs 0 arr w hh (by simpa using hlt) h1
  simp only [Nat.add_zero] at this
  simp only [Instr.storeAt, Instr.sureAddr, storeVar, Sem.run_bind, Sem.run_pure, Result.andThen_ok, hT.size, Value.cells]
  simp [this]

theorem grownBy_setRow (w : World) (b : Nat) (arr : Array Value) : w.grownBy (w.setRow b arr) (some b) :=
  ⟨rfl, rfl, rfl, by simp, fun k _ hk => setRow_other w b k arr (fun e => hk (by rw [e]))⟩
theorem same_setRow {w : World} {I : Im} {b : Nat} {arr : Array Value} (h : ∀ j, ¬ I b j) : Same I w (w.setRow b arr) := by
  intro b' j hi
  have : b' ≠ b := fun e => h j (e ▸ hi)
  exact KeepB.of (setRow_other w b b' arr this)

def AV.one : AV → Bool
  | .d (.v u) => u.oneCell'
  | .d (.sl _ _) => true
  | .d (.pt _) => true
  | .d (.fn _ _) => true
  | .d (.mp _ _) => true
  | .row _ => true
  | .ptr _ _ => true
  | .clo _ _ => true
  | _ => false

theorem one_of {w : World} {I : Im} {ρ : Nat → Value} {M : Nat → Prop} {S : AState} (hb : ∀ id, BlkOk w I ρ M id (S.blk id)) {v : Value} {av : AV} (h : Holds w I ρ v av) (h1 : av.one = true)
    (hr : ∀ id, av = .row id → S.blk id ≠ .none) : v.oneCell' = true := by
  cases av with
  | d x =>
    cases x with
    | v u => cases h; simpa [AV.one] using h1
    | sl s c => obtain ⟨A, n, c, xs, rfl, _⟩ := Rep.sl_inv h; rfl
    | agg c => simp [AV.one] at h1
    | pt c => cases h; rfl
    | fn f c => cases h; rfl
    | mp ks vs => cases h; rfl
  | row id =>
    have hv : v = ρ id := h
    have hk := hb id
    cases hx : S.blk id with
    | none => exact absurd hx (hr id rfl)
    | row e size sh cells =>
      rw [hx] at hk
      obtain ⟨_, n, xs, hl, hown, _⟩ := hk
      rcases hown.2 with ⟨hn, _⟩ | ⟨g, cap, cur, hn, _⟩ <;> rw [hv, hn] <;> rfl
    | box e cells =>
      rw [hx] at hk
      obtain ⟨b', arr, hn, _⟩ := hk
      rw [hv, hn]; rfl
    | map es =>
      rw [hx] at hk
      obtain ⟨b', ents, clock, hn, _⟩ := hk
      rw [hv, hn]; rfl
    | win e size k cells =>
      rw [hx] at hk
      obtain ⟨A, n, c, xs, hn, _⟩ := hk
      rw [hv, hn]; rfl
  | ptr id off => obtain ⟨b, _, hv⟩ := h; rw [hv]; rfl
  | clo f caps => obtain ⟨xs, hv, _⟩ := h; rw [hv]; rfl
  | _ => simp [AV.one] at h1

def rowOk (S : AState) : AV → Bool
  | .row id => match S.blk id with | .none => false | _ => true
  | _ => true
theorem rowOk_spec {S : AState} {av : AV} (h : rowOk S av = true) : ∀ id, av = .row id → S.blk id ≠ .none := by
  rintro id rfl e
  simp [rowOk, e] at h

theorem step_store_box {t : TypeId} {x y : Operand} {id off eb : Nat} {cells : List AV} (hT : OneTy P t) (hx : S.ev x = .ptr id off) (hb : S.blk id = .box eb cells) (hlt : off < cells.length)
    (h1 : (S.ev y).one = true) (hr : rowOk S (S.ev y) = true) (hE : E.wrB = true) :
    Step P r E ⟨none, .store t x y, ty, pos, af, g⟩ S (S.setBlk id (.box eb (cells.set off (S.ev y)))) :=
  step_skip rfl (by simp) fun A w I ρ C hs => by
    have h := hs.ev x
    rw [hx] at h
    obtain ⟨b, hρ, hv⟩ := h
    have hbk := hs.blks id
    rw [hb] at hbk
    obtain ⟨b', arr, hρ', hB, hh, h1', hpw, hI⟩ := hbk
    have hbb : b' = b := by rw [hρ'] at hρ; simpa [blockOf] using hρ
    subst hbb
    have hy := hs.ev y
    have hone := one_of hs.blks hy h1 (rowOk_spec hr)
    have hlt' : off < arr.size := by rw [← Array.length_toList, hpw.1]; exact hlt
    refine ⟨w.setRow b' (arr.toList.set off (A.eval y)).toArray, ?_, I, ρ, C, hs.modify (grownBy_setRow w b' _) (by rw [hb]; simp) hρ (same_setRow hI) ⟨b', _, hρ', hB, setRow_heap w b' arr _ eb _ hh, ?_, ?_, hI⟩ hE⟩
    · simp only [execOp, hv, Sem.run_bind, run_store1 w hT hh hlt' hone]
      rfl
    · intro u hu
      simp only at hu
      rcases List.mem_or_eq_of_mem_set hu with hu | hu
      · exact h1' u hu
      · rw [hu]; exact hone
    · exact (hpw.imp fun _ _ h => h.mono (same_setRow hI) (fun _ _ h => h)).set (hy.mono (same_setRow hI) (fun _ _ h => h)) off

theorem step_store_row {t : TypeId} {x y : Operand} {id off e size : Nat} {cells : List DV} {u : DV} (hT : OneTy P t) (hx : S.ev x = .ptr id off) (hb : S.blk id = .row e size false cells) (hlt : off < cells.length)
    (hy : S.ev y = .d u) (h1 : (AV.d u).one = true) (hE : E.wrB = true) :
    Step P r E ⟨none, .store t x y, ty, pos, af, g⟩ S (S.setBlk id (.row e size false (cells.set off u))) :=
  step_skip rfl (by simp) fun A w I ρ C hs => by
    have h := hs.ev x
    rw [hx] at h
    obtain ⟨b, hρ, hv⟩ := h
    have hbk := hs.blks id
    rw [hb] at hbk
    obtain ⟨h0, n, xs, hl, hown, h1', hpw, hI⟩ := hbk
    have hyv := hs.ev y
    rw [hy] at hyv
    have hone := one_of hs.blks hyv h1 (by intro _ e; cases e)
    rcases hown.2 with ⟨hn, _⟩ | ⟨gb, cap, cur, hn, hB, hh, hnc, hcm, hcs, htk⟩
    · rw [hn] at hρ; cases hρ
    · have hbb : gb = b := by rw [hn] at hρ; simpa [blockOf] using hρ
      subst hbb
      have hI' : ∀ j, ¬ I gb j := fun j hj => by have := (hI gb j (by rw [hn]; rfl) hj).1; cases this
      have hxl : xs.length = n * size := hown.1
      have hlt' : off < cur.size := by rw [hcs]; rw [hl] at hlt; exact Nat.lt_of_lt_of_le hlt (Nat.mul_le_mul_right _ hnc)
      refine ⟨w.setRow gb (cur.toList.set off (A.eval y)).toArray, ?_, I, ρ, C, hs.modify (grownBy_setRow w gb _) (by rw [hb]; simp) hρ (same_setRow hI') ⟨h0, n, xs.set off (A.eval y), by simp [hl], ⟨by simp [hxl], .inr ⟨gb, cap, _, hn, hB, setRow_heap w gb cur _ e _ hh, hnc, hcm, ?_, ?_⟩⟩, ?_, ?_, ?_⟩ hE⟩
      · simp only [execOp, hv, Sem.run_bind, run_store1 w hT hh hlt' hone]
        rfl
      · simp [hcs]
      · simp only [List.take_set, htk]
      · intro v hv'
        rcases List.mem_or_eq_of_mem_set hv' with hu | hu
        · exact h1' v hu
        · rw [hu]; exact hone
      · exact (hpw.imp fun _ _ h => h.mono (same_setRow hI') (fun _ _ h => h)).set (Rep.mono hyv (same_setRow hI') (fun _ _ h => h)) off
      · intro g' j hg' hi
        rw [hn] at hg'
        simp [Value.ownBlock] at hg'
        subst hg'
        exact absurd hi (hI' j)

/-! ### New blocks -/

theorem heap_alloc_lt' (w : World) (o : Obj) {b : Nat} (h : b < w.heap.size) : (w.alloc o).heap[b]? = w.heap[b]? := (World.grownBy_alloc w o none).block b h (by simp)
theorem grownBy_alloc' (w : World) (o : Obj) : w.grownBy (w.alloc o) none := World.grownBy_alloc w o none
theorem same_alloc {w : World} {I : Im} (o : Obj) (h : ∀ b j, I b j → b < w.heap.size) : Same I w (w.alloc o) := fun b j hi => KeepB.of (heap_alloc_lt' w o (h b j hi))

/-- A new block of cells, known as a row. -/
theorem SatAt.newRow {A : Act} {w : World} {I : Im} {ρ : Nat → Value} {C : Nat → Prop} (hs : SatAt E S A w I ρ C) {id e size n c : Nat} {xs rest : List Value} {cells : List DV} (hp : 0 < size) (hl : cells.length = n * size) (hc : n ≤ c) (hcm : c ≤ maxLen)
    (hr : rest.length = (c - n) * size) (hpw : Reps w I xs cells) (h1 : ∀ x ∈ xs, x.oneCell' = true) (hnm : E.nm id = none) :
    SatAt E ((S.kill id).setBlk id (.row e size false cells)) A (w.alloc (.cells (xs ++ rest).toArray e)) I (upd ρ id (.slice (some ⟨w.heap.size, 0, none⟩) n c)) C := by
  have hI : ∀ b j, I b j → b < w.heap.size := fun b j h => (hs.old b j h).1
  have hxl : xs.length = n * size := by rw [hpw.1, hl]
  refine hs.update (grownBy_alloc' w _) (by simp) (same_alloc _ hI) (fun b hb => .inl (by simp [blockOf] at hb; omega)) ⟨⟨hp, fun g hg => E.mineB g (by simp [upd, Value.ownBlock] at hg; have := E.size _ _ _ hs.frame; omega)⟩, n, xs, hl, ?_, h1, hpw.mono (same_alloc _ hI) (fun _ _ h => h), ?_⟩ (.inl rfl) hnm
  · have eu : upd ρ id (.slice (some ⟨w.heap.size, 0, none⟩) n c) id = .slice (some ⟨w.heap.size, 0, none⟩) n c := by simp [upd]
    rw [eu]
    refine ⟨hxl, .inr ⟨w.heap.size, c, _, rfl, Nat.zero_le _, heap_alloc_new w _, hc, hcm, ?_, ?_⟩⟩
    · simp only [List.size_toArray, List.length_append, hxl, hr, ← Nat.add_mul]
      congr 1
      omega
    · rw [← hxl]
      exact List.take_left
  · intro g' j hg' hi
    simp [upd, Value.ownBlock] at hg'
    have := hI g' j hi
    omega

/-- A new block of cells, known as a box. -/
theorem SatAt.newBox {A : Act} {w : World} {I : Im} {ρ : Nat → Value} {C : Nat → Prop} (hs : SatAt E S A w I ρ C) {id e : Nat} {arr : Array Value} {cells : List AV} (hpw : Pw (Holds w I ρ) arr.toList cells) (h1 : ∀ x ∈ arr.toList, x.oneCell' = true) (hnm : E.nm id = none) :
    SatAt E ((S.kill id).setBlk id (.box e (cells.map (killAV id)))) A (w.alloc (.cells arr e)) I (upd ρ id (.pointer (some ⟨w.heap.size, 0, none⟩))) C := by
  have hI : ∀ b j, I b j → b < w.heap.size := fun b j h => (hs.old b j h).1
  refine hs.update (grownBy_alloc' w _) (by simp) (same_alloc _ hI) (fun b hb => .inl (by simp [blockOf] at hb; omega)) ⟨w.heap.size, arr, by simp [upd], E.mineB _ (E.size _ _ _ hs.frame), heap_alloc_new w _, h1, ⟨by simpa using hpw.1, fun j x av hx hav => ?_⟩, fun j hj => by have := hI _ j hj; omega⟩ (.inl rfl) hnm
  rw [List.getElem?_map] at hav
  cases hc : cells[j]? with
  | none => simp [hc] at hav
  | some av' =>
    simp [hc] at hav
    subst hav
    exact (hpw.2 j x av' hx hc).upd (same_alloc _ hI) (fun _ _ h => h) id _

def dvs (vs : List Value) : List AV := vs.map fun v => .d (.v v)
theorem holds_dvs (w : World) (I : Im) (ρ : Nat → Value) (vs : List Value) : Pw (Holds w I ρ) vs (dvs vs) := by
  refine ⟨by simp [dvs], fun j x y hx hy => ?_⟩
  simp [dvs, hx] at hy
  subst hy
  exact .v x
theorem kill_dvs (id : Nat) (vs : List Value) : (dvs vs).map (killAV id) = dvs vs := by
  simp [dvs, killAV, AV.mentions]

theorem step_alloc {elem : TypeId} {zs : List Value} (hn : d < E.n) (hz : ((P.info? elem).bind (·.zero)).map (·.cells.toList) = some zs) (h1 : zs.all Value.oneCell' = true) (hnm : E.nm d = none) :
    Step P r E ⟨some d, .alloc elem, ty, pos, af, g⟩ S (((S.kill d).setBlk d (.box elem (dvs zs))).put d (.ptr d 0)) :=
  step_run (by simp) fun A w I ρ C hs => by
    cases hi : P.info? elem with
    | none => simp [hi] at hz
    | some i =>
      cases hzz : i.zero with
      | none => simp [hi, hzz] at hz
      | some z =>
        simp [hi, hzz] at hz
        have hb := hs.newBox (id := d) (e := elem) (arr := z.cells) (cells := dvs zs) (by rw [hz]; exact holds_dvs _ _ _ _) (by rw [hz]; exact fun x hx => List.all_eq_true.1 h1 x hx) hnm
        rw [kill_dvs] at hb
        refine ⟨.pointer (some ⟨w.heap.size, 0, none⟩), w.alloc (.cells z.cells elem), ?_, I, _, C, hb.put hn ⟨w.heap.size, by simp [upd, blockOf], rfl⟩⟩
        simp [execOp, Instr.alloc, zeroValue, typeInfo, hi, hzz, newVar, newRow]
end
end Go.AV

/- The layer of abstract values: what a temporary holds, said once; every rule of it is proved from the model. Conditions: none. -/
import Derived.Test.YtgeaoceiacdadaaDoorAv29
set_option linter.unusedSimpArgs false
set_option linter.unusedVariables false
set_option linter.unnecessarySimpa false
namespace Go.AV
open Go.RowKit Go.M

section
variable {P : Program} {r : Option Nat} {E : Env} {S : AState} {d : Nat} {ty : TypeId} {pos : String} {af : Array Edge} {g : Option (Nat × Bool)}

/-! ## Slices of array variables -/
theorem a_slice_arr {t e : TypeId} {n es id : Nat} {zs : List Value} {x : Operand} {kk : IntKind} (k : Nat) (hn : d < E.n) (hT : ArTy P t n es e zs) (hx : S.ev x = .ptr id 0) (hk : k < n) :
    AOp P r E S ⟨some d, .slice t x (some (.const (.int kk k))) none none, ty, pos, af, g⟩ d (.rs id (k * es) (n - k)) :=
  ⟨rfl, hn, fun S' ha => step_value rfl hn (by simp) fun A w I ρ C hs => by
    have h := hs.ev x
    rw [(ha.ev (x := x) (by simp [Op.operands])).trans hx] at h
    obtain ⟨b, h1, h2⟩ := h
    refine ⟨_, ?_, some ⟨b, k * es, none⟩, n - k, rfl, Nat.le_refl _, fun _ => ⟨b, h1, rfl⟩⟩
    have hne : n ≠ k := by omega
    have hb : (Instr.sliceBounds false n n (some (.int kk k)) none none).run P w = .ok (k, n, n) w := by
      simp [Instr.sliceBounds, run_sliceBound (P := P) w kk k n _ (by omega)]
    have hc : A.eval (.const (.int kk k)) = .int kk k := rfl
    simp only [execOp, Instr.sliceAt, Sem.run_bind, run_underlying hT.und, Result.andThen_ok, h2, Option.map_some, Option.map_none, hc, Instr.sureAddr, Sem.run_pure, hb, hT.size, hne, if_false, add_lit, Nat.zero_add]⟩

def splA (cells : List AV) (off : Nat) (news : List AV) : List AV := cells.take off ++ news ++ cells.drop (off + news.length)

theorem s_copy_box {t e bytes : Nat} {z : Value} {x y : Operand} {id eb off n1 m : Nat} {cells : List AV} {news : List DV} (hn : d < E.n) (hT : SlTy P t e 1 bytes z) (hx : S.ev x = .rs id off n1) (hb : S.blk id = .box eb cells) (hfit : off + n1 ≤ cells.length) (hp : 0 < n1)
    (hy : S.ev y = .d (.sl 1 news)) (hml : news.length = m) (hE : E.wrB = true) :
    Step P r E ⟨some d, .call { callee := .builtin .copy, args := #[x, y], argTypes := #[t, t] }, ty, pos, af, g⟩ S ((S.setBlk id (.box eb (splA cells off ((news.take (min m n1)).map AV.d)))).put d (.d (.v (.int .i64 (min m n1 : Nat))))) :=
  step_run (by simp) fun A w I ρ C hs => by
    have h1 := hs.ev x
    rw [hx] at h1
    obtain ⟨D, c1, hv, _, hadr⟩ := h1
    obtain ⟨b, hρ, rfl⟩ := hadr hp
    have h2 := hs.ev y
    rw [hy] at h2
    obtain ⟨B, m', c2, ys, hvy, _, hml', hpy, h1y, hcy⟩ := Rep.sl_inv h2
    have hmm : m' = m := by rw [← hml, hml']; omega
    subst hmm
    have hbk := hs.blks id
    rw [hb] at hbk
    obtain ⟨b', arr, hρ', hB, hh, h1', hpw, hI⟩ := hbk
    have hbb : b' = b := by rw [hρ'] at hρ; simpa [blockOf] using hρ
    subst hbb
    have hal : arr.size = cells.length := by rw [← Array.length_toList, hpw.1]
    have hyl : ys.length = m' := by rw [hpy.1, hml]
    have hsame := fun (arr' : Array Value) => same_setRow (w := w) (I := I) (b := b') (arr := arr') hI
    let zs := ys.take (min m' n1)
    have hzl : zs.length = min m' n1 := by simp only [zs, List.length_take, hyl]; omega
    have hz1 : ∀ u ∈ zs, u.oneCell' = true := fun u hu => h1y u (List.mem_of_mem_take hu)
    have hst := run_storeCells_at P b' off eb zs 0 arr w hh (by omega) hz1
    simp only [Nat.add_zero] at hst
    have hsat := hs.modify (grownBy_setRow w b' (arr.toList.take off ++ zs ++ arr.toList.drop (off + zs.length)).toArray) (by rw [hb]; simp) hρ (hsame _) (x := .box eb (splA cells off ((news.take (min m' n1)).map AV.d)))
      ⟨b', _, hρ', hB, setRow_heap w b' arr _ eb _ hh, by
        intro v hv'
        simp only [List.mem_append] at hv'
        rcases hv' with (hv' | hv') | hv'
        · exact h1' v (List.mem_of_mem_take hv')
        · exact hz1 v hv'
        · exact h1' v (List.mem_of_mem_drop hv'), by
        have hpw' := hpw.imp fun _ _ h => Holds.mono h (hsame (arr.toList.take off ++ zs ++ arr.toList.drop (off + zs.length)).toArray) (fun _ _ h => h)
        have hpz : Pw (Holds (w.setRow b' (arr.toList.take off ++ zs ++ arr.toList.drop (off + zs.length)).toArray) I ρ) zs ((news.take (min m' n1)).map AV.d) :=
          pw_d (Reps.mono (hpy.take _) (hsame _) (fun _ _ h => h))
        unfold splA
        rw [← hpz.1]
        exact Pw.append (Pw.append (hpw'.take off) hpz) (hpw'.drop _), hI⟩ hE
    have hload : (Builtin.firstCells 1 (min m' n1) (.slice B m' c2)).run P w = .ok zs.toArray w := by
      by_cases h0 : m' = 0
      · subst h0
        have hz : zs = [] := List.eq_nil_of_length_eq_zero (by rw [hzl]; omega)
        rw [hz, Nat.zero_min]
        cases B <;> simp [Builtin.firstCells, loadCells, loadCellsFrom]
      · obtain ⟨b2, o2, rfl, hcc⟩ := hcy (by omega)
        refine run_firstCells_some w 1 (min m' n1) ⟨b2, o2, none⟩ m' c2 zs (by rw [hzl]; omega) fun j v hj => ?_
        rw [add_lit]
        simp only [zs, List.getElem?_take] at hj
        split at hj
        · exact (hcc j v hj).1
        · cases hj
    have hcopy := run_copy_gen (P := P) (ty := ty) hT.und w _ (hT.size w) (some ⟨b', off, none⟩) B n1 c1 m' c2 zs hload hst
    refine ⟨_, _, ?_, I, ρ, C, hsat.put hn (.v _)⟩
    simp only [execOp, resolve, invoke, builtin, Sem.run_bind, Sem.run_pure, Result.andThen_ok, List.map_toArray, List.map_cons, List.map_nil, hv, hvy, hcopy]

/-- Cell i of an array into which l was copied. -/
def cpA (l : List Int) (i : Nat) (x : Int) : Int := (l[i]?).getD x
theorem spl8 (l : List Int) (y x0 x1 x2 x3 x4 x5 x6 x7 : Int) : splA ([y, x0, x1, x2, x3, x4, x5, x6, x7].map fun v => AV.d (di v)) 1 (((eI.all l).take (min l.length 8)).map AV.d) =
    [y, cpA l 0 x0, cpA l 1 x1, cpA l 2 x2, cpA l 3 x3, cpA l 4 x4, cpA l 5 x5, cpA l 6 x6, cpA l 7 x7].map fun v => AV.d (di v) := by
  match l with
  | [] => rfl
  | [_] => rfl
  | [_, _] => rfl
  | [_, _, _] => rfl
  | [_, _, _, _] => rfl
  | [_, _, _, _, _] => rfl
  | [_, _, _, _, _, _] => rfl
  | [_, _, _, _, _, _, _] => rfl
  | a :: b :: c :: dd :: e :: f :: gg :: h :: rest =>
    have : min (a :: b :: c :: dd :: e :: f :: gg :: h :: rest).length 8 = 8 := by simp only [List.length_cons]; omega
    rw [this]
    rfl

/-! ## Windows: elements -/
section win
variable {t e size bytes k n : Nat} {z : Value} {x : Operand} {id : Nat} {cells : List DV}

theorem a_index_win {ix : Operand} {kk : IntKind} {i : Int} {j : Nat} (hn : d < E.n) (hT : SlTy P t e size bytes z) (hx : S.ev x = .row id) (hb : S.blk id = .win e size k cells) (hi : S.ev ix = .d (.v (.int kk i))) (hj : i = (j : Int)) (hl : cells.length = n * size) (hlt : j < n) :
    AOp P r E S ⟨some d, .indexAddr t x ix, ty, pos, af, g⟩ d (.wp id (j * size)) :=
  ⟨rfl, hn, fun S' ha => step_value rfl hn (by simp) fun A w I ρ C hs => by
    subst hj
    have h1 := hs.ev x
    rw [(ha.ev (x := x) (by simp [Op.operands])).trans hx] at h1
    have hv : A.eval x = ρ id := h1
    have hk := hs.blks id
    rw [(ha.blk id).trans hb] at hk
    obtain ⟨_, A', c, xs, hρ, hcap, _, _, hadr⟩ := win_inv hk hl
    obtain ⟨b, off, arr, rfl, _⟩ := hadr (by omega)
    have hiv := hs.val ((ha.ev (x := ix) (by simp [Op.operands])).trans hi)
    refine ⟨_, ?_, b, off, n, c, hρ, rfl⟩
    simp only [execOp, hv, hρ, hiv, Sem.run_bind, run_indexAt w hT.und (hT.size w) b off n c kk j hlt]
    rfl⟩

theorem a_load_wp {tt : TypeId} {off : Nat} {y : DV} (hn : d < E.n) (hT : OneTy P tt) (hx : S.ev x = .wp id off) (hb : S.blk id = .win e size k cells) (hc : cells[off]? = some y) :
    AOp P r E S ⟨some d, .load tt x, ty, pos, af, g⟩ d (.d y) :=
  ⟨rfl, hn, fun S' ha => step_value rfl hn (by simp) fun A w I ρ C hs => by
    have h1 := hs.ev x
    rw [(ha.ev (x := x) (by simp [Op.operands])).trans hx] at h1
    obtain ⟨b, o, n0, c0, hρ, hv⟩ := h1
    have hk := hs.blks id
    rw [(ha.blk id).trans hb] at hk
    obtain ⟨A', n', c, xs, hρ', hnc, hp, hl', hr, h1', hA⟩ := hk
    rw [hρ] at hρ'
    cases hρ'
    have hlt : off < xs.length := by rw [hr.1]; exact (List.getElem?_eq_some_iff.1 hc).1
    have hxx := List.getElem?_eq_getElem hlt
    rcases hA with ⟨hA, _⟩ | ⟨b', off', arr, hA, hM, hh, hf, hcc, hI⟩
    · cases hA
    · cases hA
      refine ⟨xs[off], ?_, hr.2 off _ y hxx hc⟩
      have hcell : w.cell? ⟨b, o + off, none⟩ = some xs[off] := by rw [cell_of_row w b (o + off) arr e (0, 0) hh]; exact hcc off _ hxx
      simp only [execOp, hv, Sem.run_bind, run_loadOne w hT b _ _ hcell]
      rfl⟩

/-- Cells of a window are overwritten, behind what is shared. -/
theorem SatAt.spliceW {A : Act} {w : World} {I : Im} {ρ : Nat → Value} {C : Nat → Prop} (hs : SatAt E S A w I ρ C) {off b o : Nat} {news : List DV} {ys : List Value} {n0 c0 : Nat} (hb : S.blk id = .win e size k cells) (hρ : ρ id = .slice (some ⟨b, o, none⟩) n0 c0)
    (hk : k * size ≤ off) (hfit : off + news.length ≤ cells.length) (hpos : 0 < news.length) (hpy : Reps w I ys news) (h1y : ∀ u ∈ ys, u.oneCell' = true) (hE : E.wrB = true) :
    ∃ w', (storeCells ⟨b, o + off, none⟩ ys).run P w = .ok () w' ∧ SatAt E (S.setBlk id (.win e size k (spl cells off news))) A w' I ρ C := by
  have hbk := hs.blks id
  rw [hb] at hbk
  obtain ⟨A', n', c, xs, hρ', hnc, hp, hl', hr, h1', hA⟩ := hbk
  have hρ2 := hρ'
  rw [hρ] at hρ'
  cases hρ'
  have hyl : ys.length = news.length := hpy.1
  rcases hA with ⟨hA, h0⟩ | ⟨b', off', arr, hA, hM, hh, hf, hcc, hI⟩
  · cases hA
  · cases hA
    have hst := run_storeCells_at P b (o + off) e ys 0 arr w hh (by omega) h1y
    simp only [Nat.add_zero] at hst
    have hsame : Same I w (w.setRow b (arr.toList.take (o + off) ++ ys ++ arr.toList.drop (o + off + ys.length)).toArray) := by
      intro b2 j hi
      by_cases e' : b2 = b
      · subst e'
        refine KeepB.ofCell hh (setRow_cell hh _ ?_)
        have hout : j < o + off ∨ o + off + ys.length ≤ j := by
          rcases Nat.lt_or_ge j o with h | h
          · left; omega
          · rcases Nat.lt_or_ge j (o + n0 * size) with h2 | h2
            · have := hI j h h2 hi; left; omega
            · right; omega
        have hjs : o + off + ys.length ≤ arr.size := by omega
        simp only [List.getElem?_toArray, List.append_assoc]
        rcases hout with h | h
        · rw [List.getElem?_append_left (by simp; omega), List.getElem?_take, if_pos h]; simp
        · rw [List.getElem?_append_right (by simp; omega), List.getElem?_append_right (by simp; omega), List.getElem?_drop]
          simp only [List.length_take, Array.length_toList]
          rw [show o + off + ys.length + (j - min (o + off) arr.size - ys.length) = j by omega]
          simp
      · exact KeepB.of (setRow_other w b b2 _ e')
    have hspl : (spl cells off news).length = cells.length := by simp [spl]; omega
    refine ⟨_, hst, hs.modify (grownBy_setRow w b _) (by rw [hb]; simp) (by rw [hρ]; rfl) hsame ⟨_, n0, c0, xs.take off ++ ys ++ xs.drop (off + ys.length), hρ2, hnc, hp, by rw [hspl, hl'], ?_, ?_, .inr ⟨b, o, _, rfl, hM, setRow_heap w b arr _ e _ hh, ?_, ?_, hI⟩⟩ hE⟩
    · have hr' := hr.mono hsame (fun _ _ h => h)
      have hpy' := hpy.mono hsame (fun _ _ h => h)
      unfold spl
      rw [← hyl]
      exact Pw.append (Pw.append (hr'.take off) hpy') (hr'.drop (off + ys.length))
    · intro v hv'
      simp only [List.mem_append] at hv'
      rcases hv' with (hv' | hv') | hv'
      · exact h1' v (List.mem_of_mem_take hv')
      · exact h1y v hv'
      · exact h1' v (List.mem_of_mem_drop hv')
    · simp; omega
    · intro j u hj
      have hxl : xs.length = cells.length := hr.1
      have hjl : j < (xs.take off ++ ys ++ xs.drop (off + ys.length)).length := (List.getElem?_eq_some_iff.1 hj).1
      simp only [List.length_append, List.length_take, List.length_drop] at hjl
      simp only [List.getElem?_toArray, List.append_assoc] at hj ⊢
      rcases Nat.lt_or_ge j off with h | h
      · rw [List.getElem?_append_left (by simp; omega), List.getElem?_take, if_pos h] at hj
        rw [List.getElem?_append_left (by simp; omega), List.getElem?_take, if_pos (by omega)]
        have := hcc j u hj
        simpa using this
      · rcases Nat.lt_or_ge j (off + ys.length) with h2 | h2
        · rw [List.getElem?_append_right (by simp; omega), List.getElem?_append_left (by simp; omega)] at hj
          rw [List.getElem?_append_right (by simp; omega), List.getElem?_append_left (by simp; omega)]
          simp only [List.length_take, Array.length_toList] at hj ⊢
          rw [show o + j - min (o + off) arr.size = j - min off xs.length by omega]
          exact hj
        · rw [List.getElem?_append_right (by simp; omega), List.getElem?_append_right (by simp; omega), List.getElem?_drop] at hj
          rw [List.getElem?_append_right (by simp; omega), List.getElem?_append_right (by simp; omega), List.getElem?_drop]
          simp only [List.length_take, Array.length_toList] at hj ⊢
          rw [show off + ys.length + (j - min off xs.length - ys.length) = j by omega] at hj
          have := hcc j u hj
          rw [show o + off + ys.length + (o + j - min (o + off) arr.size - ys.length) = o + j by omega]
          simpa using this

theorem s_store_wp {tt : TypeId} {y : Operand} {off : Nat} {u : DV} (hT : OneTy P tt) (hx : S.ev x = .wp id off) (hb : S.blk id = .win e size k cells) (hk : k * size ≤ off) (hlt : off < cells.length) (hy : S.ev y = .d u) (h1 : (AV.d u).one = true) (hE : E.wrB = true) :
    Step P r E ⟨none, .store tt x y, ty, pos, af, g⟩ S (S.setBlk id (.win e size k (cells.set off u))) :=
  step_skip rfl (by simp) fun A w I ρ C hs => by
    have h := hs.ev x
    rw [hx] at h
    obtain ⟨b, o, n0, c0, hρ, hv⟩ := h
    have hyv := hs.ev y
    rw [hy] at hyv
    have hone := one_of hs.blks hyv h1 (by intro _ e; cases e)
    obtain ⟨w', hst, hsat⟩ := hs.spliceW (P := P) (off := off) (news := [u]) (ys := [A.eval y]) hb hρ hk (by simp only [List.length_cons, List.length_nil]; omega) (by simp) (Pw.cons hyv Pw.nil) (by simpa using hone) hE
    refine ⟨w', ?_, I, ρ, C, ?_⟩
    · simp only [execOp, hv, Instr.storeAt, Instr.sureAddr, storeVar, Sem.run_bind, Sem.run_pure, Result.andThen_ok, hT.agg, hT.size, cells_one hone]
      simp [hst]
    · have e1 : spl cells off [u] = cells.set off u := by
        unfold spl
        rw [List.set_eq_take_append_cons_drop, if_pos hlt]
        simp
      rw [e1] at hsat
      exact hsat

/-- Within one window. -/
theorem s_copy_ws {y : Operand} {n1 m off o2 : Nat} {t1 t2 : Bool} (hn : d < E.n) (hT : SlTy P t e size bytes z) (hx : S.ev x = .ws id (off * size) n1 t1) (hb : S.blk id = .win e size k cells) (hl : cells.length = n * size)
    (hy : S.ev y = .ws id (o2 * size) m t2) (hk : k ≤ off) (hf1 : off + n1 ≤ n) (hf2 : o2 + m ≤ n) (hE : E.wrB = true) :
    Step P r E ⟨some d, .call { callee := .builtin .copy, args := #[x, y], argTypes := #[t, t] }, ty, pos, af, g⟩ S
      ((S.setBlk id (.win e size k (spl cells (off * size) (((cells.drop (o2 * size)).take (m * size)).take (min m n1 * size))))).put d (.d (.v (.int .i64 (min m n1 : Nat))))) :=
  step_run (by simp) fun A w I ρ C hs => by
    have h1 := hs.ev x
    rw [hx] at h1
    obtain ⟨D, c1, hv, _, _, hadr⟩ := h1
    have h2 := hs.ev y
    rw [hy] at h2
    obtain ⟨B, c2, hvy, _, _, hadr2⟩ := h2
    have hmin : Nat.min m n1 = min m n1 := rfl
    by_cases h0 : min m n1 = 0
    · have hcg : SatAt E (S.setBlk id (.win e size k (spl cells (off * size) (((cells.drop (o2 * size)).take (m * size)).take (min m n1 * size))))) A w I ρ C := by
        refine hs.congr' (fun _ => rfl) (fun i => ?_)
        rw [blk_setBlk]
        by_cases e' : id = i
        · subst e'
          rw [hb, h0]
          simp [spl]
        · simp [e']
      refine ⟨.int .i64 (min m n1 : Nat), w, ?_, I, ρ, C, hcg.put hn (.v _)⟩
      have := run_copy_gen (P := P) (ty := ty) hT.und w w (hT.size w) D B n1 c1 m c2 [] (by rw [hmin, h0]; cases B <;> simp [Builtin.firstCells, loadCells, loadCellsFrom]) (by cases D <;> simp [storeCells])
      simp only [execOp, resolve, invoke, builtin, Sem.run_bind, Sem.run_pure, Result.andThen_ok, List.map_toArray, List.map_cons, List.map_nil, hv, hvy, this]
    · obtain ⟨b, o, n0, c0, hρ, rfl⟩ := hadr (by omega)
      obtain ⟨b2, o3, n3, c3, hρ3, rfl⟩ := hadr2 (by omega)
      rw [hρ] at hρ3
      cases hρ3
      have hbk := hs.blks id
      rw [hb] at hbk
      obtain ⟨hp, A', c, xs, hρ', hcap, hr, h1', hA⟩ := win_inv hbk hl
      rw [hρ] at hρ'
      cases hρ'
      obtain ⟨b', off', arr, hA', hM, hh, hf, hcc, hI⟩ := hA (by omega)
      cases hA'
      have hxl : xs.length = n * size := by rw [hr.1, hl]
      have hm1 : o2 * size + m * size ≤ n * size := by rw [← Nat.add_mul]; exact Nat.mul_le_mul_right _ hf2
      have hm2 : off * size + n1 * size ≤ n * size := by rw [← Nat.add_mul]; exact Nat.mul_le_mul_right _ hf1
      have hk1 : min m n1 * size ≤ m * size := Nat.mul_le_mul_right _ (by omega)
      have hk2 : min m n1 * size ≤ n1 * size := Nat.mul_le_mul_right _ (by omega)
      have hk3 : 0 < min m n1 * size := Nat.mul_pos (by omega) hp
      let zs := ((xs.drop (o2 * size)).take (m * size)).take (min m n1 * size)
      have hpz : Reps w I zs (((cells.drop (o2 * size)).take (m * size)).take (min m n1 * size)) := ((hr.drop _).take _).take _
      have hzl : zs.length = min m n1 * size := by simp only [zs, List.length_take, List.length_drop, hxl]; omega
      have hnl : (((cells.drop (o2 * size)).take (m * size)).take (min m n1 * size)).length = min m n1 * size := by rw [← hpz.1, hzl]
      obtain ⟨w', hst, hsat⟩ := hs.spliceW (P := P) (off := off * size) (ys := zs) hb hρ (Nat.mul_le_mul_right _ hk) (by rw [hnl, hl]; omega) (by rw [hnl]; exact hk3) hpz (fun u hu => h1' u (List.mem_of_mem_drop (List.mem_of_mem_take (List.mem_of_mem_take hu)))) hE
      have hload : (Builtin.firstCells size (min m n1) (.slice (some ⟨b, o + o2 * size, none⟩) m c2)).run P w = .ok zs.toArray w := by
        refine run_firstCells_some w size (min m n1) ⟨b, o + o2 * size, none⟩ m c2 zs hzl fun j v hj => ?_
        rw [add_lit, cell_of_row w b (o + o2 * size + j) arr e (0, 0) hh]
        simp only [zs, List.getElem?_take, List.getElem?_drop] at hj
        split at hj
        · split at hj
          · rw [Nat.add_assoc]; exact hcc _ v hj
          · cases hj
        · cases hj
      have := run_copy_gen (P := P) (ty := ty) hT.und w w' (hT.size w) (some ⟨b, o + off * size, none⟩) (some ⟨b, o + o2 * size, none⟩) n1 c1 m c2 zs hload hst
      refine ⟨_, w', ?_, I, ρ, C, hsat.put hn (.v _)⟩
      simp only [execOp, resolve, invoke, builtin, Sem.run_bind, Sem.run_pure, Result.andThen_ok, List.map_toArray, List.map_cons, List.map_nil, hv, hvy, this]
end win
end
end Go.AV

/- The layer of abstract values: what a temporary holds, said once; every rule of it is proved from the model. Conditions: none. -/
import Derived.Test.YtgeaoceiacdadaaDoorAv31
set_option linter.unusedSimpArgs false
set_option linter.unusedVariables false
set_option linter.unnecessarySimpa false
namespace Go.AV
open Go.RowKit Go.M

section
variable {P : Program} {r : Option Nat} {E : Env} {S : AState} {d : Nat} {ty : TypeId} {pos : String} {af : Array Edge} {g : Option (Nat × Bool)}

section win
variable {t e size bytes k n : Nat} {z : Value} {x : Operand} {id : Nat} {cells : List DV}

/-- The front of a window is written no more. -/
theorem weak_ws_d {tm h : Nat} {tt : Bool} (k' : Nat) (hn : tm < E.n) (ht : S.get tm = .ws id 0 h tt) (hb : S.blk id = .win e size k cells) (hl : cells.length = n * size) (hh : h ≤ n) (hk1 : k ≤ k') (hk2 : h ≤ k') :
    Weak E S ((S.setBlk id (.win e size k' cells)).put tm (.d (.sl size (cells.take (h * size))))) := by
  rintro a w ⟨I, ρ, C, hs⟩
  have hkk := hs.blks id
  rw [hb] at hkk
  obtain ⟨hp, A, c, xs, hρ, hnc, hr, h1, hA⟩ := win_inv hkk hl
  have hne : S.blk id ≠ .none := by rw [hb]; simp
  let I' : Im := fun b j => I b j ∨ (∃ off, A = some ⟨b, off, none⟩ ∧ off ≤ j ∧ j < off + h * size)
  have hsub : ∀ b j, I b j → I' b j := fun b j hi => .inl hi
  have key : ∀ i, ((S.setBlk id (.win e size k' cells)).put tm (.d (.sl size (cells.take (h * size))))).blk i ≠ .none → S.blk i ≠ .none := by
    intro i hi
    rw [blk_put, blk_setBlk] at hi
    by_cases e' : id = i
    · subst e'; exact hne
    · simp only [e', if_false] at hi; exact hi
  have hbo : ∀ b off, A = some ⟨b, off, none⟩ → blockOf (ρ id) = some b := fun b off e => by rw [hρ, e]; rfl
  have hhn : h * size ≤ n * size := Nat.mul_le_mul_right _ hh
  have hxl : xs.length = n * size := by rw [hr.1, hl]
  refine ⟨I', ρ, C, ⟨fun u => ?_, fun i => ?_, fun i i' b hn' hi hi' => hs.dist i i' b hn' (key i hi) (key i' hi'), by rw [ghost_put _ _ hn]; exact hs.frame, fun b j hi => hsub b j (hs.sub b j hi), fun b j hi => ?_, hs.size, hs.defers, fun b j hi => ?_, fun i b hi => hs.cB i b (key i hi), fun i v hv hi => hs.nm i v hv (key i hi)⟩⟩
  · rw [get_put]
    by_cases e' : tm = u
    · subst e'
      simp only [if_true]
      have hv := hs.tmps tm
      rw [ht] at hv
      obtain ⟨B, c', hv', hcc', _, hadr⟩ := hv
      rw [hv']
      by_cases h0 : h = 0
      · subst h0
        simp only [Nat.zero_mul, List.take_zero]
        exact .nil _ _ _
      · obtain ⟨b, o, n0, c0, hρ', rfl⟩ := hadr (by omega)
        rw [hρ] at hρ'
        cases hρ'
        obtain ⟨b', off', arr, hA', hM, hh', hf', hcc, hI⟩ := hA (by omega)
        cases hA'
        have hr' := Reps.mono (hr.take (h * size)) (same_refl I w) hsub
        refine .sl b (o + 0) h c' size (xs.take (h * size)) _ (by omega) hcc' (by rw [List.length_take, hl]; omega) hr'.1 (fun j x hj => ?_) (fun u hu => h1 u (List.mem_of_mem_take hu)) hr'.2
        have hjl := (List.getElem?_eq_some_iff.1 hj).1
        rw [List.length_take] at hjl
        rw [List.getElem?_take, if_pos (by omega)] at hj
        rw [Nat.add_zero]
        exact ⟨by rw [cell_of_row w b (o + j) arr e (0, 0) hh']; exact hcc j x hj, .inr ⟨o, rfl, by omega, by omega⟩⟩
    · simp only [e', if_false]
      exact (hs.tmps u).mono (same_refl I w) hsub
  · show BlkOk w I' ρ E.mine i ((S.setBlk id (.win e size k' cells)).blk i)
    rw [blk_setBlk]
    by_cases e' : id = i
    · subst e'
      simp only [if_true]
      refine ⟨A, n, c, xs, hρ, hnc, hp, hl, hr.mono (same_refl I w) hsub, h1, ?_⟩
      by_cases h0 : n = 0
      · obtain ⟨A2, n2, c2, xs2, hρ2, _, _, hl2, _, _, hA2⟩ := hkk
        rw [hρ] at hρ2
        cases hρ2
        rcases hA2 with hA2 | ⟨b, off, arr, hA2, hM, hh', hf', hcc, hI⟩
        · exact .inl hA2
        · refine .inr ⟨b, off, arr, hA2, hM, hh', hf', fun j x hj => ?_, fun j q1 q2 _ => ?_⟩
          · have := (List.getElem?_eq_some_iff.1 hj).1; rw [hxl, h0] at this; omega
          · rw [h0] at q2; omega
      · obtain ⟨b, off, arr, hA', hM, hh', hf', hcc, hI⟩ := hA (by omega)
        refine .inr ⟨b, off, arr, hA', hM, hh', hf', hcc, fun j q1 q2 hi => ?_⟩
        have m1 : k * size ≤ k' * size := Nat.mul_le_mul_right _ hk1
        have m2 : h * size ≤ k' * size := Nat.mul_le_mul_right _ hk2
        rcases hi with hi | ⟨off2, hA2, q3, q4⟩
        · have := hI j q1 q2 hi; omega
        · rw [hA'] at hA2; cases hA2; omega
    · simp only [e', if_false]
      refine (hs.blks i).widenI hsub fun b j hx hbi hi => ?_
      rcases hi with hi | ⟨off, hA', _⟩
      · exact hi
      · exact absurd hbi (hs.dist id i b e' hne hx (hbo b off hA'))
  · rcases hi with hi | ⟨off, hA', _⟩
    · exact hs.old b j hi
    · have := hs.blt id b hne (hbo b off hA'); exact ⟨this.2, .inr this.1⟩
  · rcases hi with hi | ⟨off, hA', _⟩
    · exact hs.cI b j hi
    · exact hs.cB id b hne (hbo b off hA')

/-- More of a window may be taken for shared. -/
theorem weak_win_k (k' : Nat) (hb : S.blk id = .win e size k cells) (hk : k ≤ k') : Weak E S (S.setBlk id (.win e size k' cells)) := by
  rintro a w ⟨I, ρ, C, h⟩
  have hk0 := h.blks id
  rw [hb] at hk0
  have hne : S.blk id ≠ .none := by rw [hb]; simp
  have key : ∀ i, (S.setBlk id (.win e size k' cells)).blk i ≠ .none → S.blk i ≠ .none := by
    intro i hi
    rw [blk_setBlk] at hi
    by_cases e' : id = i
    · subst e'; exact hne
    · simpa [e'] using hi
  refine ⟨I, ρ, C, ⟨h.tmps, fun i => ?_, fun i i' b hn hi hi' => h.dist i i' b hn (key i hi) (key i' hi'), h.frame, h.sub, h.old, h.size, h.defers, h.cI, fun i b hi => h.cB i b (key i hi), fun i v hv hi => h.nm i v hv (key i hi)⟩⟩
  rw [blk_setBlk]
  by_cases e' : id = i
  · subst e'
    simp only [if_true]
    obtain ⟨A, n, c, xs, hρ, hnc, hp, hl, hr, h1, hA⟩ := hk0
    refine ⟨A, n, c, xs, hρ, hnc, hp, hl, hr, h1, ?_⟩
    rcases hA with hA | ⟨b, off, arr, hA, hM, hh, hf, hc, hI⟩
    · exact .inl hA
    · exact .inr ⟨b, off, arr, hA, hM, hh, hf, hc, fun j q1 q2 hi => Nat.lt_of_lt_of_le (hI j q1 q2 hi) (Nat.add_le_add_left (Nat.mul_le_mul_right _ hk) _)⟩
  · simp only [e', if_false]; exact h.blks i

/-- 's = s[lo:]': the window shrinks. -/
theorem s_shrink {xl : Operand} {kk : IntKind} {il : Int} {l : Nat} (hn : d < E.n) (hT : SlTy P t e size bytes z) (hx : S.ev x = .row id) (hb : S.blk id = .win e size k cells) (hl : cells.length = n * size) (hlo : S.ev xl = .d (.v (.int kk il))) (el : il = (l : Int)) (hkl : k ≤ l) (hln : l ≤ n) (hnm : E.nm id = none) :
    Step P r E ⟨some d, .slice t x (some xl) none none, ty, pos, af, g⟩ S (((S.kill id).setBlk id (.win e size 0 (cells.drop (l * size)))).put d (.row id)) :=
  step_run (by simp) fun A w I ρ C hs => by
    subst el
    have h1 := hs.ev x
    rw [hx] at h1
    have hv : A.eval x = ρ id := h1
    have hvl := hs.val hlo
    have hk := hs.blks id
    rw [hb] at hk
    obtain ⟨A', n', c, xs, hρ, hnc, hp, hl', hr, h1', hA⟩ := hk
    obtain rfl := len_eq hl' hl hp
    have hmul : n' * size = (n' - l) * size + l * size := by rw [← Nat.add_mul]; congr 1; omega
    have hrun : (Instr.sliceAt t (.slice A' n' c) (some (.int kk l)) none none).run P w = .ok (.slice (if c = l then A' else A'.map (·.add (l * size))) (n' - l) (c - l)) w :=
      run_slice w hT.und (hT.size w) A' n' c l n' _ _ (.inr ⟨kk, rfl⟩) (.inl ⟨rfl, rfl⟩) hln (Nat.le_refl _) hnc
    have hbk : ∀ b, blockOf (.slice (if c = l then A' else A'.map (·.add (l * size))) (n' - l) (c - l)) = some b → blockOf (ρ id) = some b := by
      intro b hb'
      rw [hρ]
      cases A' with
      | none => split at hb' <;> simp [blockOf] at hb'
      | some ad =>
        split at hb'
        · exact hb'
        · have e3 : (ad.add (l * size)).block = ad.block := by unfold Addr.add; split <;> rfl
          simpa [blockOf, e3] using hb'
    have hup := hs.update (World.grownBy.refl w none) (id := id) (u := .slice (if c = l then A' else A'.map (·.add (l * size))) (n' - l) (c - l)) (x := .win e size 0 (cells.drop (l * size))) (by simp) (same_refl I w)
      (fun b hb' => .inr ⟨by rw [hb]; simp, hbk b hb'⟩) (by
        refine ⟨(if c = l then A' else A'.map (·.add (l * size))), n' - l, c - l, xs.drop (l * size), by simp [upd], by omega, hp, by rw [List.length_drop, hl']; omega, hr.drop _, fun u hu => h1' u (List.mem_of_mem_drop hu), ?_⟩
        rcases hA with ⟨rfl, h0⟩ | ⟨b, off, arr, rfl, hM, hh, hf, hc, hI⟩
        · left; constructor
          · split <;> rfl
          · omega
        · right
          by_cases hcl : c = l
          · have hn0 : n' - l = 0 := by omega
            refine ⟨b, off, arr, by rw [if_pos hcl], hM, hh, by rw [hn0]; omega, fun j u hj => ?_, fun j q1 q2 _ => by rw [hn0] at q2; omega⟩
            have := (List.getElem?_eq_some_iff.1 hj).1
            rw [List.length_drop, hr.1, hl', hmul, hn0] at this
            omega
          · refine ⟨b, off + l * size, arr, by rw [if_neg hcl]; simp [add_lit], hM, hh, by omega, fun j u hj => ?_, fun j q1 q2 hi => ?_⟩
            · rw [List.getElem?_drop] at hj
              rw [Nat.add_assoc]
              exact hc _ u hj
            · have := hI j (by omega) (by omega) hi
              have m1 : k * size ≤ l * size := Nat.mul_le_mul_right _ hkl
              omega) (.inl rfl) hnm
    refine ⟨_, w, ?_, I, _, C, hup.put hn (show Holds _ _ _ _ (AV.row id) from by simp [Holds, upd]; rfl)⟩
    simp only [execOp, hv, hρ, Sem.run_bind, Option.map_some, Option.map_none, hvl, hrun]
    rfl
end win

/-! ## The same, for lists -/
section lists
variable {α : Type} {en : En α} {l l' : List α} {t e bytes k : Nat} {z : Value} {x : Operand} {id : Nat}

theorem m_lenW (hn : d < E.n) (hT : SlTy P t e en.size bytes z) (hx : S.ev x = .row id) (hb : S.blk id = .win e en.size k (en.all l)) :
    AOp P r E S ⟨some d, .call { callee := .builtin .len, args := #[x], argTypes := #[t] }, ty, pos, af, g⟩ d (.d (.v (.int .i64 l.length))) := a_len_win hn hT hx hb (all_len en l)
theorem m_indexW {ix : Operand} {kk : IntKind} {i : Int} {v : α} (hn : d < E.n) (hT : SlTy P t e en.size bytes z) (hx : S.ev x = .row id) (hb : S.blk id = .win e en.size k (en.all l)) (hi : S.ev ix = .d (.v (.int kk i))) (hv : idx l i = some v) :
    AOp P r E S ⟨some d, .indexAddr t x ix, ty, pos, af, g⟩ d (.wp id (i.toNat * en.size)) :=
  a_index_win hn hT hx hb hi (idx_some hv).2.1 (all_len en l) (idx_some hv).2.2.1
theorem m_loadW {tt : TypeId} {i : Int} {v : α} {y : DV} (hn : d < E.n) (hT : OneTy P tt) (hx : S.ev x = .wp id (i.toNat * en.size)) (hb : S.blk id = .win e en.size k (en.all l)) (hv : idx l i = some v) (hy : (en.cells v)[0]? = some y) :
    AOp P r E S ⟨some d, .load tt x, ty, pos, af, g⟩ d (.d y) :=
  a_load_wp hn hT hx hb (by have := all_get en (idx_some hv).2.2.2 0 (by rw [← en.len v]; exact (List.getElem?_eq_some_iff.1 hy).1); rw [Nat.add_zero] at this; rw [this]; exact hy)
theorem m_sliceHW {hi : Operand} {k2 : IntKind} {b : Int} (hn : d < E.n) (hT : SlTy P t e en.size bytes z) (hx : S.ev x = .row id) (hb : S.blk id = .win e en.size k (en.all l)) (hhi : S.ev hi = .d (.v (.int k2 b))) (h : slc l 0 b = some l') :
    AOp P r E S ⟨some d, .slice t x none (some hi) none, ty, pos, af, g⟩ d (.ws id 0 b.toNat false) := by
  obtain ⟨rfl, h1, h2, h3⟩ := slc_some h
  have := a_slice_win (P := P) (r := r) (ty := ty) (pos := pos) (af := af) (g := g) hn hT hx hb (all_len en l) (lo := none) (hi := some hi) (l := 0) (h := b.toNat) ⟨rfl, ⟨k2, b, hhi, by omega⟩, by omega, h3⟩
  simpa only [Nat.zero_mul, Nat.sub_zero] using this
theorem m_sliceW {lo hi : Operand} {k1 k2 : IntKind} {a b : Int} (hn : d < E.n) (hT : SlTy P t e en.size bytes z) (hx : S.ev x = .row id) (hb : S.blk id = .win e en.size k (en.all l)) (hlo : S.ev lo = .d (.v (.int k1 a))) (hhi : S.ev hi = .d (.v (.int k2 b))) (h : slc l a b = some l') :
    AOp P r E S ⟨some d, .slice t x (some lo) (some hi) none, ty, pos, af, g⟩ d (.ws id (a.toNat * en.size) (b.toNat - a.toNat) false) := by
  obtain ⟨rfl, h1, h2, h3⟩ := slc_some h
  exact a_slice_win hn hT hx hb (all_len en l) (lo := some lo) (hi := some hi) (l := a.toNat) (h := b.toNat) ⟨⟨k1, a, hlo, by omega⟩, ⟨k2, b, hhi, by omega⟩, by omega, h3⟩
theorem m_slice3W {hi mx : Operand} {k2 k3 : IntKind} {b : Int} (hn : d < E.n) (hT : SlTy P t e en.size bytes z) (hx : S.ev x = .row id) (hb : S.blk id = .win e en.size k (en.all l)) (hhi : S.ev hi = .d (.v (.int k2 b))) (hmx : S.ev mx = .d (.v (.int k3 b))) (h : slc l 0 b = some l') :
    AOp P r E S ⟨some d, .slice t x none (some hi) (some mx), ty, pos, af, g⟩ d (.ws id 0 b.toNat true) := by
  obtain ⟨rfl, h1, h2, h3⟩ := slc_some h
  exact a_slice3_win hn hT hx hb (all_len en l) hhi hmx (by omega) h3
theorem m_slice3 {lo hi mx : Operand} {k1 k2 k3 : IntKind} {a b : Int} (hn : d < E.n) (hT : SlTy P t e en.size bytes z) (hx : S.ev x = .d (dsl en l)) (hlo : S.ev lo = .d (.v (.int k1 a))) (hhi : S.ev hi = .d (.v (.int k2 b))) (hmx : S.ev mx = .d (.v (.int k3 b))) (h : slc l a b = some l') :
    AOp P r E S ⟨some d, .slice t x (some lo) (some hi) (some mx), ty, pos, af, g⟩ d (.d (dsl en l')) := by
  obtain ⟨rfl, h1, h2, h3⟩ := slc_some h
  exact a_slice3_d hn hT hx (all_len en l) (l := a.toNat) (h := b.toNat) (m := b.toNat) hlo (by omega) hhi (by omega) hmx (by omega) (by omega) (by omega) h3 (by rw [all_take, all_drop])
/-- Part of a window, looked at. -/
theorem View.front {b : Int} {tt : Bool} (hb : S.blk id = .win e en.size k (en.all l)) (h : slc l 0 b = some l') : View S (.ws id 0 b.toNat tt) (dsl en l') := by
  obtain ⟨rfl, h1, h2, h3⟩ := slc_some h
  have := View.ws (off := 0) (n := b.toNat) (tt := tt) hb (all_len en l) (by omega)
  simp only [Nat.zero_mul, List.drop_zero] at this
  have e1 : en.all ((l.take b.toNat).drop (0 : Int).toNat) = (en.all l).take (b.toNat * en.size) := by simp [all_take]
  unfold dsl
  rw [e1]
  exact this
theorem m_storeW {tt : TypeId} {y : Operand} {i : Int} {v : α} {u : DV} {w0 : α} (hT : OneTy P tt) (hx : S.ev x = .wp id (i.toNat * en.size)) (hb : S.blk id = .win e en.size 0 (en.all l)) (hs1 : en.size = 1) (hi : idx l i = some w0) (hv : setM l i v = some l') (hy : S.ev y = .d u) (hu : en.cells v = [u]) (h1 : (AV.d u).one = true) (hE : E.wrB = true) :
    Step P r E ⟨none, .store tt x y, ty, pos, af, g⟩ S (S.setBlk id (.win e en.size 0 (en.all l'))) := by
  obtain ⟨rfl, h2, h3⟩ := setM_some hv
  have hl := all_len en l
  rw [hs1, Nat.mul_one] at hl
  have hx' : S.ev x = .wp id i.toNat := by rw [hx, hs1, Nat.mul_one]
  have := s_store_wp (P := P) (r := r) (ty := ty) (pos := pos) (af := af) (g := g) hT hx' hb (by omega) (by omega) hy h1 hE
  have e1 : en.all (l.set i.toNat v) = (en.all l).set i.toNat u := by
    unfold En.all
    clear hi hx hx' hl hb hv this h2 h3
    induction l generalizing i with
    | nil => rfl
    | cons a l ih =>
      have ha : (en.cells a).length = 1 := by rw [en.len, hs1]
      match hca : en.cells a, ha with
      | [q], _ =>
        cases hi : i.toNat with
        | zero => simp [hca, hu]
        | succ j =>
          have := ih (i := (j : Int))
          simp only [Int.toNat_natCast] at this
          simp only [List.set_cons_succ, List.flatMap_cons, hca, this, List.singleton_append, List.set_cons_succ]
  rw [e1]
  exact this
/-- What 'copy(l[a1:b1], l[a2:b2])' makes of l. -/
def cpM (l : List α) (a1 b1 a2 b2 : Int) : List α := l.take a1.toNat ++ ((l.drop a2.toNat).take (b2.toNat - a2.toNat)).take (min (b2.toNat - a2.toNat) (b1.toNat - a1.toNat)) ++ l.drop (a1.toNat + (((l.drop a2.toNat).take (b2.toNat - a2.toNat)).take (min (b2.toNat - a2.toNat) (b1.toNat - a1.toNat))).length)
theorem m_copyW {y : Operand} {a1 b1 a2 b2 : Int} {l1 l2 : List α} {t1 t2 : Bool} (hn : d < E.n) (hT : SlTy P t e en.size bytes z) (hx : S.ev x = .ws id (a1.toNat * en.size) (b1.toNat - a1.toNat) t1) (hb : S.blk id = .win e en.size 0 (en.all l)) (hy : S.ev y = .ws id (a2.toNat * en.size) (b2.toNat - a2.toNat) t2)
    (h1 : slc l a1 b1 = some l1) (h2 : slc l a2 b2 = some l2) (hE : E.wrB = true) :
    Step P r E ⟨some d, .call { callee := .builtin .copy, args := #[x, y], argTypes := #[t, t] }, ty, pos, af, g⟩ S ((S.setBlk id (.win e en.size 0 (en.all (cpM l a1 b1 a2 b2)))).put d .top) := by
  obtain ⟨rfl, p1, p2, p3⟩ := slc_some h1
  obtain ⟨rfl, q1, q2, q3⟩ := slc_some h2
  have := s_copy_ws (P := P) (r := r) (ty := ty) (pos := pos) (af := af) (g := g) hn hT hx hb (all_len en l) hy (Nat.zero_le _) (by omega) (by omega) hE
  have e1 : spl (en.all l) (a1.toNat * en.size) ((((en.all l).drop (a2.toNat * en.size)).take ((b2.toNat - a2.toNat) * en.size)).take (min (b2.toNat - a2.toNat) (b1.toNat - a1.toNat) * en.size)) = en.all (cpM l a1 b1 a2 b2) := by
    rw [all_drop, all_take, all_take]
    unfold spl cpM
    rw [all_len, all_take, ← Nat.add_mul, all_drop, ← all_append, ← all_append]
  rw [e1] at this
  intro a w K Q hs hk
  refine this a w K Q hs fun a' w' ⟨I, ρ, C, h⟩ => hk a' w' ⟨I, ρ, C, ⟨fun u => ?_, h.blks, h.dist, by have := h.frame; rw [ghost_put _ _ hn] at this ⊢; exact this, h.sub, h.old, h.size, h.defers, h.cI, h.cB, h.nm⟩⟩
  have q := h.tmps u
  rw [get_put] at q ⊢
  by_cases e' : d = u
  · simp only [e', if_true]; trivial
  · simp only [e', if_false] at q ⊢; exact q
theorem m_appendW {s : Operand} {b : Int} {l1 m : List α} (hn : d < E.n) (hT : SlTy P t e en.size bytes z) (hs : S.ev s = .ws id 0 b.toNat true) (hb : S.blk id = .win e en.size k (en.all l)) (h1 : slc l 0 b = some l1) (hx : S.ev x = .d (dsl en m)) (hm : m.length ≠ 0) (ha : app l1 m = some l') (hby2 : bytes ≤ 32768) (hnm : E.nm d = none) :
    Step P r E ⟨some d, .call { callee := .builtin .append, args := #[s, x], argTypes := #[t, t] }, ty, pos, af, g⟩ S (((S.kill d).setBlk d (.row e en.size false (en.all l'))).put d (.row d)) := by
  obtain ⟨rfl, p1, p2, p3⟩ := slc_some h1
  obtain ⟨rfl, hle⟩ := app_some ha
  have hll : ((l.take b.toNat).drop (0 : Int).toNat).length = b.toNat := by simp; omega
  rw [hll] at hle
  have := s_append_ws (P := P) (r := r) (ty := ty) (pos := pos) (af := af) (g := g) (off := 0) (h := b.toNat) hn hT (by rw [Nat.zero_mul]; exact hs) hb (all_len en l) (by omega) hx (all_len en m) (by omega) (by unfold LIM at hle; unfold maxLen; omega) (by
    have h1 : (b.toNat + m.length) * bytes ≤ 4294967296 * bytes := Nat.mul_le_mul_right _ hle
    have h2 : 4294967296 * bytes ≤ 4294967296 * 32768 := Nat.mul_le_mul_left _ hby2
    omega) hnm
  have e1 : en.all ((l.take b.toNat).drop (0 : Int).toNat ++ m) = ((en.all l).drop (0 * en.size)).take (b.toNat * en.size) ++ en.all m := by
    rw [all_append]; simp [all_take]
  rw [e1]
  exact this
/-- The front of a window, as data from now on. -/
theorem weak_front {tm : Nat} {b : Int} {tt : Bool} (hn : tm < E.n) (ht : S.get tm = .ws id 0 b.toNat tt) (hb : S.blk id = .win e en.size 0 (en.all l)) (h : slc l 0 b = some l') :
    Weak E S ((S.setBlk id (.win e en.size b.toNat (en.all l))).put tm (.d (dsl en l'))) := by
  obtain ⟨rfl, h1, h2, h3⟩ := slc_some h
  have := weak_ws_d (E := E) (S := S) b.toNat hn ht hb (all_len en l) h3 (Nat.zero_le _) (Nat.le_refl _)
  have e1 : en.all ((l.take b.toNat).drop (0 : Int).toNat) = (en.all l).take (b.toNat * en.size) := by simp [all_take]
  unfold dsl
  rw [e1]
  exact this
theorem m_shrink {xl : Operand} {kk : IntKind} {a : Int} (hn : d < E.n) (hT : SlTy P t e en.size bytes z) (hx : S.ev x = .row id) (hb : S.blk id = .win e en.size k (en.all l)) (hlo : S.ev xl = .d (.v (.int kk a))) (h : slc l a l.length = some l') (hk : k ≤ a.toNat) (hnm : E.nm id = none) :
    Step P r E ⟨some d, .slice t x (some xl) none none, ty, pos, af, g⟩ S (((S.kill id).setBlk id (.win e en.size 0 (en.all l'))).put d (.row id)) := by
  obtain ⟨rfl, h1, h2, h3⟩ := slc_some h
  have := s_shrink (P := P) (r := r) (ty := ty) (pos := pos) (af := af) (g := g) (l := a.toNat) hn hT hx hb (all_len en l) hlo (by omega) hk (by omega) hnm
  have e1 : en.all ((l.take (l.length : Int).toNat).drop a.toNat) = (en.all l).drop (a.toNat * en.size) := by simp [all_drop]
  rw [e1]
  exact this
end lists
end
end Go.AV

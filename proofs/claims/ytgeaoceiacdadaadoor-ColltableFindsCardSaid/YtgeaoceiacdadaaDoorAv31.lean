/- The layer of abstract values: what a temporary holds, said once; every rule of it is proved from the model. Conditions: none. -/
import Derived.Test.YtgeaoceiacdadaaDoorAv30
set_option linter.unusedSimpArgs false
set_option linter.unusedVariables false
set_option linter.unnecessarySimpa false
namespace Go.AV
open Go.RowKit Go.M

section
variable {P : Program} {r : Option Nat} {E : Env} {S : AState} {d : Nat} {ty : TypeId} {pos : String} {af : Array Edge} {g : Option (Nat × Bool)}

/-! ## Slices with three bounds -/
theorem rep_slice3 {w : World} {I : Im} {A : Option Addr} {n c l h m size : Nat} {cells : List DV} (hr : Rep w I (.slice A n c) (.sl size cells)) (hl : cells.length = n * size) (hp : 0 < size) (hle : l ≤ h) (hn : h ≤ n) (hm : h ≤ m) (hc : m ≤ c) :
    Rep w I (.slice (if m = l then A else A.map (·.add (l * size))) (h - l) (m - l)) (.sl size ((cells.take (h * size)).drop (l * size))) := by
  by_cases h0 : h - l = 0
  · have : (cells.take (h * size)).drop (l * size) = [] := by
      apply List.drop_of_length_le
      rw [List.length_take]
      have : h * size ≤ l * size := Nat.mul_le_mul_right _ (by omega)
      omega
    rw [this, h0]
    exact .nil _ _ _
  · obtain ⟨A', n', c', xs, hv, hcap, hl', hpw, h1, hcc⟩ := Rep.sl_inv hr
    cases hv
    obtain ⟨b, off, rfl, hc2⟩ := hcc (by omega)
    rw [if_neg (by omega)]
    simp only [Option.map_some, add_lit]
    have hhn : h * size ≤ n * size := Nat.mul_le_mul_right _ hn
    have hlen : ((cells.take (h * size)).drop (l * size)).length = (h - l) * size := by
      rw [List.length_drop, List.length_take, hl, Nat.sub_mul]; omega
    have hpw2 := (hpw.take (h * size)).drop (l * size)
    refine .sl b (off + l * size) (h - l) (m - l) size ((xs.take (h * size)).drop (l * size)) _ (by omega) (by omega) hlen hpw2.1 (fun j x hj => ?_) (fun x hx => h1 x (List.mem_of_mem_take (List.mem_of_mem_drop hx))) hpw2.2
    rw [List.getElem?_drop, List.getElem?_take] at hj
    split at hj
    · rw [Nat.add_assoc]; exact hc2 _ x hj
    · cases hj

theorem a_slice3_d {t e size bytes : Nat} {z : Value} {x xl xh xm : Operand} {cells cells' : List DV} {n l h m : Nat} {k1 k2 k3 : IntKind} {il ih im : Int} (hn : d < E.n) (hT : SlTy P t e size bytes z) (hx : S.ev x = .d (.sl size cells)) (hl : cells.length = n * size)
    (h1 : S.ev xl = .d (.v (.int k1 il))) (e1 : il = (l : Int)) (h2 : S.ev xh = .d (.v (.int k2 ih))) (e2 : ih = (h : Int)) (h3 : S.ev xm = .d (.v (.int k3 im))) (e3 : im = (m : Int)) (hle : l ≤ h) (hhm : h ≤ m) (hmn : m ≤ n) (hc : (cells.take (h * size)).drop (l * size) = cells') :
    AOp P r E S ⟨some d, .slice t x (some xl) (some xh) (some xm), ty, pos, af, g⟩ d (.d (.sl size cells')) :=
  ⟨rfl, hn, fun S' ha => step_value rfl hn (by simp) fun A w I ρ C hs => by
    subst e1; subst e2; subst e3
    have q := hs.ev x
    rw [(ha.ev (x := x) (by simp [Op.operands])).trans hx] at q
    have q' : Rep w I (A.eval x) (.sl size cells) := q
    obtain ⟨A', n', c, xs, hv, hcap, hl', _⟩ := Rep.sl_inv q'
    obtain rfl := len_eq hl' hl hT.pos
    have v1 := hs.val ((ha.ev (x := xl) (by simp [Op.operands])).trans h1)
    have v2 := hs.val ((ha.ev (x := xh) (by simp [Op.operands])).trans h2)
    have v3 := hs.val ((ha.ev (x := xm) (by simp [Op.operands])).trans h3)
    subst hc
    rw [hv] at q'
    refine ⟨_, ?_, rep_slice3 q' hl hT.pos hle (by omega) hhm (by omega : m ≤ c)⟩
    simp only [execOp, hv, Sem.run_bind, Option.map_some, v1, v2, v3, run_slice3 w hT.und (hT.size w) A' n' c l h m _ k2 k3 (.inr ⟨k1, rfl⟩) hle hhm (by omega)]
    rfl⟩

section win
variable {t e size bytes k n : Nat} {z : Value} {x : Operand} {id : Nat} {cells : List DV}

/-- 's[:h:h]' of a window: its capacity is its length. -/
theorem a_slice3_win {xh xm : Operand} {k2 k3 : IntKind} {ih : Int} {h : Nat} (hn : d < E.n) (hT : SlTy P t e size bytes z) (hx : S.ev x = .row id) (hbk : S.blk id = .win e size k cells) (hl : cells.length = n * size)
    (h2 : S.ev xh = .d (.v (.int k2 ih))) (h3 : S.ev xm = .d (.v (.int k3 ih))) (e2 : ih = (h : Int)) (hhn : h ≤ n) :
    AOp P r E S ⟨some d, .slice t x none (some xh) (some xm), ty, pos, af, g⟩ d (.ws id 0 h true) :=
  ⟨rfl, hn, fun S' ha => step_value rfl hn (by simp) fun A w I ρ C hs => by
    subst e2
    have h1 := hs.ev x
    rw [(ha.ev (x := x) (by simp [Op.operands])).trans hx] at h1
    have hv : A.eval x = ρ id := h1
    have hk := hs.blks id
    rw [(ha.blk id).trans hbk] at hk
    obtain ⟨_, A', c, xs, hρ, hcap, _, _, hadr⟩ := win_inv hk hl
    have v2 := hs.val ((ha.ev (x := xh) (by simp [Op.operands])).trans h2)
    have v3 := hs.val ((ha.ev (x := xm) (by simp [Op.operands])).trans h3)
    refine ⟨_, ?_, (if h = 0 then A' else A'.map (·.add (0 * size))), h - 0, rfl, by omega, (by simp), fun h0 => ?_⟩
    · simp only [execOp, hv, hρ, Sem.run_bind, Option.map_none, Option.map_some, v2, v3, run_slice3 w hT.und (hT.size w) A' n c 0 h h none k2 k3 (.inl ⟨rfl, rfl⟩) (by omega) (by omega) (by omega)]
      rfl
    · obtain ⟨b, off, arr, rfl, _⟩ := hadr (by omega)
      refine ⟨b, off, n, c, hρ, ?_⟩
      rw [if_neg (by omega)]
      simp [add_lit]⟩

/-- append to a slice of a window that has no room: a row of its own. -/
theorem s_append_ws {s : Operand} {off m : Nat} {news : List DV} {h : Nat} (hn : d < E.n) (hT : SlTy P t e size bytes z) (hs' : S.ev s = .ws id (off * size) h true) (hb : S.blk id = .win e size k cells) (hl : cells.length = n * size) (hfit : off + h ≤ n)
    (hx : S.ev x = .d (.sl size news)) (hl2 : news.length = m * size) (hm : 0 < m) (h63 : h + m ≤ maxLen) (hbytes : (h + m) * bytes ≤ 140737488355328) (hnm : E.nm d = none) :
    Step P r E ⟨some d, .call { callee := .builtin .append, args := #[s, x], argTypes := #[t, t] }, ty, pos, af, g⟩ S (((S.kill d).setBlk d (.row e size false (((cells.drop (off * size)).take (h * size)) ++ news))).put d (.row d)) :=
  step_run (by simp) fun A w I ρ C hs => by
    obtain ⟨i, hi, hz, rfl, rfl⟩ := hT.info
    have h1 := hs.ev s
    rw [hs'] at h1
    obtain ⟨B, c, hv, _, htt, hadr⟩ := h1
    have hcn := htt rfl
    subst hcn
    have h2 := hs.ev x
    rw [hx] at h2
    obtain ⟨B2, m', c2, ys, hvy, _, hml', hpy, h1y, hcy⟩ := Rep.sl_inv h2
    obtain rfl := len_eq hml' hl2 hT.pos
    obtain ⟨b2, o2, rfl, hcc2⟩ := hcy (by omega)
    have hbk := hs.blks id
    rw [hb] at hbk
    obtain ⟨hp, A', c3, xs, hρ, hcap, hr, h1', hA⟩ := win_inv hbk hl
    have hm1 : off * i.size + c * i.size ≤ n * i.size := by rw [← Nat.add_mul]; exact Nat.mul_le_mul_right _ hfit
    have hxl : xs.length = n * i.size := by rw [hr.1, hl]
    let olds := (xs.drop (off * i.size)).take (c * i.size)
    have hol : olds.length = c * i.size := by simp only [olds, List.length_take, List.length_drop, hxl]; omega
    have hpo : Reps w I olds ((cells.drop (off * i.size)).take (c * i.size)) := (hr.drop _).take _
    have h63' : ((c + m' : Nat) : Int) ≤ 9223372036854775807 := by simp only [maxLen] at h63; omega
    have hrun : ∃ old, (Builtin.append_ #[t, t] ty #[.slice B c c, .slice (some ⟨b2, o2, none⟩) m' c2]).run P w = .ok (.slice (some ⟨w.heap.size, 0, none⟩) (c + m') (grownCap w (c + m') old e))
        (w.drew.alloc (.cells ((olds ++ ys).toArray ++ Builtin.zeroCells z.cells (grownCap w (c + m') old e - (c + m'))) e)) := by
      have hsrc : ∀ (j : Nat) u, ys[j]? = some u → w.cell? ((⟨b2, o2, none⟩ : Addr).add j) = some u := fun j u hu => by rw [add_lit]; exact (hcc2 j u hu).1
      have hyl : ys.length = m' * i.size := by rw [hpy.1, hl2]
      by_cases h0 : c = 0
      · subst h0
        have ho : olds = [] := List.eq_nil_of_length_eq_zero (by rw [hol]; omega)
        rw [ho]
        cases B with
        | none =>
          have := run_append_nil (P := P) w t ty e i z hT.und hi hz ⟨b2, o2, none⟩ m' c2 ys hyl hsrc (by omega) (by omega) (by simp only [Nat.zero_add] at hbytes; omega)
          exact ⟨0, by simpa using this⟩
        | some a =>
          have := run_append_grow (P := P) w t ty e i z hT.und hi hz a 0 0 [] (by simp) (fun j u hu => by simp at hu) ⟨b2, o2, none⟩ m' c2 ys hyl hsrc (by omega) (by omega) (growslice_fits (by omega) hbytes)
          exact ⟨0, by simpa using this⟩
      · obtain ⟨b, o, n0, c0, hρ', rfl⟩ := hadr (by omega)
        rw [hρ] at hρ'
        cases hρ'
        obtain ⟨b', off', arr, hA', hM, hh, hf, hcc, hI⟩ := hA (by omega)
        cases hA'
        have := run_append_grow (P := P) w t ty e i z hT.und hi hz ⟨b, o + off * i.size, none⟩ c c olds hol (fun j u hu => by
          rw [add_lit, cell_of_row w b _ arr e (0, 0) hh]
          simp only [olds, List.getElem?_take, List.getElem?_drop] at hu
          split at hu
          · rw [Nat.add_assoc]; exact hcc _ u hu
          · cases hu) ⟨b2, o2, none⟩ m' c2 ys hyl hsrc (by omega) (by omega) (growslice_fits (by omega) hbytes)
        exact ⟨c, by simpa using this⟩
    obtain ⟨old, hrun⟩ := hrun
    have hge := grownCap_ge w (c + m') old e
    have hcm : grownCap w (c + m') old e ≤ maxLen := grownCap_le_maxLen w (c + m') old e h63
    have hI0 : ∀ b j, I b j → b < w.heap.size := fun b j h => (hs.old b j h).1
    have hdr : Below w.heap.size w w.drew := ⟨rfl, rfl, rfl, Nat.le_refl _, fun _ _ => rfl⟩
    have hs2 := hs.grow hdr
    have hyl : ys.length = m' * i.size := by rw [hpy.1, hl2]
    have hnew := hs2.newRow (id := d) (e := e) (size := i.size) (n := c + m') (c := grownCap w (c + m') old e) (xs := olds ++ ys) (rest := (Builtin.zeroCells z.cells (grownCap w (c + m') old e - (c + m'))).toList) (cells := ((cells.drop (off * i.size)).take (c * i.size)) ++ news)
      hT.pos (by rw [List.length_append, ← hpo.1, hol, hl2, Nat.add_mul]) hge hcm (by rw [Array.length_toList, size_zeroCells, hT.zs]) (by
        have hsame : Same I w w.drew := fun _ _ _ => KeepB.of rfl
        exact Pw.append (Reps.mono hpo hsame fun _ _ h => h) (hpy.mono hsame fun _ _ h => h)) (by
        intro u hu
        rcases List.mem_append.1 hu with h | h
        · exact h1' u (List.mem_of_mem_drop (List.mem_of_mem_take h))
        · exact h1y u h) hnm
    refine ⟨_, _, ?_, I, _, C, hnew.put hn (show Holds _ _ _ (.slice (some ⟨w.heap.size, 0, none⟩) (c + m') (grownCap w (c + m') old e)) (AV.row d) from by simp [Holds, upd])⟩
    simp only [execOp, resolve, invoke, builtin, Sem.run_bind, Sem.run_pure, Result.andThen_ok, List.map_toArray, List.map_cons, List.map_nil, hv, hvy, hrun]
    congr 2
    congr 1
    simp
end win

/-! ## A call that looks at windows; what it returns is plain -/
inductive View (S : AState) : AV → DV → Prop
  | d (x : DV) : View S (.d x) x
  | win {id e size k : Nat} {cells : List DV} (h : S.blk id = .win e size k cells) : View S (.row id) (.sl size cells)
  | ws {id e size k off n N : Nat} {tt : Bool} {cells : List DV} (h : S.blk id = .win e size k cells) (hl : cells.length = N * size) (hf : off + n ≤ N) : View S (.ws id (off * size) n tt) (.sl size ((cells.drop (off * size)).take (n * size)))
def ViewL (S : AState) : List AV → List DV → Prop
  | [], ds => ds = []
  | x :: xs, ds => ∃ y ys, ds = y :: ys ∧ View S x y ∧ ViewL S xs ys

theorem View.rep {a : Act} {w : World} {I : Im} {ρ : Nat → Value} {C : Nat → Prop} (hs : SatAt E S a w I ρ C) {v : Value} {x : AV} {y : DV} (h : View S x y) (hv : Holds w I ρ v x) : Rep w (fun b _ => b < w.heap.size) v y := by
  have hsub : ∀ b j, I b j → (fun b (_ : Nat) => b < w.heap.size) b j := fun b j hi => (hs.old b j hi).1
  cases h with
  | d => exact Rep.mono hv (same_refl I w) hsub
  | win hb =>
    rename_i id e size k cells
    have hk := hs.blks id
    rw [hb] at hk
    obtain ⟨A, n, c, xs, hρ, hnc, hp, hl, hr, h1, hA⟩ := hk
    have hv' : v = .slice A n c := Eq.trans hv hρ
    subst hv'
    by_cases h0 : n = 0
    · subst h0
      have : cells = [] := List.eq_nil_of_length_eq_zero (by omega)
      subst this
      exact .nil _ _ _
    · rcases hA with ⟨_, h⟩ | ⟨b, off, arr, rfl, hM, hh, hf, hc, hI⟩
      · omega
      · have hlt : b < w.heap.size := (Array.getElem?_eq_some_iff.1 hh).1
        have hr' := hr.mono (same_refl I w) hsub
        refine .sl b off n c size xs cells (by omega) hnc hl hr.1 (fun j x hj => ⟨?_, hlt⟩) h1 hr'.2
        rw [cell_of_row w b (off + j) arr e (0, 0) hh]; exact hc j x hj
  | ws hb hl hf =>
    rename_i id e size k off n N tt cells
    have hk := hs.blks id
    rw [hb] at hk
    obtain ⟨hp, A', c3, xs, hρ, hcap, hr, h1', hA⟩ := win_inv hk hl
    obtain ⟨B, c, hv', hnc, _, hadr⟩ := hv
    subst hv'
    have hm1 : off * size + n * size ≤ N * size := by rw [← Nat.add_mul]; exact Nat.mul_le_mul_right _ hf
    by_cases h0 : n = 0
    · subst h0
      simp only [Nat.zero_mul, List.take_zero]
      exact .nil _ _ _
    · obtain ⟨b, o, n0, c0, hρ', rfl⟩ := hadr (by omega)
      rw [hρ] at hρ'
      cases hρ'
      obtain ⟨b', off', arr, hA', hM, hh, hf', hcc, hI⟩ := hA (by omega)
      cases hA'
      have hlt : b < w.heap.size := (Array.getElem?_eq_some_iff.1 hh).1
      have hr' := Reps.mono ((hr.drop (off * size)).take (n * size)) (same_refl I w) hsub
      refine .sl b (o + off * size) n c size ((xs.drop (off * size)).take (n * size)) _ (by omega) hnc (by rw [List.length_take, List.length_drop, hl]; omega) hr'.1 (fun j x hj => ⟨?_, hlt⟩) (fun u hu => h1' u (List.mem_of_mem_drop (List.mem_of_mem_take hu))) hr'.2
      rw [cell_of_row w b _ arr e (0, 0) hh]
      simp only [List.getElem?_take, List.getElem?_drop] at hj
      split at hj
      · rw [Nat.add_assoc]; exact hcc _ x hj
      · cases hj

theorem ViewL.reps {a : Act} {w : World} {I : Im} {ρ : Nat → Value} {C : Nat → Prop} (hs : SatAt E S a w I ρ C) : ∀ {vs : List Value} {xs : List AV} {ys : List DV}, ViewL S xs ys → Pw (Holds w I ρ) vs xs → Reps w (fun b _ => b < w.heap.size) vs ys
  | [], [], ys, h, _ => by cases h; exact Pw.nil
  | [], x :: xs, ys, _, hp => by have := hp.1; simp at this
  | v :: vs, [], ys, _, hp => by have := hp.1; simp at this
  | v :: vs, x :: xs, ys, ⟨y, zs, e, h1, h2⟩, hp => by
    subst e
    obtain ⟨q1, q2⟩ := pw_tail hp
    exact Pw.cons (h1.rep hs q1) (ViewL.reps hs h2 q2)

theorem s_callT {f : FuncId} {xs : List Operand} {ats : Array TypeId} {ds rs : List DV} (hn : d < E.n) (hv : ViewL S (xs.map S.ev) ds) (hc : Contract P f ds rs) (hG : E.gdt = gdOf P := by rfl) :
    Step P r E ⟨some d, .call { callee := .value (.func f), args := xs.toArray, argTypes := ats }, ty, pos, af, g⟩ S (S.put d (retPC rs)) := by
  rintro A w K Q ⟨I, ρ, C, hs⟩ hk
  obtain ⟨⟨fn, hf, hname, hbody⟩, hcall⟩ := hc
  have h3 := hv.reps hs (holds_args hs xs)
  have hcl := hcall w (fun b _ => b < w.heap.size) (xs.map A.eval) (fun b j hi => hi) ((hG ▸ hs.gl).sub fun b j hi => (hs.old b j hi).1) h3
  refine ⟨fun f _ => trivial, ?_⟩
  rw [Oper.semAt_eq _ _ _ (by simp)]
  have hrun : (execOp A.eval ⟨some d, .call { callee := .value (.func f), args := xs.toArray, argTypes := ats }, ty, pos, af, g⟩).run P w = .ok (.enter f (xs.map A.eval).toArray) w := by
    simp only [execOp, resolve, Act.eval, Deferred.ofValue]
    have hn1 : ¬ fn.name = "runtime.NumGoroutine" := by simpa using hname
    have hn2 : ¬ fn.body = none := by intro e; simp [e] at hbody
    simp [invoke, callFunc, hf, hn1, hn2, List.map_toArray]
  rw [hrun]
  refine ⟨by simp [fen, Fence.wide], ?_⟩
  show CallsIn Fence.wide 0 P f _ w _
  refine callsIn_wide.2 (hcl.mono ?_)
  rintro e w' ⟨v, I', rfl, hb, hsub, hnew, hret⟩
  exact hk _ _ ⟨I, ρ, C, SatAt.put (hs.grow hb) hn (retPC_holds hret)⟩

/-! ## nil or not -/
theorem run_equal_nil {t e : TypeId} (hu : P.underlying t = some (.slice e)) (B : Option Addr) (n c : Nat) (w : World) : (Op.equal t (.slice B n c) (.slice none 0 0)).run P w = .ok B.isNone w := by
  show (Op.equalIn (9999 + 1) t (.slice B n c) (.slice none 0 0)).run P w = _
  rw [Op.equalIn]
  cases B <;> simp [run_underlying hu]
theorem a_eqnil {t e : TypeId} {x : Operand} {size : Nat} {cells : List DV} {tz : TypeId} (hn : d < E.n) (hu : P.underlying t = some (.slice e)) (hx : S.ev x = .d (.sl size cells)) (hne : cells ≠ []) :
    AOp P r E S ⟨some d, .binOp .eql t x (.const (.slice none 0 0)) tz, ty, pos, af, g⟩ d (.d (.v (.bool false))) :=
  ⟨rfl, hn, fun S' ha => step_val rfl hn (by simp) fun A w I ρ C hs => by
    have h1 := hs.ev x
    rw [(ha.ev (x := x) (by simp [Op.operands])).trans hx] at h1
    obtain ⟨B, n, c, xs, hv, _, hl, _, _, hadr⟩ := Rep.sl_inv h1
    have hpos : 0 < n := by
      rcases Nat.eq_zero_or_pos n with h | h
      · subst h; exact absurd (List.eq_nil_of_length_eq_zero (by omega)) hne
      · exact h
    obtain ⟨b, off, rfl, _⟩ := hadr hpos
    have hc : A.eval (.const (.slice none 0 0)) = .slice none 0 0 := rfl
    have hb : binOp .eql t (.slice (some ⟨b, off, none⟩) n c) (.slice none 0 0) = (do pure (.bool (← Op.equal t (.slice (some ⟨b, off, none⟩) n c) (.slice none 0 0)))) := rfl
    have hg : eqGuard .eql t x (.const (.slice none 0 0)) (.slice (some ⟨b, off, none⟩) n c) (.slice none 0 0) = pure () := rfl
    simp only [execOp, hv, hc, hb, hg, Sem.run_bind, Sem.run_pure, Result.andThen_ok, run_equal_nil hu]
    rfl⟩
theorem a_eqnil_v {t e : TypeId} {x : Operand} {B : Option Addr} {n c : Nat} {tz : TypeId} (hn : d < E.n) (hu : P.underlying t = some (.slice e)) (hx : S.ev x = .d (.v (.slice B n c))) :
    AOp P r E S ⟨some d, .binOp .eql t x (.const (.slice none 0 0)) tz, ty, pos, af, g⟩ d (.d (.v (.bool B.isNone))) :=
  ⟨rfl, hn, fun S' ha => step_val rfl hn (by simp) fun A w I ρ C hs => by
    have hv := hs.val ((ha.ev (x := x) (by simp [Op.operands])).trans hx)
    have hc : A.eval (.const (.slice none 0 0)) = .slice none 0 0 := rfl
    have hb : binOp .eql t (.slice B n c) (.slice none 0 0) = (do pure (.bool (← Op.equal t (.slice B n c) (.slice none 0 0)))) := rfl
    have hg : eqGuard .eql t x (.const (.slice none 0 0)) (.slice B n c) (.slice none 0 0) = pure () := rfl
    simp only [execOp, hv, hc, hb, hg, Sem.run_bind, Sem.run_pure, Result.andThen_ok, run_equal_nil hu]⟩
/-- An empty slice, whatever it is, as data. -/
theorem weak_empty_d {t : Nat} {B : Option Addr} {c : Nat} (size : Nat) (hn : t < E.n) (ht : S.get t = .d (.v (.slice B 0 c))) : Weak E S (S.put t (.d (.sl size []))) := by
  rintro a w ⟨I, ρ, C, h⟩
  refine ⟨I, ρ, C, ⟨fun u => ?_, h.blks, h.dist, by rw [ghost_put _ _ hn]; exact h.frame, h.sub, h.old, h.size, h.defers, h.cI, h.cB, h.nm⟩⟩
  rw [get_put]
  by_cases e : t = u
  · subst e
    simp only [if_true]
    have := h.tmps t
    rw [ht] at this
    generalize a.tmps.getD t undef = v at this ⊢
    have h' : Rep w I v (.v (.slice B 0 c)) := this
    cases h'
    exact .nil _ _ _
  · simp only [e, if_false]; exact h.tmps u
end

theorem gc_empty {P : Program} {f : FuncId} {size : Nat} {T T' : List (Nat × Blk)} {keep : List Nat} {rets : List Cap} (hp : 0 < size) (h : ∀ B c, GC P f [.d (.v (.slice B 0 c))] T keep rets T') : GC P f [.d (.sl size [])] T keep rets T' := by
  refine ⟨(h none 0).1, fun w I ρ vs hI hG hf hv => ?_⟩
  match vs, hv.1 with
  | [v], _ =>
    have hr : Rep w I v (.sl size []) := hv.2 0 v (.d (.sl size [])) rfl rfl
    cases hr with
    | nil A c => exact (h A c).2 w I ρ _ hI hG hf (Pw.cons (show HoldsC w I ρ _ (.d (.v _)) from .v _) Pw.nil)
    | sl b off n c size xs cells hn hcap hl => exact absurd hl (by have := Nat.mul_pos hn hp; simp only [List.length_nil]; omega)
end Go.AV

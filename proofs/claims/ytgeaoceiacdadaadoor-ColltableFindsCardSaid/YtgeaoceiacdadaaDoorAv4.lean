/- The layer of abstract values: what a temporary holds, said once; every rule of it is proved from the model. Conditions: none. -/
import Derived.Test.YtgeaoceiacdadaaDoorAv5
set_option linter.unusedSimpArgs false
set_option linter.unusedVariables false
set_option linter.unnecessarySimpa false
namespace Go.AV
open Go.RowKit

/-! ## append -/

theorem setRow_cell {w : World} {gb e : Nat} {cur : Array Value} (hh : w.heap[gb]? = some (.cells cur e (0, 0))) (new : Array Value) {j : Nat} (h : new[j]? = cur[j]?) :
    (w.setRow gb new).cell? ⟨gb, j, none⟩ = w.cell? ⟨gb, j, none⟩ := by
  rw [cell_of_row _ gb j new e (0, 0) (setRow_heap w gb cur new e _ hh), cell_of_row w gb j cur e (0, 0) hh, h]

section
variable {P : Program} (w : World)

theorem run_append {B t ty e size bytes : Nat} {z : Value} (hT : SlTy P t e size bytes z) {v : Value} {n : Nat} {xs : List Value} (hown : w.ownsRow B e size v n xs)
    {A : Option Addr} {m c : Nat} {news : List Value} (hl : news.length = m * size) (hnews : 0 < m → ∃ b off, A = some ⟨b, off, none⟩ ∧ ∀ (j : Nat) u, news[j]? = some u → w.cell? ⟨b, off + j, none⟩ = some u)
    (h1 : ∀ u ∈ news, u.oneCell' = true) (h63 : n + m ≤ maxLen) (hbytes : (n + m) * bytes ≤ 140737488355328) (hB : B ≤ w.heap.size) :
    ∃ v' w', (Builtin.append_ #[t, t] ty #[v, .slice A m c]).run P w = .ok v' w' ∧ w'.ownsRow B e size v' (n + m) (xs ++ news) ∧
      ((w.grownBy w' v.ownBlock ∧ v'.ownBlock = v.ownBlock ∧ ∀ gb, v.ownBlock = some gb → ∀ j, j < n * size → w'.cell? ⟨gb, j, none⟩ = w.cell? ⟨gb, j, none⟩) ∨ (w.grownBy w' none ∧ v'.ownBlock = some w.heap.size)) := by
  obtain ⟨i, hi, hz, rfl, rfl⟩ := hT.info
  have ht := hT.und
  have hzs := hT.zs
  have hsmall : n + m ≤ 9223372036854775807 := by simp only [maxLen] at h63; omega
  have hlen : (xs ++ news).length = (n + m) * i.size := by rw [List.length_append, hown.1, hl, Nat.add_mul]
  by_cases hm : m = 0
  · subst hm
    have hn : news = [] := List.eq_nil_of_length_eq_zero (by simpa using hl)
    subst hn
    refine ⟨v, w, ?_, by simpa using hown, .inl ⟨World.grownBy.refl w _, rfl, fun _ _ _ _ => rfl⟩⟩
    rcases hown.2 with ⟨rfl, rfl⟩ | ⟨gb, cap, cur, rfl, _, _, hnc, _⟩
    · cases A <;> simp [Builtin.append_, run_underlying ht, sizeOf, typeInfo, hi, Builtin.lenOf, Builtin.firstCells, loadCells, loadCellsFrom]
    · cases A <;> simp [Builtin.append_, run_underlying ht, sizeOf, typeInfo, hi, Builtin.lenOf, Builtin.firstCells, hnc, storeCells, loadCells, loadCellsFrom]
  · obtain ⟨b, off, rfl, hcell⟩ := hnews (by omega)
    have hnews' : ∀ (j : Nat) u, news[j]? = some u → w.cell? ((⟨b, off, none⟩ : Addr).add j) = some u := fun j u hu => by rw [add_lit]; exact hcell j u hu
    have grown : ∀ (old : Nat), 
        (w.drew.alloc (.cells (xs.toArray ++ news.toArray ++ Builtin.zeroCells z.cells (grownCap w (n + m) old e - (n + m))) e)).ownsRow B e i.size
          (.slice (some ⟨w.heap.size, 0, none⟩) (n + m) (grownCap w (n + m) old e)) (n + m) (xs ++ news) ∧
        w.grownBy (w.drew.alloc (.cells (xs.toArray ++ news.toArray ++ Builtin.zeroCells z.cells (grownCap w (n + m) old e - (n + m))) e)) none := by
      intro old
      have hge := grownCap_ge w (n + m) old e
      have hcm : grownCap w (n + m) old e ≤ maxLen := grownCap_le_maxLen w (n + m) old e h63
      refine ⟨⟨hlen, .inr ⟨w.heap.size, _, _, rfl, hB, heap_alloc_new w.drew _, hge, hcm, ?_, ?_⟩⟩, ⟨rfl, rfl, rfl, by simp, fun k hk _ => _root_.Go.heap_alloc_old w.drew _ hk⟩⟩
      · simp only [Array.size_append, List.size_toArray, size_zeroCells, hzs, hown.1, hl, ← Nat.add_mul]
        congr 1
        omega
      · simp only [Array.toList_append, List.append_assoc]
        rw [← List.append_assoc, ← hlen]
        exact List.take_left
    rcases hown.2 with ⟨rfl, rfl⟩ | ⟨gb, cap, cur, rfl, hbg, hg, hnc, hcm, hcs, htake⟩
    · have hx : xs = [] := List.eq_nil_of_length_eq_zero (by simpa using hown.1)
      subst hx
      have hr := run_append_nil (P := P) w t ty e i z ht hi hz ⟨b, off, none⟩ m c news hl hnews' (by omega) (by omega) (by have hb := hbytes; simp only [Nat.zero_add] at hb; omega)
      have hgr := grown 0
      simp only [Nat.zero_add, List.nil_append, Array.empty_append] at hgr ⊢
      exact ⟨_, _, hr, hgr.1, .inr ⟨hgr.2, rfl⟩⟩
    · by_cases hroom : n + m ≤ cap
      · have hfit : n * i.size + news.length ≤ cur.size := by rw [hl, hcs, ← Nat.add_mul]; exact Nat.mul_le_mul_right _ hroom
        have hr := run_append_room (P := P) w t ty e i ht hi gb n cap cur hg ⟨b, off, none⟩ m c news hl hnews' h1 hroom hfit
        refine ⟨_, _, hr, ⟨hlen, .inr ⟨gb, cap, _, rfl, hbg, setRow_heap w gb cur _ e _ hg, hroom, hcm, ?_, ?_⟩⟩, .inl ⟨⟨rfl, rfl, rfl, by simp, fun k _ hk => setRow_other w gb k _ (fun e => hk (by simp [Value.ownBlock, e]))⟩, rfl, ?_⟩⟩
        · simp only [List.size_toArray, List.length_append, List.length_take, List.length_drop, Array.length_toList]
          omega
        · rw [htake, ← hlen]
          exact List.take_left
        · intro g' hg' j hj
          simp [Value.ownBlock] at hg'
          subst hg'
          refine setRow_cell hg _ ?_
          have : j < cur.size := by omega
          simp only [List.getElem?_toArray, List.append_assoc]
          rw [List.getElem?_append_left (by simp; omega), List.getElem?_take, if_pos hj]
          simp
      · have holds : ∀ j u, xs[j]? = some u → w.cell? ((⟨gb, 0, none⟩ : Addr).add j) = some u := hown.cells (g := gb) rfl
        have hr := run_append_grow (P := P) w t ty e i z ht hi hz ⟨gb, 0, none⟩ n cap xs hown.1 holds ⟨b, off, none⟩ m c news hl hnews' (by omega) (by omega) (growslice_fits (by omega) hbytes)
        have hgr := grown cap
        exact ⟨_, _, hr, hgr.1, .inr ⟨hgr.2, rfl⟩⟩
end

section
variable {P : Program} {r : Option Nat} {E : Env} {S : AState} {d : Nat} {ty : TypeId} {pos : String} {af : Array Edge} {g : Option (Nat × Bool)}

theorem blk_share_row {x : AV} {id e size : Nat} {sh : Bool} {cells : List DV} (hb : S.blk id = .row e size sh cells) : ∃ sh', (S.shareAV x).blk id = .row e size sh' cells := by
  unfold AState.shareAV
  split
  · rename_i i
    split
    · rename_i e2 size2 sh2 cs hb2
      rw [blk_setBlk]
      by_cases e' : i = id
      · subst e'; rw [hb] at hb2; cases hb2; exact ⟨true, by simp⟩
      · exact ⟨sh, by simp [e', hb]⟩
    · exact ⟨sh, hb⟩
  · exact ⟨sh, hb⟩

def Blk.appended (b : Blk) (cells : List DV) : Blk := match b with
  | .row e size sh cs => .row e size sh (cs ++ cells)
  | b => b

/-- 's = append(s, x...)', s a row of the call's own. -/
theorem step_append {t e size bytes : Nat} {z : Value} {s x : Operand} {id : Nat} {sh : Bool} {cells news : List DV} {n m : Nat} (hn : d < E.n) (hT : SlTy P t e size bytes z) (hs : S.ev s = .row id) (hb : S.blk id = .row e size sh cells)
    (hx : S.dv (S.ev x) = some (.sl size news)) (hl : cells.length = n * size) (hl2 : news.length = m * size) (hbytes : (n + m) * bytes ≤ 140737488355328) (h63 : n + m ≤ maxLen) (hE : E.wrB = true) (hnm : E.nm id = none) :
    Step P r E ⟨some d, .call { callee := .builtin .append, args := #[s, x], argTypes := #[t, t] }, ty, pos, af, g⟩ S
      ((((S.shareAV (S.ev x)).kill id).setBlk id (((S.shareAV (S.ev x)).blk id).appended news)).put d (.row id)) :=
  step_run (by simp) fun A w I ρ C hsat => by
    have hsv : A.eval s = ρ id := by have := hsat.ev s; rw [hs] at this; exact this
    obtain ⟨I1, hI1, hsat1, hrep⟩ := hsat.dv (hsat.ev x) hx
    obtain ⟨sh', hb'⟩ := blk_share_row (x := S.ev x) hb
    have hk := hsat1.blks id
    rw [hb'] at hk
    obtain ⟨hp, n', xs, hl', hown, h1, hpw, hIr⟩ := hk
    obtain rfl := len_eq hl' hl hp.1
    obtain ⟨Ax, m', c, ys, hv, _, hlm, hpy, h1y, hcy⟩ := Rep.sl_inv hrep
    obtain rfl := len_eq hlm hl2 hp.1
    obtain ⟨v', w', hr, hown', hcase⟩ := run_append (ty := ty) w hT hown (A := Ax) (m := m') (c := c) (news := ys) (by rw [hpy.1, hlm]) (fun h0 => by
      obtain ⟨b, off, hA, hc⟩ := hcy h0
      exact ⟨b, off, hA, fun j u hu => (hc j u hu).1⟩) h1y h63 hbytes (Nat.zero_le _)
    refine ⟨v', w', ?_, ?_⟩
    · simp only [execOp, resolve, invoke, builtin, Sem.run_bind, Sem.run_pure, Result.andThen_ok, List.map_toArray, List.map_cons, List.map_nil, hsv, hv, hr]
    · have hsame : Same I1 w w' := by
        intro b j hi
        have hlt := (hsat1.old b j hi).1
        rcases hcase with ⟨hg, _, hcells⟩ | ⟨hg, _⟩
        · by_cases e' : (ρ id).ownBlock = some b
          · obtain ⟨arr', eb', fr', hb''⟩ := ownsRow_cells hown e'
            exact KeepB.ofCell hb'' (hcells b e' j (by have := (hIr b j e' hi).2; omega))
          · exact KeepB.of (hg.block b hlt (fun e2 => e' e2.symm))
        · exact KeepB.of (hg.block b hlt (by simp))
      have hblk : ∀ b, blockOf v' = some b → v'.ownBlock = some b := by
        intro b hbk
        rcases hown'.2 with ⟨hn', _⟩ | ⟨gb, cap, cur, hn', _⟩
        · rw [hn'] at hbk; cases hbk
        · rw [hn'] at hbk ⊢; exact hbk
      have hne : (S.shareAV (S.ev x)).blk id ≠ .none := by rw [hb']; simp
      have happ : ((S.shareAV (S.ev x)).blk id).appended news = .row e size sh' (cells ++ news) := by rw [hb']; rfl
      rw [happ]
      have hnb : BlkOk w' I1 (upd ρ id v') E.mine id (.row e size sh' (cells ++ news)) := by
        have eu : upd ρ id v' id = v' := by simp [upd]
        refine ⟨⟨hp.1, fun gb hg => ?_⟩, n' + m', xs ++ ys, by rw [List.length_append, hl', hlm, Nat.add_mul], by rw [eu]; exact hown', ?_, Pw.append (hpw.mono hsame (fun _ _ h => h)) (hpy.mono hsame (fun _ _ h => h)), ?_⟩
        · rw [eu] at hg
          rcases hcase with ⟨_, hob, _⟩ | ⟨_, hob⟩
          · exact hp.2 gb (by rw [← hob]; exact hg)
          · rw [hob] at hg; cases hg; exact E.mineB _ (E.size _ _ _ hsat1.frame)
        · intro u hu
          rcases List.mem_append.1 hu with hu | hu
          · exact h1 u hu
          · exact h1y u hu
        · rw [eu]
          intro gb j hg hi
          rcases hcase with ⟨_, hob, _⟩ | ⟨_, hob⟩
          · rw [hob] at hg
            have := hIr gb j hg hi
            exact ⟨this.1, by rw [List.length_append]; omega⟩
          · rw [hob] at hg
            cases hg
            have := (hsat1.old _ j hi).1
            omega
      rcases hcase with ⟨hg, hob, _⟩ | ⟨hg, hob⟩
      · have h2 := hsat1.update hg (id := id) (u := v') (fun k hk => ⟨hne, ownBlock_of hk⟩) hsame (fun b hbk => .inr ⟨hne, ownBlock_of (by rw [← hob]; exact hblk b hbk)⟩) hnb (.inr hE) hnm
        exact ⟨I1, _, C, h2.put hn (by simp [Holds, upd])⟩
      · have h2 := hsat1.update hg (id := id) (u := v') (fun k hk => by cases hk) hsame (fun b hbk => .inl (by have := hblk b hbk; rw [hob] at this; cases this; exact Nat.le_refl _)) hnb (.inl rfl) hnm
        exact ⟨I1, _, C, h2.put hn (by simp [Holds, upd])⟩

/-- A slot that holds nil becomes a row of its own. -/
theorem ops_nil_row {ops : Array Oper} {l : List Oper} {J : AState → Prop} {t : Nat} (id e size : Nat) (hp : 0 < size) (hn : t < E.n) (hnm : E.nm id = none) (ht : S.get t = .d (.v (.slice none 0 0)))
    (h : Ops P r E ops l J (((S.kill id).setBlk id (.row e size false [])).put t (.row id))) : Ops P r E ops l J S :=
  fun a w Q hs hq => h a w Q (weak_nil id e size hp hn hnm ht a w hs) hq

/-! ## Literals of slices -/

def flatDV : DV → List DV
  | .agg es => es
  | x => [x]
def okDV (size : Nat) : DV → Bool
  | .agg es => es.length == size
  | .v u => u.oneCell' && size == 1
  | .sl _ _ => size == 1
  | .pt _ => size == 1
  | .fn _ _ => size == 1
  | .mp _ _ => size == 1

theorem Rep.flat {w : World} {I : Im} {v : Value} {x : DV} {size : Nat} (h : Rep w I v x) (ho : okDV size x = true) :
    Reps w I v.cells.toList (flatDV x) ∧ (∀ u ∈ v.cells.toList, u.oneCell' = true) ∧ (flatDV x).length = size := by
  cases h with
  | v =>
    simp [okDV] at ho
    rw [cells_one ho.1]
    exact ⟨Pw.cons (.v v) Pw.nil, by simpa using ho.1, by simp [flatDV, ho.2]⟩
  | nil A c s =>
    simp [okDV] at ho
    exact ⟨Pw.cons (.nil A c s) Pw.nil, by simp [Value.cells, Value.oneCell'], by simp [flatDV, ho]⟩
  | sl b off n c s xs cells hn hcap hl hx hc h1 hr =>
    simp [okDV] at ho
    exact ⟨Pw.cons (.sl b off n c s xs cells hn hcap hl hx hc h1 hr) Pw.nil, by simp [Value.cells, Value.oneCell'], by simp [flatDV, ho]⟩
  | pt b off xs cells hx hc h1 hr =>
    simp [okDV] at ho
    exact ⟨Pw.cons (.pt b off xs cells hx hc h1 hr) Pw.nil, by simp [Value.cells, Value.oneCell'], by simp [flatDV, ho]⟩
  | fn f xs cells hx hr =>
    simp [okDV] at ho
    exact ⟨Pw.cons (.fn f xs cells hx hr) Pw.nil, by simp [Value.cells, Value.oneCell'], by simp [flatDV, ho]⟩
  | mp b clock ents vs hh hb hx hr =>
    simp [okDV] at ho
    exact ⟨Pw.cons (.mp b clock ents vs hh hb hx hr) Pw.nil, by simp [Value.cells, Value.oneCell'], by simp [flatDV, ho]⟩
  | agg xs cells hx h1 hr =>
    simp [okDV] at ho
    exact ⟨⟨by simpa [Value.cells, flatDV] using hx, by simpa [Value.cells, flatDV] using hr⟩, by simpa [Value.cells] using h1, by simp [flatDV, ho]⟩

theorem foldl_set (vs : List Value) (off : Nat) : ∀ (k : Nat) (arr : Array Value), off + k + vs.length ≤ arr.size →
    ((vs.zipIdx k).foldl (fun cs (p : Value × Nat) => cs.setIfInBounds (off + p.2) p.1) arr).toList = arr.toList.take (off + k) ++ vs ++ arr.toList.drop (off + k + vs.length) := by
  induction vs with
  | nil => intro k arr _; simp
  | cons v vs ih =>
    intro k arr h
    simp only [List.length_cons] at h
    rw [List.zipIdx_cons, List.foldl_cons, ih (k + 1) _ (by simp; omega)]
    simp only [Array.toList_setIfInBounds, List.length_cons]
    have hlt : off + k < arr.toList.length := by simp; omega
    rw [List.set_eq_take_append_cons_drop, if_pos hlt]
    have e1 : (arr.toList.take (off + k)).length = off + k := by simp; omega
    have e2 : off + (k + 1) = (arr.toList.take (off + k)).length + 1 := by rw [e1]; omega
    have e3 : off + (k + 1) + vs.length = (arr.toList.take (off + k)).length + (1 + vs.length) := by rw [e1]; omega
    rw [e3, e2, List.take_length_add_append, List.drop_length_add_append]
    rw [Nat.add_comm 1 vs.length, List.drop_succ_cons, List.drop_drop, show off + k + 1 + vs.length = off + k + (vs.length + 1) by omega]
    simp

theorem fill_one {place : Nat → Option (Nat × Nat)} {arr : Array Value} {i off size : Nat} {v : Value} {rest : List (Nat × Value)} (hp : place i = some (off, size)) (hv : v.cells.size = size) (hfit : off + size ≤ arr.size) :
    Instr.fill place arr ((i, v) :: rest) = Instr.fill place (arr.toList.take off ++ v.cells.toList ++ arr.toList.drop (off + size)).toArray rest := by
  subst hv
  have h := foldl_set v.cells.toList off 0 arr (by simpa using hfit)
  simp only [Nat.add_zero] at h
  have e : v.cells.zipIdx.foldl (fun cs (x : Value × Nat) => cs.setIfInBounds (off + x.2) x.1) arr = (arr.toList.take off ++ v.cells.toList ++ arr.toList.drop (off + v.cells.size)).toArray := by
    apply Array.ext'
    rw [← Array.foldl_toList, Array.toList_zipIdx]
    simpa using h
  have hc : ¬ (v.cells.size ≠ v.cells.size || off + v.cells.size > arr.size) = true := by simp; omega
  simp only [Instr.fill, hp]
  rw [if_neg hc]
  congr 1

def seqParts {α : Type} : Nat → List α → List (Nat × α)
  | _, [] => []
  | k, x :: r => (k, x) :: seqParts (k + 1) r

theorem seqParts_map {α β : Type} (f : α → β) : ∀ (l : List α) (k : Nat), (seqParts k l).map (fun p => (p.1, f p.2)) = seqParts k (l.map f)
  | [], _ => rfl
  | x :: l, k => by simp [seqParts, seqParts_map f l (k + 1)]

theorem fill_seq (size : Nat) : ∀ (vs : List Value) (k : Nat) (arr : Array Value), (∀ v ∈ vs, v.cells.size = size) → (k + vs.length) * size ≤ arr.size →
    Instr.fill (fun i => some (i * size, size)) arr (seqParts k vs) = some (arr.toList.take (k * size) ++ vs.flatMap (fun v => v.cells.toList) ++ arr.toList.drop ((k + vs.length) * size)).toArray := by
  intro vs
  induction vs with
  | nil => intro k arr _ _; simp [seqParts, Instr.fill]
  | cons v vs ih =>
    intro k arr hv hfit
    simp only [List.length_cons] at hfit
    have hm : (k + (vs.length + 1)) * size = k * size + size + vs.length * size := by
      rw [Nat.add_mul, Nat.add_mul, Nat.one_mul]; omega
    have hm2 : (k + 1) * size = k * size + size := by rw [Nat.add_mul, Nat.one_mul]
    have hm3 : (k + 1 + vs.length) * size = k * size + size + vs.length * size := by rw [Nat.add_mul, hm2]
    have hv0 : v.cells.toList.length = size := by rw [Array.length_toList]; exact hv v (by simp)
    rw [seqParts, fill_one rfl (hv v (by simp)) (by omega), ih (k + 1) _ (fun u hu => hv u (by simp [hu])) (by simp [hv0]; omega)]
    congr 2
    rw [hm3, hm2]
    simp only [List.length_cons, List.flatMap_cons, hm]
    have e1 : (arr.toList.take (k * size) ++ v.cells.toList).length = k * size + size := by simp [hv0]; omega
    rw [← e1, List.take_left, List.drop_length_add_append, List.drop_drop]
    simp only [List.append_assoc]

theorem reps_flat {w : World} {I : Im} {size : Nat} : ∀ {vs : List Value} {ds : List DV}, Reps w I vs ds → ds.all (okDV size) = true →
    Reps w I (vs.flatMap fun v => v.cells.toList) (ds.flatMap flatDV) ∧ (∀ u ∈ vs.flatMap (fun v => v.cells.toList), u.oneCell' = true) ∧ (∀ v ∈ vs, v.cells.size = size) ∧ (ds.flatMap flatDV).length = ds.length * size
  | [], [], _, _ => ⟨Pw.nil, by simp, by simp, by simp⟩
  | [], _ :: _, h, _ => by have := h.1; simp at this
  | _ :: _, [], h, _ => by have := h.1; simp at this
  | v :: vs, x :: ds, h, ho => by
    simp only [List.all_cons, Bool.and_eq_true] at ho
    have h0 := (h.2 0 v x rfl rfl).flat ho.1
    have h' : Reps w I vs ds := ⟨by have := h.1; simpa using this, fun j u y hu hy => h.2 (j + 1) u y (by simpa using hu) (by simpa using hy)⟩
    obtain ⟨a1, a2, a3, a4⟩ := reps_flat h' ho.2
    refine ⟨by simp only [List.flatMap_cons]; exact Pw.append h0.1 a1, ?_, ?_, ?_⟩
    · intro u hu
      simp only [List.flatMap_cons, List.mem_append] at hu
      rcases hu with hu | hu
      · exact h0.2.1 u hu
      · exact a2 u hu
    · intro u hu
      rcases List.mem_cons.1 hu with rfl | hu
      · have := h0.1.1; rw [h0.2.2, Array.length_toList] at this; exact this
      · exact a3 u hu
    · simp only [List.flatMap_cons, List.length_append, List.length_cons, h0.2.2, a4, Nat.add_mul]; omega

theorem step_buildSlice {t e size bytes : Nat} {z : Value} {len : Nat} {ps : List (Nat × Operand)} {ds : List DV} (hn : d < E.n) (hT : SlTy P t e size bytes z) (hseq : ps = seqParts 0 (ps.map Prod.snd)) (hlen : ps.length = len)
    (hds : S.dvL ((ps.map Prod.snd).map S.ev) = some ds) (hok : ds.all (okDV size) = true) (hsz : len * size ≤ 16777216) (hnm : E.nm d = none) :
    Step P r E ⟨some d, .buildSlice t len ps.toArray, ty, pos, af, g⟩ S
      ((((S.shareL ((ps.map Prod.snd).map S.ev)).kill d).setBlk d (.row e size false (ds.flatMap flatDV))).put d (.row d)) :=
  step_run (by simp) fun A w I ρ C hs => by
    generalize hxs : ps.map Prod.snd = xs at hseq hds ⊢
    obtain ⟨I1, h1, h2, h3⟩ := SatAt.dvL _ hs (holds_args hs xs) hds
    obtain ⟨a1, a2, a3, a4⟩ := reps_flat h3 hok
    have hvl : (xs.map A.eval).length = len := by rw [← hlen, ← hxs]; simp
    have hdl : ds.length = len := by rw [← h3.1]; exact hvl
    have hml : len ≤ maxLen := by
      have := hT.pos
      have : len * 1 ≤ len * size := Nat.mul_le_mul_left _ this
      simp only [maxLen]; omega
    have hsat := h2.newRow (id := d) (e := e) (size := size) (n := len) (c := len) (rest := []) hT.pos (by rw [a4, hdl]) (Nat.le_refl _) hml (by simp) a1 a2 hnm
    refine ⟨.slice (some ⟨w.heap.size, 0, none⟩) len len, _, ?_, I1, _, C, hsat.put hn (by simp [Holds, upd])⟩
    obtain ⟨i, hi, hz, hsi, hby⟩ := hT.info
    have hfill := fill_seq size (xs.map A.eval) 0 ((Array.range (len * size)).map ((if len * size = 0 then (#[] : Array Value) else z.cells)[· % (if len * size = 0 then (#[] : Array Value) else z.cells).size]!)) a3 (by simp [← hvl])
    have hlk : ps.toArray.map (fun p : Nat × Operand => (p.1, A.eval p.2)) = (seqParts 0 (xs.map A.eval)).toArray := by
      rw [hseq, List.map_toArray, seqParts_map]
    have hnot : ¬ (len * size > 2 ^ 24) := by omega
    simp only [Nat.zero_mul, List.take_zero, List.nil_append, Nat.zero_add, hvl] at hfill
    rw [List.drop_of_length_le (by simp)] at hfill
    simp only [List.append_nil] at hfill ⊢
    simp only [execOp, Instr.buildSlice, Sem.run_bind, run_underlying hT.und, Result.andThen_ok, hT.size w, hnot, if_false, Sem.run_pure]
    by_cases h0 : len * size = 0
    · have hl0 : len = 0 := by
        rcases Nat.mul_eq_zero.1 h0 with h | h
        · exact h
        · have := hT.pos; omega
      have hx0 : xs = [] := List.eq_nil_of_length_eq_zero (by simpa [hl0] using hvl)
      subst hx0
      subst hl0
      simp [hlk, seqParts, Instr.fill, newRow, Array.range_zero']
    · simp only [h0, if_false] at hfill ⊢
      simp [zeroValue, typeInfo, hi, hz, hlk, hfill, newRow]

/-! ## make -/

def zerosDV (z : Value) (n : Nat) : List DV := (List.replicate n (z.cells.toList.map DV.v)).flatten

theorem madeCells_flat (z : Array Value) (n : Nat) : (madeCells z (n * z.size)).toList = (List.replicate n z.toList).flatten := by
  apply List.ext_getElem?
  intro j
  simp only [madeCells, Array.toList_map, Array.toList_range, List.getElem?_map]
  induction n generalizing j with
  | zero => simp
  | succ n ih =>
    rw [List.replicate_succ, List.flatten_cons]
    by_cases hj : j < z.size
    · rw [List.getElem?_append_left (by simpa using hj)]
      have h2 : j < (n + 1) * z.size := by rw [Nat.add_mul, Nat.one_mul]; omega
      rw [List.getElem?_range h2]
      simp [Nat.mod_eq_of_lt hj, hj]
    · rw [List.getElem?_append_right (by simp; omega), ← ih]
      simp only [Array.length_toList]
      by_cases h2 : j < (n + 1) * z.size
      · have h3 : j - z.size < n * z.size := by rw [Nat.add_mul, Nat.one_mul] at h2; omega
        rw [List.getElem?_range h2, List.getElem?_range h3]
        simp only [Option.map_some]
        have : j % z.size = (j - z.size) % z.size := by
          rw [Nat.mod_eq_sub_mod (by omega)]
        rw [this]
      · have h3 : ¬ j - z.size < n * z.size := by rw [Nat.add_mul, Nat.one_mul] at h2; omega
        rw [List.getElem?_eq_none (by simpa using h2), List.getElem?_eq_none (by simpa using h3)]

theorem reps_v (w : World) (I : Im) (vs : List Value) : Reps w I vs (vs.map DV.v) := by
  refine ⟨by simp, fun j x y hx hy => ?_⟩
  simp [hx] at hy
  subst hy
  exact .v x

theorem step_make {t e size bytes : Nat} {z : Value} {x : Operand} {n : Nat} {m : Int} (hn : d < E.n) (hT : SlTy P t e size bytes z) (hx : S.ev x = .d (.v (.int .i64 m))) (hm : m = (n : Int)) (hb : n * bytes ≤ 140737488355328) (hml : n ≤ maxLen) (hnm : E.nm d = none) :
    Step P r E ⟨some d, .makeSlice t x x, ty, pos, af, g⟩ S (((S.kill d).setBlk d (.row e size false (zerosDV z n))).put d (.row d)) :=
  step_run (by simp) fun A w I ρ C hs => by
    subst hm
    obtain ⟨i, hi, hz, hsi, hby⟩ := hT.info
    subst hsi hby
    have hflat : zerosDV z n = ((List.replicate n z.cells.toList).flatten).map DV.v := by simp [zerosDV, List.map_flatten]
    have hlen : ((List.replicate n z.cells.toList).flatten).length = n * i.size := by simp [hT.zs]
    have hsat := hs.newRow (id := d) (e := e) (size := i.size) (n := n) (c := n) (xs := (List.replicate n z.cells.toList).flatten) (cells := zerosDV z n) (rest := []) hT.pos (by rw [hflat]; simpa using hlen) (Nat.le_refl _) hml (by simp)
      (by rw [hflat]; exact reps_v _ _ _) (by
        intro u hu
        obtain ⟨l, hl, hu⟩ := List.mem_flatten.1 hu
        rw [List.mem_replicate] at hl
        rw [hl.2] at hu
        exact hT.one u hu) hnm
    refine ⟨.slice (some ⟨w.heap.size, 0, none⟩) n n, _, ?_, I, _, C, hsat.put hn (by simp [Holds, upd])⟩
    have hmc := madeCells_flat z.cells n
    rw [hT.zs] at hmc
    have hmc2 : madeCells z.cells (n * i.size) = ((List.replicate n z.cells.toList).flatten).toArray := by
      apply Array.ext'
      simpa using hmc
    have hb' : (i.bytes : Int) * (n : Int) ≤ 281474976710656 := by
      have h : ((i.bytes * n : Nat) : Int) ≤ 281474976710656 := by rw [Nat.mul_comm]; omega
      rwa [Int.natCast_mul] at h
    have hrun := run_make (P := P) w t e i z hT.und hi hz .i64 .i64 n n (by omega) (by omega) hb' (by simp only [maxLen] at hml; omega)
    simp only [Int.toNat_natCast] at hrun
    simp only [execOp, hs.val hx, Sem.run_bind, List.append_nil]
    rw [hrun, hmc2]
    rfl
end
end Go.AV

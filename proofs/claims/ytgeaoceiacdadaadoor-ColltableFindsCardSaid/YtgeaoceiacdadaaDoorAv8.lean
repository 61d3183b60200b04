/- The layer of abstract values: what a temporary holds, said once; every rule of it is proved from the model. Conditions: none. -/
import Derived.Test.YtgeaoceiacdadaaDoorAv7
import Derived.IntWalk
set_option linter.unusedSimpArgs false
set_option linter.unusedVariables false
set_option linter.unnecessarySimpa false
namespace Go.AV
open Go.RowKit

/-! ## Words for the walks -/

def di (n : Int) : DV := .v (.int .i64 n)
def db (b : Bool) : DV := .v (.bool b)
def DV.ints (l : List Int) : DV := .sl 1 (l.map di)

theorem get_map {α : Type} {f : α → DV} {l : List α} {k : Nat} (x : α) (h : k < l.length) : (l.map f)[k * 1]? = some (f (l.getD k x)) := by
  simp [List.getD, h]
theorem len_map {α : Type} {f : α → DV} {l : List α} : (l.map f).length = l.length * 1 := by simp
theorem w64 {n : Int} (h1 : -9223372036854775808 ≤ n) (h2 : n ≤ 9223372036854775807) : IntKind.i64.wrap n = n := IntWalk.i64_in _ (by omega)
theorem ix_add1 (k : Nat) : (k : Int) + 1 = ((k + 1 : Nat) : Int) := by omega
theorem ix_nat {i : Int} (h : 0 ≤ i) : i = (i.toNat : Int) := by omega

def Cov (S : AState) : List (Nat × AV) → Prop
  | [] => True
  | p :: r => S.get p.1 = p.2 ∧ Cov S r
def CovB (S : AState) : List (Nat × Blk) → Prop
  | [] => True
  | p :: r => S.blk p.1 = p.2 ∧ CovB S r
theorem weak_cov {E : Env} {S S' : AState} (ht : Cov S S'.tmps) (hb : CovB S S'.blks) (hgh : ∀ C w, E.fr S.ghost C w → E.fr S'.ghost C w := by exact fun _ _ h => h) : Weak E S S' := by
  have h1 : ∀ l, Cov S l → ∀ p ∈ l, S.get p.1 = p.2 := by
    intro l
    induction l with
    | nil => intro _ p hp; cases hp
    | cons q l ih => intro h p hp; rcases List.mem_cons.1 hp with rfl | hp
                     · exact h.1
                     · exact ih h.2 p hp
  have h2 : ∀ l, CovB S l → ∀ p ∈ l, S.blk p.1 = p.2 := by
    intro l
    induction l with
    | nil => intro _ p hp; cases hp
    | cons q l ih => intro h p hp; rcases List.mem_cons.1 hp with rfl | hp
                     · exact h.1
                     · exact ih h.2 p hp
  exact weak_of (fun p hp => .inl (h1 _ ht p hp)) (h2 _ hb) hgh

section
variable {P : Program} {r : Option Nat} {E : Env} {S : AState} {d : Nat} {ty : TypeId} {pos : String} {af : Array Edge} {g : Option (Nat × Bool)}

theorem a_move_to {x : Operand} {y : AV} (hn : d < E.n) (hx : S.ev x = y) : AOp P r E S ⟨some d, .move x, ty, pos, af, g⟩ d y := hx ▸ a_move hn
theorem a_assign_to {x : Operand} {y : AV} (hn : d < E.n) (hx : S.ev x = y) : AOp P r E S ⟨some d, .assign x, ty, pos, af, g⟩ d y := hx ▸ a_assign hn
theorem a_move_d {x : Operand} {y : DV} (hn : d < E.n) (hx : S.ev x = .d y) : AOp P r E S ⟨some d, .move x, ty, pos, af, g⟩ d (.d y) := a_move_to hn hx
theorem a_move_row {x : Operand} {i : Nat} (hn : d < E.n) (hx : S.ev x = .row i) : AOp P r E S ⟨some d, .move x, ty, pos, af, g⟩ d (.row i) := a_move_to hn hx
theorem a_move_ptr {x : Operand} {i k : Nat} (hn : d < E.n) (hx : S.ev x = .ptr i k) : AOp P r E S ⟨some d, .move x, ty, pos, af, g⟩ d (.ptr i k) := a_move_to hn hx
theorem a_move_ip {x : Operand} {c : List DV} {k : Nat} (hn : d < E.n) (hx : S.ev x = .ip c k) : AOp P r E S ⟨some d, .move x, ty, pos, af, g⟩ d (.ip c k) := a_move_to hn hx
theorem a_move_tup {x : Operand} {c : List DV} (hn : d < E.n) (hx : S.ev x = .tup c) : AOp P r E S ⟨some d, .move x, ty, pos, af, g⟩ d (.tup c) := a_move_to hn hx
theorem a_assign_d {x : Operand} {y : DV} (hn : d < E.n) (hx : S.ev x = .d y) : AOp P r E S ⟨some d, .assign x, ty, pos, af, g⟩ d (.d y) := a_assign_to hn hx
theorem a_assign_row {x : Operand} {i : Nat} (hn : d < E.n) (hx : S.ev x = .row i) : AOp P r E S ⟨some d, .assign x, ty, pos, af, g⟩ d (.row i) := a_assign_to hn hx
theorem a_assign_ptr {x : Operand} {i k : Nat} (hn : d < E.n) (hx : S.ev x = .ptr i k) : AOp P r E S ⟨some d, .assign x, ty, pos, af, g⟩ d (.ptr i k) := a_assign_to hn hx
theorem a_pick_td {c x y : Operand} {v : DV} (hn : d < E.n) (hc : S.ev c = .d (.v (.bool true))) (hx : S.ev x = .d v) : AOp P r E S ⟨some d, .pick c x y, ty, pos, af, g⟩ d (.d v) := hx ▸ a_pick_t hn hc
theorem a_pick_fd {c x y : Operand} {v : DV} (hn : d < E.n) (hc : S.ev c = .d (.v (.bool false))) (hx : S.ev y = .d v) : AOp P r E S ⟨some d, .pick c x y, ty, pos, af, g⟩ d (.d v) := hx ▸ a_pick_f hn hc

section
variable {ops : Array Oper} {o : Oper} {rest : List Oper} {J : AState → Prop} {j t : Nat} {want b c : Bool} {x : AV}
theorem sq_g (hg : o.guard = some (j, want)) (hj : (ops[j]?).bind (·.dst) = some t) (hd : o.dst = some d) (hn : d < E.n) (hnt : t < E.n) (ht : S.get t = .d (.v (.bool b)))
    (h : gd want b = true → AOp P r E S o d x) (k : Sq P r E ops rest (S.put d (.cond (gd want b) x)) J) : Sq P r E ops (o :: rest) S J := sq_a (ag_guard hg hj hd hn hnt ht h) k
theorem sq_g2 (hg : o.guard = some (j, want)) (hj : (ops[j]?).bind (·.dst) = some t) (hd : o.dst = some d) (hn : d < E.n) (hnt : t < E.n) (ht : S.get t = .cond c (.d (.v (.bool b))))
    (h : (c && gd want b) = true → AOp P r E S o d x) (k : Sq P r E ops rest (S.put d (.cond (c && gd want b) x)) J) : Sq P r E ops (o :: rest) S J := sq_a (ag_guard2 hg hj hd hn hnt ht h) k
theorem da_g (hg : o.guard = some (j, want)) (hj : (ops[j]?).bind (·.dst) = some t) (hd : o.dst = some d) (hn : d < E.n) (hnt : t < E.n) (ht : S.get t = .d (.v (.bool b)))
    (h : gd want b = true → AOp P r E S o d x) (k : DA P r E ops rest (S.put d (.cond (gd want b) x)) J) : DA P r E ops (o :: rest) S J := da_a (ag_guard hg hj hd hn hnt ht h) k
theorem da_g2 (hg : o.guard = some (j, want)) (hj : (ops[j]?).bind (·.dst) = some t) (hd : o.dst = some d) (hn : d < E.n) (hnt : t < E.n) (ht : S.get t = .cond c (.d (.v (.bool b))))
    (h : (c && gd want b) = true → AOp P r E S o d x) (k : DA P r E ops rest (S.put d (.cond (c && gd want b) x)) J) : DA P r E ops (o :: rest) S J := da_a (ag_guard2 hg hj hd hn hnt ht h) k
end

def thenC (P : Program) (r : Option Nat) (E : Env) (y : Code) (K : Exit → AState → Prop) : Exit → AState → Prop
  | .normal, S => Avc P r E y K S
  | e, S => K e S
theorem avc_sq2 {x y : Code} {K : Exit → AState → Prop} (h : Avc P r E x (thenC P r E y K) S) : Avc P r E (.seq x y) K S :=
  avc_seq fun J hJ => avc_mono h fun e S' hK => by
    cases e with
    | normal => exact hJ S' hK
    | _ => exact hK
theorem avc_drawA {id : Nat} {l : List Oper} {K : Exit → AState → Prop} (hm : P.follows .mixedOrders = true) (hok : drawOk l l.length = true) (h : DA P r E l.toArray l S (K .normal)) : Avc P r E (.region id l.toArray true) K S :=
  avc_draw l.length hm hok (by rw [List.take_length, List.drop_length]; exact h)
theorem avc_if {c : Operand} {x y : Code} {K : Exit → AState → Prop} {b : Bool} (hc : S.ev c = .d (.v (.bool b))) (h : (b = true → Avc P r E x K S) ∧ (b = false → Avc P r E y K S)) : Avc P r E (.cond c x y) K S :=
  avc_cond hc h.1 h.2
end

/-! ## Tidy forms of the operations that write -/

def AState.app (S : AState) (id : Nat) (news : List DV) : AState := S.setBlk id ((S.blk id).appended news)

section
variable {P : Program} {r : Option Nat} {E : Env} {S : AState} {d : Nat} {ty : TypeId} {pos : String} {af : Array Edge} {g : Option (Nat × Bool)}

theorem app_kill (S : AState) (id : Nat) (news : List DV) : (S.kill id).app id news = (S.kill id).setBlk id (killBlk id (S.blk id) |>.appended news) := by
  unfold AState.app
  rw [blk_kill]

theorem s_append {t e size bytes : Nat} {z : Value} {s x : Operand} {id : Nat} {sh : Bool} {cells news : List DV} {n m : Nat} (hn : d < E.n) (hT : SlTy P t e size bytes z) (hs : S.ev s = .row id) (hb : S.blk id = .row e size sh cells)
    (hx : S.dv (S.ev x) = some (.sl size news)) (hl : cells.length = n * size) (hl2 : news.length = m * size) (hby : 0 < bytes) (hbytes : (n + m) * bytes ≤ 140737488355328) (hE : E.wrB = true) (hnm : E.nm id = none) :
    Step P r E ⟨some d, .call { callee := .builtin .append, args := #[s, x], argTypes := #[t, t] }, ty, pos, af, g⟩ S ((((S.shareAV (S.ev x)).kill id).app id news).put d (.row id)) := by
  have h63 : n + m ≤ maxLen := by
    have : (n + m) * 1 ≤ (n + m) * bytes := Nat.mul_le_mul_left _ hby
    simp only [maxLen]; omega
  have := step_append (P := P) (r := r) (ty := ty) (pos := pos) (af := af) (g := g) hn hT hs hb hx hl hl2 hbytes h63 hE hnm
  rw [app_kill]
  obtain ⟨sh', hb'⟩ := blk_share_row (x := S.ev x) hb
  rw [hb'] at this ⊢
  exact this
/-- x is data already. -/
theorem s_append_d {t e size bytes : Nat} {z : Value} {s x : Operand} {id : Nat} {sh : Bool} {cells news : List DV} {n m : Nat} (hn : d < E.n) (hT : SlTy P t e size bytes z) (hs : S.ev s = .row id) (hb : S.blk id = .row e size sh cells)
    (hx : S.ev x = .d (.sl size news)) (hl : cells.length = n * size) (hl2 : news.length = m * size) (hby : 0 < bytes) (hbytes : (n + m) * bytes ≤ 140737488355328) (hE : E.wrB = true) (hnm : E.nm id = none) :
    Step P r E ⟨some d, .call { callee := .builtin .append, args := #[s, x], argTypes := #[t, t] }, ty, pos, af, g⟩ S (((S.kill id).app id news).put d (.row id)) := by
  have := s_append (P := P) (r := r) (ty := ty) (pos := pos) (af := af) (g := g) hn hT hs hb (by rw [hx]; rfl) hl hl2 hby hbytes hE hnm
  rw [hx] at this
  exact this
/-- x is a row. -/
theorem s_append_row {t e size bytes : Nat} {z : Value} {s x : Operand} {id id2 : Nat} {sh : Bool} {cells news : List DV} {n m : Nat} (hn : d < E.n) (hT : SlTy P t e size bytes z) (hs : S.ev s = .row id) (hb : S.blk id = .row e size sh cells)
    (hx : S.ev x = .row id2) (hx2 : S.dv (.row id2) = some (.sl size news)) (hl : cells.length = n * size) (hl2 : news.length = m * size) (hby : 0 < bytes) (hbytes : (n + m) * bytes ≤ 140737488355328) (hE : E.wrB = true) (hnm : E.nm id = none) :
    Step P r E ⟨some d, .call { callee := .builtin .append, args := #[s, x], argTypes := #[t, t] }, ty, pos, af, g⟩ S ((((S.shareAV (.row id2)).kill id).app id news).put d (.row id)) := by
  have := s_append (P := P) (r := r) (ty := ty) (pos := pos) (af := af) (g := g) hn hT hs hb (by rw [hx]; exact hx2) hl hl2 hby hbytes hE hnm
  rw [hx] at this
  exact this

theorem s_store_box_d {t : TypeId} {x y : Operand} {id off eb : Nat} {cells : List AV} {u : DV} (hT : OneTy P t) (hx : S.ev x = .ptr id off) (hb : S.blk id = .box eb cells) (hlt : off < cells.length)
    (hy : S.ev y = .d u) (h1 : (AV.d u).one = true) (hE : E.wrB = true) : Step P r E ⟨none, .store t x y, ty, pos, af, g⟩ S (S.setBlk id (.box eb (cells.set off (.d u)))) := by
  have := step_store_box (P := P) (r := r) (E := E) (ty := ty) (pos := pos) (af := af) (g := g) (y := y) hT hx hb hlt (by rw [hy]; exact h1) (by rw [hy]; rfl) hE
  rwa [hy] at this
theorem s_store_box_row {t : TypeId} {x y : Operand} {id off eb i : Nat} {cells : List AV} (hT : OneTy P t) (hx : S.ev x = .ptr id off) (hb : S.blk id = .box eb cells) (hlt : off < cells.length)
    (hy : S.ev y = .row i) (h1 : rowOk S (.row i) = true) (hE : E.wrB = true) : Step P r E ⟨none, .store t x y, ty, pos, af, g⟩ S (S.setBlk id (.box eb (cells.set off (.row i)))) := by
  have := step_store_box (P := P) (r := r) (E := E) (ty := ty) (pos := pos) (af := af) (g := g) (y := y) hT hx hb hlt (by rw [hy]; rfl) (by rw [hy]; exact h1) hE
  rwa [hy] at this

/-- A call that hands rows on. -/
theorem s_call {f : FuncId} {xs : List Operand} {ats : Array TypeId} {avs : List AV} {ds rs : List DV} (hn : d < E.n) (hev : xs.map S.ev = avs) (hds : S.dvL avs = some ds) (hc : Contract P f ds rs) (hG : E.gdt = gdOf P := by rfl) :
    Step P r E ⟨some d, .call { callee := .value (.func f), args := xs.toArray, argTypes := ats }, ty, pos, af, g⟩ S ((S.shareL avs).put d (retAV rs)) := by
  subst hev
  exact step_call hn hds hc hG

/-! ## A literal that is data from the first -/

theorem SatAt.newImm {A : Act} {w : World} {I : Im} {ρ : Nat → Value} {C : Nat → Prop} (hs : SatAt E S A w I ρ C) {e size n : Nat} {xs : List Value} {cells : List DV} (hl : cells.length = n * size) (hpw : Reps w I xs cells) (h1 : ∀ x ∈ xs, x.oneCell' = true) :
    ∃ I' : Im, SatAt E S A (w.alloc (.cells xs.toArray e)) I' ρ C ∧ Rep (w.alloc (.cells xs.toArray e)) I' (.slice (some ⟨w.heap.size, 0, none⟩) n n) (.sl size cells) := by
  have hI : ∀ b j, I b j → b < w.heap.size := fun b j h => (hs.old b j h).1
  have hg := hs.grow (w' := w.alloc (.cells xs.toArray e)) ((Below.refl _ _).alloc (Nat.le_refl _) _)
  let I' : Im := fun b j => I b j ∨ b = w.heap.size
  have hsub : ∀ b j, I b j → I' b j := fun _ _ h => .inl h
  refine ⟨I', hg.widen (B := w.heap.size) hsub (fun b j hi => ?_) (fun i b hi hb => (hs.blt i b hi hb).2) (E.size _ _ _ hs.frame) (fun b hc => E.csize _ _ _ hs.frame b hc), ?_⟩
  · rcases hi with hi | hi
    · exact ⟨by simp; have := hI b j hi; omega, .inl hi⟩
    · exact ⟨by simp; omega, .inr (by omega)⟩
  · by_cases h0 : n = 0
    · subst h0
      have : cells = [] := List.eq_nil_of_length_eq_zero (by simpa using hl)
      subst this
      exact .nil _ _ _
    · refine .sl _ 0 n n size xs cells (by omega) (Nat.le_refl _) hl hpw.1 (fun j x hj => ⟨?_, .inr rfl⟩) h1 (hpw.mono (same_alloc _ hI) hsub).2
      rw [Nat.zero_add, World.cell?_alloc_new]
      simpa using hj

theorem step_lit {t e size bytes : Nat} {z : Value} {len : Nat} {ps : List (Nat × Operand)} {ds : List DV} (hn : d < E.n) (hT : SlTy P t e size bytes z) (hseq : ps = seqParts 0 (ps.map Prod.snd)) (hlen : ps.length = len)
    (hds : unD ((ps.map Prod.snd).map S.ev) = some ds) (hok : ds.all (okDV size) = true) (hsz : len * size ≤ 16777216) :
    Step P r E ⟨some d, .buildSlice t len ps.toArray, ty, pos, af, g⟩ S (S.put d (.d (.sl size (ds.flatMap flatDV)))) :=
  step_run (by simp) fun A w I ρ C hs => by
    generalize hxs : ps.map Prod.snd = xs at hseq hds
    obtain ⟨hd1, hd2⟩ := unD_spec S hds
    obtain ⟨I1, h1, h2, h3⟩ := SatAt.dvL _ hs (holds_args hs xs) hd1
    rw [hd2] at h2
    obtain ⟨a1, a2, a3, a4⟩ := reps_flat h3 hok
    have hvl : (xs.map A.eval).length = len := by rw [← hlen, ← hxs]; simp
    have hdl : ds.length = len := by rw [← h3.1]; exact hvl
    obtain ⟨I2, hsat, hrep⟩ := h2.newImm (e := e) (size := size) (n := len) (by rw [a4, hdl]) a1 a2
    refine ⟨.slice (some ⟨w.heap.size, 0, none⟩) len len, _, ?_, I2, _, C, hsat.put hn hrep⟩
    obtain ⟨i, hi, hz, hsi, hby⟩ := hT.info
    have hfill := fill_seq size (xs.map A.eval) 0 ((Array.range (len * size)).map ((if len * size = 0 then (#[] : Array Value) else z.cells)[· % (if len * size = 0 then (#[] : Array Value) else z.cells).size]!)) a3 (by simp [← hvl])
    have hlk : ps.toArray.map (fun p : Nat × Operand => (p.1, A.eval p.2)) = (seqParts 0 (xs.map A.eval)).toArray := by
      rw [hseq, List.map_toArray, seqParts_map]
    have hnot : ¬ (len * size > 2 ^ 24) := by omega
    simp only [Nat.zero_mul, List.take_zero, List.nil_append, Nat.zero_add, hvl] at hfill
    rw [List.drop_of_length_le (by simp)] at hfill
    simp only [List.append_nil] at hfill ⊢
    simp only [execOp, Instr.buildSlice, Sem.run_bind, run_underlying hT.und, Result.andThen_ok, hT.size w, hnot, if_false, Sem.run_pure]
    by_cases h0 : len * size = 0
    · have hl0 : len = 0 := by
        rcases Nat.mul_eq_zero.1 h0 with h | h
        · exact h
        · have := hT.pos; omega
      have hx0 : xs = [] := List.eq_nil_of_length_eq_zero (by simpa [hl0] using hvl)
      subst hx0
      subst hl0
      simp [hlk, seqParts, Instr.fill, newRow, Array.range_zero']
    · simp only [h0, if_false] at hfill ⊢
      simp [zeroValue, typeInfo, hi, hz, hlk, hfill, newRow]

theorem a_lit {t e size bytes : Nat} {z : Value} {len : Nat} {ps : List (Nat × Operand)} {ds cells : List DV} (hn : d < E.n) (hT : SlTy P t e size bytes z) (hseq : ps = seqParts 0 (ps.map Prod.snd)) (hlen : ps.length = len)
    (hds : unD ((ps.map Prod.snd).map S.ev) = some ds) (hok : ds.all (okDV size) = true) (hsz : len * size ≤ 16777216) (hc : ds.flatMap flatDV = cells) :
    AOp P r E S ⟨some d, .buildSlice t len ps.toArray, ty, pos, af, g⟩ d (.d (.sl size cells)) :=
  ⟨rfl, hn, fun S' h => by
    subst hc
    have he : (ps.map Prod.snd).map S'.ev = (ps.map Prod.snd).map S.ev := List.map_congr_left fun x hx => h.ev (by simp [Op.operands]; simpa using hx)
    exact step_lit hn hT hseq hlen (by rw [he]; exact hds) hok hsz⟩

/-! ## Returns -/

theorem ret_int {t : Nat} {k : IntKind} {n m : Int} (h : (S.get t).un = .d (.v (.int k n))) (e : n = m) : RetS P S [.tmp t] [.v (.int k m)] := ⟨_, [], rfl, by rw [h, e]; rfl, rfl⟩
theorem ret_bool {t : Nat} {b c : Bool} (h : (S.get t).un = .d (.v (.bool b))) (e : b = c) : RetS P S [.tmp t] [.v (.bool c)] := ⟨_, [], rfl, by rw [h, e]; rfl, rfl⟩
theorem ret_d {t : Nat} {x y : DV} (h : (S.get t).un = .d x) (e : x = y) : RetS P S [.tmp t] [y] := ⟨_, [], rfl, by rw [h, e]; rfl, rfl⟩
theorem ret_row {t id e size : Nat} {sh : Bool} {cells cells' : List DV} (h : (S.get t).un = .row id) (hb : S.blk id = .row e size sh cells) (he : cells = cells') : RetS P S [.tmp t] [.sl size cells'] :=
  ⟨_, [], rfl, by rw [h, ← he]; simp [AState.dv, hb], rfl⟩
theorem cov_int {k : IntKind} {n m : Int} (h : n = m) : AV.d (.v (.int k n)) = AV.d (.v (.int k m)) := by rw [h]
theorem cov_bool {n m : Bool} (h : n = m) : AV.d (.v (.bool n)) = AV.d (.v (.bool m)) := by rw [h]
theorem cov_row {e size : Nat} {sh : Bool} {c c' : List DV} (h : c = c') : Blk.row e size sh c = Blk.row e size sh c' := by rw [h]

theorem loop_end {ι : Type} {T : ι → AState} {pre : ι → Prop} {μ : ι → Nat} {i j : ι} {K : Exit → AState → Prop} (hp : pre j) (hm : μ j < μ i) (hw : Weak E S (T j)) :
    thenK (fun S' => ∃ j, pre j ∧ μ j < μ i ∧ Weak E S' (T j)) K .normal S := ⟨j, hp, hm, hw⟩
end
end Go.AV

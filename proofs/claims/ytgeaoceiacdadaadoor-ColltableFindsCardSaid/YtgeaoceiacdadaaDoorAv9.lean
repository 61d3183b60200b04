/- The layer of abstract values: what a temporary holds, said once; every rule of it is proved from the model. Conditions: none. -/
import Derived.Test.YtgeaoceiacdadaaDoorAv8
import Derived.Laws.BytesArg
set_option linter.unusedSimpArgs false
set_option linter.unusedVariables false
set_option linter.unnecessarySimpa false
namespace Go.AV
open Go.RowKit

def dby (n : Int) : DV := .v (.int .u8 n)
def DV.bytes (l : List Int) : DV := .sl 1 (l.map dby)

section
variable {P : Program} {r : Option Nat} {E : Env} {S : AState} {d : Nat} {ty : TypeId} {pos : String} {af : Array Edge} {g : Option (Nat × Bool)}

/-! ## min, max -/

theorem a_min {k : IntKind} {x y : Operand} {a b : Int} {ats : Array TypeId} (hn : d < E.n) (hx : S.ev x = .d (.v (.int k a))) (hy : S.ev y = .d (.v (.int k b))) :
    AOp P r E S ⟨some d, .call { callee := .builtin .min, args := #[x, y], argTypes := ats }, ty, pos, af, g⟩ d (.d (.v (.int k (min a b)))) :=
  ⟨rfl, hn, fun S' h => step_val rfl hn (by simp) fun A w I ρ C hs => by
    have hx' := (h.ev (x := x) (by simp [Op.operands, Call.operands])).trans hx
    have hy' := (h.ev (x := y) (by simp [Op.operands, Call.operands])).trans hy
    simp only [execOp, resolve, List.map_toArray, List.map_cons, List.map_nil, hs.val hx', hs.val hy']
    simp [invoke, builtin, Builtin.min_, Builtin.min2]
    split <;> omega⟩
theorem a_max {k : IntKind} {x y : Operand} {a b : Int} {ats : Array TypeId} (hn : d < E.n) (hx : S.ev x = .d (.v (.int k a))) (hy : S.ev y = .d (.v (.int k b))) :
    AOp P r E S ⟨some d, .call { callee := .builtin .max, args := #[x, y], argTypes := ats }, ty, pos, af, g⟩ d (.d (.v (.int k (max a b)))) :=
  ⟨rfl, hn, fun S' h => step_val rfl hn (by simp) fun A w I ρ C hs => by
    have hx' := (h.ev (x := x) (by simp [Op.operands, Call.operands])).trans hx
    have hy' := (h.ev (x := y) (by simp [Op.operands, Call.operands])).trans hy
    simp only [execOp, resolve, List.map_toArray, List.map_cons, List.map_nil, hs.val hx', hs.val hy']
    simp [invoke, builtin, Builtin.max_, Builtin.max2]
    split <;> omega⟩

/-! ## Bits of unsigned numbers -/

theorem a_and_u64 {x y : Operand} {a b c : Int} {tx tz : TypeId} (hn : d < E.n) (hx : S.ev x = .d (.v (.int .u64 a))) (hy : S.ev y = .d (.v (.int .u64 b))) (hc : ∀ w, (Op.intBits .and .u64 a b).run P w = .ok (.int .u64 c) w) :
    AOp P r E S ⟨some d, .binOp .and tx x y tz, ty, pos, af, g⟩ d (.d (.v (.int .u64 c))) :=
  ⟨rfl, hn, fun S' h => step_val rfl hn (by simp) fun A w I ρ C hs => by
    have hx' := (h.ev (x := x) (by simp [Op.operands])).trans hx
    have hy' := (h.ev (x := y) (by simp [Op.operands])).trans hy
    simp only [execOp, hs.val hx', hs.val hy']
    simp [binOp, eqGuard, hc]⟩

/-! ## Strings -/

theorem a_sindex {t : TypeId} {x ix : Operand} {s : ByteArray} {k : Nat} {kk : IntKind} {i : Int} (hn : d < E.n) (hu : P.underlying t = some .string) (hx : S.ev x = .d (.v (.string s))) (hi : S.ev ix = .d (.v (.int kk i))) (hk : i = (k : Int)) (hlt : k < s.size) :
    AOp P r E S ⟨some d, .index t x ix, ty, pos, af, g⟩ d (.d (.v (.int .u8 (s.data.toList.getD k 0).toNat))) :=
  ⟨rfl, hn, fun S' h => step_val rfl hn (by simp) fun A w I ρ C hs => by
    subst hk
    have hx' := (h.ev (x := x) (by simp [Op.operands])).trans hx
    have hi' := (h.ev (x := ix) (by simp [Op.operands])).trans hi
    have h1 : s[k]? = some (s.data.toList.getD k 0) := by
      have h2 : k < s.data.size := hlt
      have : s[k]? = some s[k] := by simp [getElem?_pos, hlt]
      rw [this]
      simp only [List.getD, Array.getElem?_toList, Array.getElem?_eq_getElem h2]
      rfl
    simp only [execOp, hs.val hx', hs.val hi']
    simp [Instr.index, asIntOf, run_underlying hu, h1]⟩

theorem conv_rep {w : World} {I : Im} {v : Value} {l : List Int} {src dst e : TypeId} (hs : P.underlying src = some (.slice e)) (he : P.underlying e = some (.int .u8)) (hd : P.underlying dst = some .string) (h : Rep w I v (.sl 1 (l.map dby))) :
    (convert src dst v).run P w = .ok (.string (strOfNums l)) w := by
  obtain ⟨A, n, c, xs, rfl, _, hl, hpw, h1, hc⟩ := Rep.sl_inv h
  have hxs : xs = l.map (Value.int .u8) := by
    apply List.ext_getElem?
    intro j
    by_cases hj : j < xs.length
    · have hj2 : j < (l.map dby).length := by rw [← hpw.1]; exact hj
      have := hpw.2 j _ _ (List.getElem?_eq_getElem hj) (List.getElem?_eq_getElem hj2)
      simp only [List.getElem_map] at this
      rw [List.getElem?_eq_getElem hj]
      generalize xs[j] = u at this
      unfold dby at this
      cases this
      simp only [List.length_map] at hj2
      simp [hj2]
    · rw [List.getElem?_eq_none (by omega), List.getElem?_eq_none]
      have := hpw.1
      simp at this ⊢
      omega
  have hln : l.length = n := by simpa using hl
  by_cases h0 : n = 0
  · subst h0
    have : l = [] := List.eq_nil_of_length_eq_zero hln
    subst this
    cases A with
    | none => rw [run_convert_bytes_nil w src e hs he 0 c dst hd]; rfl
    | some a =>
      rw [run_convert_bytes_string w src dst e _ 0 c hs he hd]
      simp [Conv.bytesToString, loadCells, loadCellsFrom]
      rfl
  · obtain ⟨b, off, rfl, hcc⟩ := hc (by omega)
    refine run_convert_bytes_arg w src e hs he b off n c l hln (fun i hi => ?_) dst hd
    refine (hcc i _ ?_).1
    rw [hxs]
    have : i < l.length := by omega
    simp [List.getD, this]

theorem a_conv_str_d {src dst e : TypeId} {x : Operand} {l : List Int} (hn : d < E.n) (hs : P.underlying src = some (.slice e)) (hd : P.underlying dst = some .string) (he : P.underlying e = some (.int .u8)) (hx : S.ev x = .d (.sl 1 (l.map dby))) :
    AOp P r E S ⟨some d, .convert src dst x, ty, pos, af, g⟩ d (.d (.v (.string (strOfNums l)))) :=
  ⟨rfl, hn, fun S' h => step_val rfl hn (by simp) fun A w I ρ C hsat => by
    have h1 := hsat.ev x
    rw [(h.ev (x := x) (by simp [Op.operands])).trans hx] at h1
    simp only [execOp, Sem.run_bind, conv_rep hs he hd h1]
    rfl⟩
theorem a_conv_str_row {src dst e : TypeId} {x : Operand} {id eb : Nat} {sh : Bool} {l : List Int} (hn : d < E.n) (hs : P.underlying src = some (.slice e)) (hd : P.underlying dst = some .string) (he : P.underlying e = some (.int .u8)) (hx : S.ev x = .row id)
    (hb : S.blk id = .row eb 1 sh (l.map dby)) : AOp P r E S ⟨some d, .convert src dst x, ty, pos, af, g⟩ d (.d (.v (.string (strOfNums l)))) :=
  ⟨rfl, hn, fun S' h => step_val rfl hn (by simp) fun A w I ρ C hsat => by
    have h1 := hsat.ev x
    rw [(h.ev (x := x) (by simp [Op.operands])).trans hx] at h1
    obtain ⟨I', _, _, hrep⟩ := hsat.shareRow ((h.blk id).trans hb)
    have hv : A.eval x = ρ id := h1
    simp only [execOp, Sem.run_bind, hv, conv_rep hs he hd hrep]
    rfl⟩

/-! ## Slicing -/

theorem run_sliceBound (w : World) (k : IntKind) (i y : Nat) (code : BoundsCode) (h : i ≤ y) : (Instr.sliceBound (.int k i) y code).run P w = .ok i w := by
  simp [Instr.sliceBound, asIntOf, h]

/-- The bounds of 's[lo:hi]', as the operation has them. -/
structure Bd (S : AState) (n : Nat) (lo hi : Option Operand) (l h : Nat) : Prop where
  lo : match lo with
    | none => l = 0
    | some x => ∃ k i, S.ev x = .d (.v (.int k i)) ∧ i = (l : Int)
  hi : match hi with
    | none => h = n
    | some x => ∃ k i, S.ev x = .d (.v (.int k i)) ∧ i = (h : Int)
  le : l ≤ h
  len : h ≤ n

theorem run_slice (w : World) {t e size : Nat} (hu : P.underlying t = some (.slice e)) (hsz : (sizeOf e).run P w = .ok size w) (A : Option Addr) (n c l h : Nat) (lo hi : Option Value) (hlo : lo = none ∧ l = 0 ∨ ∃ k, lo = some (.int k l)) (hhi : hi = none ∧ h = n ∨ ∃ k, hi = some (.int k h))
    (hle : l ≤ h) (hn : h ≤ n) (hc : n ≤ c) : (Instr.sliceAt t (.slice A n c) lo hi none).run P w = .ok (.slice (if c = l then A else A.map (·.add (l * size))) (h - l) (c - l)) w := by
  have hb : (Instr.sliceBounds true n c lo hi none).run P w = .ok (l, h, c) w := by
    rcases hlo with ⟨rfl, rfl⟩ | ⟨k, rfl⟩ <;> rcases hhi with ⟨rfl, rfl⟩ | ⟨k', rfl⟩
    · simp [Instr.sliceBounds]
    · simp [Instr.sliceBounds, run_sliceBound (P := P) w k' h c _ (by omega)]
    · simp [Instr.sliceBounds, run_sliceBound (P := P) w k l h _ hle]
    · simp [Instr.sliceBounds, run_sliceBound (P := P) w k' h c _ (by omega), run_sliceBound (P := P) w k l h _ hle]
  simp [Instr.sliceAt, Instr.slice, run_underlying hu, hb, hsz]

theorem Bd.vals {n l h : Nat} {lo hi : Option Operand} (hb : Bd S n lo hi l h) {A : Act} {w : World} {I : Im} {ρ : Nat → Value} {C : Nat → Prop} (hs : SatAt E S A w I ρ C) :
    (lo.map A.eval = none ∧ l = 0 ∨ ∃ k, lo.map A.eval = some (.int k l)) ∧ (hi.map A.eval = none ∧ h = n ∨ ∃ k, hi.map A.eval = some (.int k h)) := by
  constructor
  · cases lo with
    | none => exact .inl ⟨rfl, hb.lo⟩
    | some x => obtain ⟨k, i, h1, rfl⟩ := hb.lo; exact .inr ⟨k, by simp [hs.val h1]⟩
  · cases hi with
    | none => exact .inl ⟨rfl, hb.hi⟩
    | some x => obtain ⟨k, i, h1, rfl⟩ := hb.hi; exact .inr ⟨k, by simp [hs.val h1]⟩

theorem Bd.agree {n l h : Nat} {lo hi : Option Operand} {t : TypeId} {x : Operand} {mx : Option Operand} {S' : AState} (hb : Bd S n lo hi l h) (ha : Agree S S' ⟨some d, .slice t x lo hi mx, ty, pos, af, g⟩) : Bd S' n lo hi l h := by
  refine ⟨?_, ?_, hb.le, hb.len⟩
  · cases lo with
    | none => exact hb.lo
    | some y => obtain ⟨k, i, h1, h2⟩ := hb.lo; exact ⟨k, i, (ha.ev (by simp [Op.operands])).trans h1, h2⟩
  · cases hi with
    | none => exact hb.hi
    | some y => obtain ⟨k, i, h1, h2⟩ := hb.hi; exact ⟨k, i, (ha.ev (by simp [Op.operands])).trans h1, h2⟩

theorem rep_slice {w : World} {I : Im} {A : Option Addr} {n c l h size : Nat} {cells : List DV} (hr : Rep w I (.slice A n c) (.sl size cells)) (hl : cells.length = n * size) (hp : 0 < size) (hle : l ≤ h) (hn : h ≤ n) :
    Rep w I (.slice (if c = l then A else A.map (·.add (l * size))) (h - l) (c - l)) (.sl size ((cells.take (h * size)).drop (l * size))) := by
  by_cases h0 : h - l = 0
  · have : (cells.take (h * size)).drop (l * size) = [] := by
      apply List.drop_of_length_le
      rw [List.length_take]
      have : h * size ≤ l * size := Nat.mul_le_mul_right _ (by omega)
      omega
    rw [this, h0]
    exact .nil _ _ _
  · obtain ⟨A', n', c', xs, hv, hcap, hl', hpw, h1, hcc⟩ := Rep.sl_inv hr
    cases hv
    obtain ⟨b, off, rfl, hc2⟩ := hcc (by omega)
    rw [if_neg (by omega)]
    simp only [Option.map_some, add_lit]
    have hhn : h * size ≤ n * size := Nat.mul_le_mul_right _ hn
    have hlen : ((cells.take (h * size)).drop (l * size)).length = (h - l) * size := by
      rw [List.length_drop, List.length_take, hl, Nat.sub_mul]; omega
    have hpw2 := (hpw.take (h * size)).drop (l * size)
    refine .sl b (off + l * size) (h - l) (c - l) size ((xs.take (h * size)).drop (l * size)) _ (by omega) (by omega) hlen hpw2.1 (fun j x hj => ?_) (fun x hx => h1 x (List.mem_of_mem_take (List.mem_of_mem_drop hx))) hpw2.2
    rw [List.getElem?_drop, List.getElem?_take] at hj
    split at hj
    · rw [Nat.add_assoc]; exact hc2 _ x hj
    · cases hj

theorem a_slice_d {t e size bytes : Nat} {z : Value} {x : Operand} {lo hi : Option Operand} {cells cells' : List DV} {n l h : Nat} (hn : d < E.n) (hT : SlTy P t e size bytes z) (hx : S.ev x = .d (.sl size cells)) (hl : cells.length = n * size)
    (hb : Bd S n lo hi l h) (hc : (cells.take (h * size)).drop (l * size) = cells') : AOp P r E S ⟨some d, .slice t x lo hi none, ty, pos, af, g⟩ d (.d (.sl size cells')) :=
  ⟨rfl, hn, fun S' ha => step_value rfl hn (by simp) fun A w I ρ C hs => by
    have h1 := hs.ev x
    rw [(ha.ev (x := x) (by simp [Op.operands])).trans hx] at h1
    have h1' : Rep w I (A.eval x) (.sl size cells) := h1
    obtain ⟨A', n', c, xs, hv, hcap, hl', _⟩ := Rep.sl_inv h1'
    obtain rfl := len_eq hl' hl hT.pos
    obtain ⟨hlo, hhi⟩ := (hb.agree ha).vals hs
    subst hc
    rw [hv] at h1'
    refine ⟨_, ?_, rep_slice h1' hl hT.pos hb.le hb.len⟩
    simp only [execOp, hv, Sem.run_bind, Option.map_none, run_slice w hT.und (hT.size w) A' n' c l h _ _ hlo hhi hb.le hb.len hcap]
    rfl⟩

theorem row_val {w : World} {I : Im} {ρ : Nat → Value} {M : Nat → Prop} {id e size : Nat} {sh : Bool} {cells : List DV} {n : Nat} (h : BlkOk w I ρ M id (.row e size sh cells)) (hl : cells.length = n * size) :
    ∃ A c, ρ id = .slice A n c ∧ n ≤ c ∧ (0 < n → ∃ b, blockOf (ρ id) = some b ∧ A = some ⟨b, 0, none⟩) := by
  obtain ⟨h0, n', xs, hl', hown, _⟩ := h
  obtain rfl := len_eq hl' hl h0.1
  rcases hown.2 with ⟨hn, rfl⟩ | ⟨gb, cap, cur, hn, _, _, hnc, _⟩
  · exact ⟨_, _, hn, by omega, fun h => absurd h (by omega)⟩
  · exact ⟨_, _, hn, hnc, fun _ => ⟨gb, by rw [hn]; rfl, rfl⟩⟩

theorem a_slice_row {t e size bytes : Nat} {z : Value} {x : Operand} {lo hi : Option Operand} {id : Nat} {sh : Bool} {cells : List DV} {n l h : Nat} (hn : d < E.n) (hT : SlTy P t e size bytes z) (hx : S.ev x = .row id) (hbk : S.blk id = .row e size sh cells) (hl : cells.length = n * size)
    (hb : Bd S n lo hi l h) : AOp P r E S ⟨some d, .slice t x lo hi none, ty, pos, af, g⟩ d (.rs id (l * size) (h - l)) :=
  ⟨rfl, hn, fun S' ha => step_value rfl hn (by simp) fun A w I ρ C hs => by
    have h1 := hs.ev x
    rw [(ha.ev (x := x) (by simp [Op.operands])).trans hx] at h1
    have hv : A.eval x = ρ id := h1
    have hk := hs.blks id
    rw [(ha.blk id).trans hbk] at hk
    obtain ⟨A', c, hρ, hcap, hadr⟩ := row_val hk hl
    obtain ⟨hlo, hhi⟩ := (hb.agree ha).vals hs
    have hlen := hb.len
    have hle := hb.le
    refine ⟨_, ?_, (if c = l then A' else A'.map (·.add (l * size))), c - l, rfl, by omega, fun h0 => ?_⟩
    · simp only [execOp, hv, hρ, Sem.run_bind, Option.map_none, run_slice w hT.und (hT.size w) A' n c l h _ _ hlo hhi hb.le hb.len hcap]
      rfl
    · obtain ⟨b, hb1, hb2⟩ := hadr (by omega)
      refine ⟨b, hb1, ?_⟩
      rw [if_neg (by omega), hb2]
      simp [add_lit]⟩

/-! ## copy -/

theorem SatAt.congr' {S' : AState} {A : Act} {w : World} {I : Im} {ρ : Nat → Value} {C : Nat → Prop} (h : SatAt E S A w I ρ C) (hg : ∀ t, S'.get t = S.get t) (hbk : ∀ i, S'.blk i = S.blk i) : SatAt E S' A w I ρ C :=
  ⟨fun t => by rw [hg]; exact h.tmps t, fun i => by rw [hbk]; exact h.blks i, fun i i' b hn hi hi' => h.dist i i' b hn (by rw [← hbk]; exact hi) (by rw [← hbk]; exact hi'), by have := h.frame; unfold AState.ghost at this ⊢; rw [hg]; exact this, h.sub, h.old, h.size, h.defers, h.cI, fun i b hi hb' => h.cB i b (by rw [← hbk]; exact hi) hb', fun i v hv hi => h.nm i v hv (by rw [← hbk]; exact hi)⟩

def spl (cells : List DV) (off : Nat) (news : List DV) : List DV := cells.take off ++ news ++ cells.drop (off + news.length)

/-- A slice of the row is overwritten. -/
theorem SatAt.splice {A : Act} {w : World} {I : Im} {ρ : Nat → Value} {C : Nat → Prop} (hs : SatAt E S A w I ρ C) {id e size off b : Nat} {cells news : List DV} {ys : List Value} (hb : S.blk id = .row e size false cells) (hρ : blockOf (ρ id) = some b)
    (hfit : off + news.length ≤ cells.length) (hpy : Reps w I ys news) (h1y : ∀ u ∈ ys, u.oneCell' = true) (hE : E.wrB = true) :
    ∃ w', (storeCells ⟨b, off, none⟩ ys).run P w = .ok () w' ∧ SatAt E (S.setBlk id (.row e size false (spl cells off news))) A w' I ρ C := by
  have hbk := hs.blks id
  rw [hb] at hbk
  obtain ⟨h0, n, xs, hl, hown, h1', hpw, hI⟩ := hbk
  rcases hown.2 with ⟨hn, _⟩ | ⟨gb, cap, cur, hn, hB, hh, hnc, hcm, hcs, htk⟩
  · rw [hn] at hρ; cases hρ
  · have hbb : gb = b := by rw [hn] at hρ; simpa [blockOf] using hρ
    subst hbb
    have hI' : ∀ j, ¬ I gb j := fun j hj => by have := (hI gb j (by rw [hn]; rfl) hj).1; cases this
    have hxl : xs.length = n * size := hown.1
    have hcl : n * size ≤ cur.size := by rw [hcs]; exact Nat.mul_le_mul_right _ hnc
    have hyl : ys.length = news.length := hpy.1
    have hst := run_storeCells_at P gb off e ys 0 cur w hh (by omega) h1y
    simp only [Nat.add_zero] at hst
    have hspl : (spl cells off news).length = cells.length := by simp [spl]; omega
    refine ⟨_, hst, hs.modify (grownBy_setRow w gb _) (by rw [hb]; simp) hρ (same_setRow hI') ⟨h0, n, xs.take off ++ ys ++ xs.drop (off + ys.length), by rw [hspl, hl], ⟨by simp; omega, .inr ⟨gb, cap, _, hn, hB, setRow_heap w gb cur _ e _ hh, hnc, hcm, ?_, ?_⟩⟩, ?_, ?_, ?_⟩ hE⟩
    · simp; omega
    · simp only [← htk]
      rw [List.take_append, List.take_append]
      simp only [List.length_take, List.length_append, Array.length_toList, List.take_take, List.drop_take]
      rw [show min (n * size) off = off by omega, show min off cur.size = off by omega, show min off (n * size) = off by omega, List.take_of_length_le (l := ys) (by omega)]
    · intro v hv'
      rw [List.mem_append, List.mem_append] at hv'
      rcases hv' with (hv' | hv') | hv'
      · exact h1' v (List.mem_of_mem_take hv')
      · exact h1y v hv'
      · exact h1' v (List.mem_of_mem_drop hv')
    · have hpw' := hpw.imp fun _ _ h => Rep.mono h (same_setRow (w := w) (I := I) (b := gb) (arr := (cur.toList.take off ++ ys ++ cur.toList.drop (off + ys.length)).toArray) hI') (fun _ _ h => h)
      have hpy' := hpy.imp fun _ _ h => Rep.mono h (same_setRow (w := w) (I := I) (b := gb) (arr := (cur.toList.take off ++ ys ++ cur.toList.drop (off + ys.length)).toArray) hI') (fun _ _ h => h)
      unfold spl
      rw [← hyl]
      exact Pw.append (Pw.append (hpw'.take off) hpy') (hpw'.drop (off + ys.length))
    · intro g' j hg' hi
      rw [hn] at hg'
      simp [Value.ownBlock] at hg'
      subst hg'
      exact absurd hi (hI' j)

theorem run_copy_gen {t e size : Nat} (hu : P.underlying t = some (.slice e)) (w w' : World) (hsz : (sizeOf e).run P w = .ok size w) (D B : Option Addr) (n1 c1 m c2 : Nat) (ys : List Value)
    (hload : (Builtin.firstCells size (Nat.min m n1) (.slice B m c2)).run P w = .ok ys.toArray w) (hst : match D with | some a => (storeCells a ys).run P w = .ok () w' | none => w' = w) :
    (Builtin.copy_ #[t, t] ty #[.slice D n1 c1, .slice B m c2]).run P w = .ok (.int .i64 (Nat.min m n1)) w' := by
  cases D with
  | none => simp only at hst; subst hst; simp [Builtin.copy_, run_underlying hu, Builtin.lenOf, hsz, hload, goInt]
  | some a => simp only at hst; simp [Builtin.copy_, run_underlying hu, Builtin.lenOf, hsz, hload, hst, goInt]

/-- 'copy(dst, src)': dst a slice of a row of the call's own, src whatever reads as cells. -/
theorem copy_core {A : Act} {w : World} {I : Im} {ρ : Nat → Value} {C : Nat → Prop} (hs : SatAt E S A w I ρ C) {t e size bytes : Nat} {z : Value} (hT : SlTy P t e size bytes z) {id off n1 n m : Nat} {cells news : List DV} (hb : S.blk id = .row e size false cells) (hl : cells.length = n * size)
    {D B : Option Addr} {c1 c2 : Nat} (hD : 0 < n1 → ∃ b, blockOf (ρ id) = some b ∧ D = some ⟨b, off * size, none⟩) (hfit : off + n1 ≤ n) {ys : List Value} (hpy : Reps w I ys news) (h1y : ∀ u ∈ ys, u.oneCell' = true) (hml : news.length = m * size)
    (hB : 0 < m → ∃ b o, B = some ⟨b, o, none⟩ ∧ ∀ (j : Nat) x, ys[j]? = some x → w.cell? ⟨b, o + j, none⟩ = some x) (hE : E.wrB = true) :
    ∃ w', (Builtin.copy_ #[t, t] ty #[.slice D n1 c1, .slice B m c2]).run P w = .ok (.int .i64 (min m n1 : Nat)) w' ∧ SatAt E (S.setBlk id (.row e size false (spl cells (off * size) (news.take (min m n1 * size))))) A w' I ρ C := by
  have hmin : Nat.min m n1 = min m n1 := rfl
  by_cases h0 : min m n1 = 0
  · refine ⟨w, ?_, ?_⟩
    · rw [← hmin]
      refine run_copy_gen hT.und w w (hT.size w) D B n1 c1 m c2 [] ?_ ?_
      · rw [hmin, h0]; cases B <;> simp [Builtin.firstCells, loadCells, loadCellsFrom]
      · cases D <;> simp [storeCells]
    · rw [h0]
      simp only [Nat.zero_mul, List.take_zero, spl, List.append_nil, List.length_nil, Nat.add_zero, List.take_append_drop]
      rw [← hb]
      exact hs.congr' (fun _ => rfl) (fun i => by rw [blk_setBlk]; split <;> simp_all)
  · obtain ⟨b, hρ, rfl⟩ := hD (by omega)
    obtain ⟨b2, o2, rfl, hcc⟩ := hB (by omega)
    have hk1 : min m n1 * size ≤ m * size := Nat.mul_le_mul_right _ (by omega)
    have hk2 : off * size + min m n1 * size ≤ n * size := by rw [← Nat.add_mul]; exact Nat.mul_le_mul_right _ (by omega)
    have hyl : ys.length = m * size := by rw [hpy.1, hml]
    obtain ⟨w', hst, hsat⟩ := hs.splice (P := P) (off := off * size) (news := news.take (min m n1 * size)) (ys := ys.take (min m n1 * size)) hb hρ (by rw [List.length_take, hml, hl]; omega) (hpy.take _) (fun u hu => h1y u (List.mem_of_mem_take hu)) hE
    refine ⟨w', ?_, hsat⟩
    rw [← hmin]
    refine run_copy_gen hT.und w w' (hT.size w) _ _ n1 c1 m c2 (ys.take (min m n1 * size)) ?_ hst
    rw [hmin]
    have := run_firstCells_some (P := P) w size (min m n1) ⟨b2, o2, none⟩ m c2 (ys.take (min m n1 * size)) (by rw [List.length_take, hyl]; omega) (fun j v hj => by
      rw [add_lit]
      rw [List.getElem?_take] at hj
      split at hj
      · exact hcc j v hj
      · cases hj)
    exact this

theorem s_copy_row_d {t e size bytes : Nat} {z : Value} {x y : Operand} {id n m : Nat} {cells news : List DV} (hn : d < E.n) (hT : SlTy P t e size bytes z) (hx : S.ev x = .row id) (hb : S.blk id = .row e size false cells) (hl : cells.length = n * size)
    (hy : S.ev y = .d (.sl size news)) (hml : news.length = m * size) (hE : E.wrB = true) :
    Step P r E ⟨some d, .call { callee := .builtin .copy, args := #[x, y], argTypes := #[t, t] }, ty, pos, af, g⟩ S ((S.setBlk id (.row e size false (spl cells 0 (news.take (min m n * size))))).put d (.d (.v (.int .i64 (min m n : Nat))))) :=
  step_run (by simp) fun A w I ρ C hs => by
    have h1 := hs.ev x
    rw [hx] at h1
    have hv : A.eval x = ρ id := h1
    have h2 := hs.ev y
    rw [hy] at h2
    obtain ⟨B, m', c2, ys, hvy, _, hml', hpy, h1y, hcy⟩ := Rep.sl_inv h2
    obtain rfl := len_eq hml' hml hT.pos
    have hk := hs.blks id
    rw [hb] at hk
    obtain ⟨D, c1, hρ, _, hadr⟩ := row_val hk hl
    obtain ⟨w', hr, hsat⟩ := copy_core (P := P) (ty := ty) (D := D) (B := B) (c1 := c1) (c2 := c2) (off := 0) (n1 := n) (m := m') hs hT hb hl (by simpa using hadr) (by omega) hpy h1y hml' (fun h0 => by obtain ⟨b, o, e1, e2⟩ := hcy h0; exact ⟨b, o, e1, fun j x hj => (e2 j x hj).1⟩) hE
    simp only [Nat.zero_mul] at hsat
    refine ⟨_, w', ?_, I, ρ, C, hsat.put hn (.v _)⟩
    simp only [execOp, resolve, invoke, builtin, Sem.run_bind, Sem.run_pure, Result.andThen_ok, List.map_toArray, List.map_cons, List.map_nil, hv, hρ, hvy, hr]

/-- Within one row. -/
theorem s_copy_rs_rs {t e size bytes : Nat} {z : Value} {x y : Operand} {id n n1 m off o2 : Nat} {cells : List DV} (hn : d < E.n) (hT : SlTy P t e size bytes z) (hx : S.ev x = .rs id (off * size) n1) (hb : S.blk id = .row e size false cells) (hl : cells.length = n * size)
    (hy : S.ev y = .rs id (o2 * size) m) (hf1 : off + n1 ≤ n) (hf2 : o2 + m ≤ n) (hE : E.wrB = true) :
    Step P r E ⟨some d, .call { callee := .builtin .copy, args := #[x, y], argTypes := #[t, t] }, ty, pos, af, g⟩ S
      ((S.setBlk id (.row e size false (spl cells (off * size) (((cells.drop (o2 * size)).take (m * size)).take (min m n1 * size))))).put d (.d (.v (.int .i64 (min m n1 : Nat))))) :=
  step_run (by simp) fun A w I ρ C hs => by
    have h1 := hs.ev x
    rw [hx] at h1
    obtain ⟨D, c1, hv, _, hadr⟩ := h1
    have h2 := hs.ev y
    rw [hy] at h2
    obtain ⟨B, c2, hvy, _, hadr2⟩ := h2
    have hk := hs.blks id
    rw [hb] at hk
    have hmm : o2 * size + m * size ≤ n * size := by rw [← Nat.add_mul]; exact Nat.mul_le_mul_right _ hf2
    have hxs : ∃ xs, Reps w I xs cells ∧ (∀ x ∈ xs, x.oneCell' = true) ∧ ∀ b, blockOf (ρ id) = some b → ∀ (j : Nat) x, xs[j]? = some x → w.cell? ⟨b, j, none⟩ = some x := by
      cases hbo : blockOf (ρ id) with
      | none =>
        obtain ⟨h0, n', xs, hl', hown, h1', hpw, _⟩ := hk
        exact ⟨xs, hpw, h1', fun b hb => by cases hb⟩
      | some b =>
        obtain ⟨xs, h1', h2', h3'⟩ := row_cells hk hbo
        exact ⟨xs, h1', h2', fun b' hb' => by cases hb'; exact h3'⟩
    obtain ⟨xs, hpw, h1x, hcx⟩ := hxs
    obtain ⟨w', hr, hsat⟩ := copy_core (P := P) (ty := ty) (D := D) (B := B) (c1 := c1) (c2 := c2) (off := off) (n1 := n1) (m := m) (ys := (xs.drop (o2 * size)).take (m * size)) (news := (cells.drop (o2 * size)).take (m * size)) hs hT hb hl hadr hf1
      ((hpw.drop _).take _) (fun u hu => h1x u (List.mem_of_mem_drop (List.mem_of_mem_take hu))) (by rw [List.length_take, List.length_drop, hl]; omega) (fun h0 => by
        obtain ⟨b, e1, e2⟩ := hadr2 h0
        refine ⟨b, o2 * size, e2, fun j x hj => ?_⟩
        rw [List.getElem?_take] at hj
        split at hj
        · rw [List.getElem?_drop] at hj; exact hcx b e1 _ x hj
        · cases hj) hE
    refine ⟨_, w', ?_, I, ρ, C, hsat.put hn (.v _)⟩
    simp only [execOp, resolve, invoke, builtin, Sem.run_bind, Sem.run_pure, Result.andThen_ok, List.map_toArray, List.map_cons, List.map_nil, hv, hvy, hr]

/-! ## Boxes and functions -/

theorem s_box_d {elem : TypeId} {x : Operand} {u : DV} (hn : d < E.n) (hx : S.ev x = .d u) (h1 : (AV.d u).one = true) (hnm : E.nm d = none) :
    Step P r E ⟨some d, .box elem x, ty, pos, af, g⟩ S (((S.kill d).setBlk d (.box elem [.d u])).put d (.ptr d 0)) :=
  step_run (by simp) fun A w I ρ C hs => by
    have h := hs.ev x
    rw [hx] at h
    have hone := one_of hs.blks h h1 (by intro _ e; cases e)
    have hb := hs.newBox (id := d) (e := elem) (arr := #[A.eval x]) (cells := [.d u]) (Pw.cons h Pw.nil) (by simpa using hone) hnm
    refine ⟨.pointer (some ⟨w.heap.size, 0, none⟩), w.alloc (.cells #[A.eval x] elem), ?_, I, _, C, hb.put hn ⟨w.heap.size, by simp [upd, blockOf], rfl⟩⟩
    simp only [execOp, Instr.box, newVar, cells_one hone]
    simp [newRow]

/-- A variable that is written no more: a pointer to data. -/
theorem weak_freeze {t id e : Nat} {cells : List AV} {ds : List DV} (hn : t < E.n) (ht : S.get t = .ptr id 0) (hb : S.blk id = .box e cells) (hd : unD cells = some ds) : Weak E S ((S.setBlk id .none).put t (.d (.pt ds))) := by
  rintro a w ⟨I, ρ, C, h⟩
  have hk := h.blks id
  rw [hb] at hk
  obtain ⟨b, arr, hρ, hM, hh, h1, hpw, hI⟩ := hk
  have hne : S.blk id ≠ .none := by rw [hb]; simp
  have hbt := h.blt id b hne (by rw [hρ]; rfl)
  have hreps : Reps w I arr.toList ds := by
    clear hb hh h1
    generalize arr.toList = xs at hpw
    induction cells generalizing xs ds with
    | nil => simp [unD] at hd; subst hd; have : xs = [] := List.eq_nil_of_length_eq_zero hpw.1; subst this; exact Pw.nil
    | cons c cells ih =>
      cases xs with
      | nil => have := hpw.1; simp at this
      | cons x xs =>
        cases c with
        | d y =>
          simp only [unD] at hd
          cases hu : unD cells with
          | none => simp [hu] at hd
          | some ys =>
            simp [hu] at hd
            subst hd
            exact Pw.cons (hpw.2 0 x (.d y) rfl rfl) (ih hu xs ⟨by have := hpw.1; simpa using this, fun j u z hu hz => hpw.2 (j + 1) u z (by simpa using hu) (by simpa using hz)⟩)
        | _ => simp [unD] at hd
  let I' : Im := fun b' j => I b' j ∨ b' = b
  have hsub : ∀ b j, I b j → I' b j := fun _ _ h => .inl h
  have key : ∀ i, (S.setBlk id .none).blk i ≠ .none → S.blk i ≠ .none ∧ i ≠ id := by
    intro i hi
    rw [blk_setBlk] at hi
    by_cases e : id = i
    · subst e; simp at hi
    · simp only [e, if_false] at hi; exact ⟨hi, fun e' => e e'.symm⟩
  refine ⟨I', ρ, C, ⟨fun u => ?_, fun i => ?_, fun i i' b' hn' hi hi' => h.dist i i' b' hn' (key i hi).1 (key i' hi').1, by rw [ghost_put _ _ hn]; exact h.frame, fun b j hi => hsub b j (h.sub b j hi), fun b' j hi => ?_, h.size, h.defers, fun b' j hi => ?_, fun i b' hi hb' => h.cB i b' (key i hi).1 hb', fun i v hv hi => h.nm i v hv (key i hi).1⟩⟩
  · rw [get_put]
    by_cases e : t = u
    · subst e
      simp only [if_true]
      have := h.tmps t
      rw [ht] at this
      obtain ⟨b', hb', hv⟩ := this
      rw [hρ] at hb'
      simp [blockOf] at hb'
      subst hb'
      rw [hv]
      have hr' := hreps.mono (same_refl I w) hsub
      exact Rep.pt b 0 arr.toList ds hreps.1 (fun j x hj => ⟨by rw [Nat.zero_add, cell_of_row w b j arr e (0, 0) hh]; simpa using hj, .inr rfl⟩) h1 hr'.2
    · simp only [e, if_false]
      exact (h.tmps u).mono (same_refl I w) hsub
  · show BlkOk w I' ρ E.mine i ((S.setBlk id .none).blk i)
    by_cases e : id = i
    · subst e; rw [blk_setBlk]; simp only [if_true]; trivial
    · rw [blk_setBlk, if_neg e]
      refine (h.blks i).widenI hsub fun b2 j hx hbo hi => ?_
      rcases hi with hi | hi
      · exact hi
      · subst hi; exact absurd hbo (h.dist id i b2 e hne hx (by rw [hρ]; rfl))
  · rcases hi with hi | hi
    · exact h.old b' j hi
    · subst hi; exact ⟨hbt.2, .inr hbt.1⟩
  · rcases hi with hi | hi
    · exact h.cI b' j hi
    · subst hi; exact h.cB id b' hne (by rw [hρ]; rfl)

theorem a_load_pt {t : TypeId} {x : Operand} {cells : List DV} {e : DV} (hn : d < E.n) (hT : OneTy P t) (hx : S.ev x = .d (.pt cells)) (hc : cells[0]? = some e) :
    AOp P r E S ⟨some d, .load t x, ty, pos, af, g⟩ d (.d e) :=
  ⟨rfl, hn, fun S' ha => step_value rfl hn (by simp) fun A w I ρ C hs => by
    have h := hs.ev x
    rw [(ha.ev (x := x) (by simp [Op.operands])).trans hx] at h
    have h' : Rep w I (A.eval x) (.pt cells) := h
    generalize hv : A.eval x = v at h'
    cases h' with
    | pt b o xs cells hxl hcc h1 hr =>
      have hlt : 0 < xs.length := by rw [hxl]; exact (List.getElem?_eq_some_iff.1 hc).1
      have hx' := List.getElem?_eq_getElem hlt
      refine ⟨xs[0], ?_, hr 0 _ e hx' hc⟩
      have := (hcc 0 _ hx').1
      simp only [Nat.add_zero] at this
      simp only [execOp, hv, Sem.run_bind, run_loadOne w hT b o _ this]
      rfl⟩

theorem a_makeFunc {f : FuncId} {caps : List Operand} {ds : List DV} (hn : d < E.n) (hd : unD (caps.map S.ev) = some ds) :
    AOp P r E S ⟨some d, .makeFunc (.func f) #[] caps.toArray, ty, pos, af, g⟩ d (.d (.fn f ds)) :=
  ⟨rfl, hn, fun S' ha => step_value rfl hn (by simp) fun A w I ρ C hs => by
    have he : caps.map S'.ev = caps.map S.ev := List.map_congr_left fun x hx => ha.ev (by simp [Op.operands]; simpa using hx)
    rw [← he] at hd
    obtain ⟨h1, h2⟩ := unD_spec S' hd
    have hreps : Reps w I (caps.map A.eval) ds := by
      have := holds_args hs caps
      generalize caps.map A.eval = vs at this ⊢
      generalize caps.map S'.ev = avs at this hd
      clear h1 h2 he
      induction avs generalizing vs ds with
      | nil => simp [unD] at hd; subst hd; have : vs = [] := List.eq_nil_of_length_eq_zero this.1; subst this; exact Pw.nil
      | cons c cells ih =>
        cases vs with
        | nil => have := this.1; simp at this
        | cons x xs =>
          cases c with
          | d y =>
            simp only [unD] at hd
            cases hu : unD cells with
            | none => simp [hu] at hd
            | some ys =>
              simp [hu] at hd
              subst hd
              exact Pw.cons (this.2 0 x (.d y) rfl rfl) (ih xs ⟨by have := this.1; simpa using this, fun j u z hu hz => this.2 (j + 1) u z (by simpa using hu) (by simpa using hz)⟩ hu)
          | _ => simp [unD] at hd
    refine ⟨.func (.func f) #[] (caps.map A.eval).toArray, ?_, .fn f _ ds hreps.1 hreps.2⟩
    simp [execOp, Instr.makeFunc]⟩

/-- A call of a function value. -/
theorem a_callv {f : FuncId} {x : Operand} {xs : List Operand} {ats : Array TypeId} {caps ds rs : List DV} (hn : d < E.n) (hx : S.ev x = .d (.fn f caps)) (hds : unD (xs.map S.ev) = some ds) (hc : Contract P f (ds ++ caps) rs) (hG : E.gdt = gdOf P := by rfl) :
    AOp P r E S ⟨some d, .call { callee := .value x, args := xs.toArray, argTypes := ats }, ty, pos, af, g⟩ d (retAV rs) :=
  ⟨rfl, hn, fun S' ha => by
    have he : xs.map S'.ev = xs.map S.ev := List.map_congr_left fun x hx => ha.ev (by simp [Op.operands, Call.operands, hx])
    rw [← he] at hds
    obtain ⟨hd1, hd2⟩ := unD_spec S' hds
    rintro A w K Q ⟨I, ρ, C, hs⟩ hk
    obtain ⟨⟨fn, hf, hname, hbody⟩, hcall⟩ := hc
    obtain ⟨I1, h1, h2, h3⟩ := SatAt.dvL _ hs (holds_args hs xs) hd1
    rw [hd2] at h2
    have hxv := hs.ev x
    rw [(ha.ev (x := x) (by simp [Op.operands, Call.operands])).trans hx] at hxv
    have hxv' : Rep w I (A.eval x) (.fn f caps) := hxv
    generalize hvx : A.eval x = vx at hxv'
    cases hxv' with
    | fn f cvs caps hcx hcr =>
      have hcr' : Reps w I1 cvs caps := ⟨hcx, fun j u z hu hz => (hcr j u z hu hz).mono (same_refl I w) h1⟩
      have hcl := hcall w I1 (xs.map A.eval ++ cvs) (fun b j hi => (h2.old b j hi).1) (hG ▸ h2.gl) (Pw.append h3 hcr')
      refine ⟨fun f _ => trivial, ?_⟩
      rw [Oper.semAt_eq _ _ _ (by simp)]
      have hrun : (execOp A.eval ⟨some d, .call { callee := .value x, args := xs.toArray, argTypes := ats }, ty, pos, af, g⟩).run P w = .ok (.enter f (xs.map A.eval ++ cvs).toArray) w := by
        simp only [execOp, resolve, hvx, Deferred.ofValue]
        have hn1 : ¬ fn.name = "runtime.NumGoroutine" := by simpa using hname
        have hn2 : ¬ fn.body = none := by intro e; simp [e] at hbody
        simp [invoke, callFunc, hf, hn1, hn2, List.map_toArray]
      rw [hrun]
      refine ⟨by simp [fen, Fence.wide], ?_⟩
      show CallsIn Fence.wide 0 P f _ w _
      refine callsIn_wide.2 (hcl.mono ?_)
      rintro e w' ⟨v, I', rfl, hb, hsub, hnew, hret⟩
      refine hk _ _ ⟨I', ρ, C, SatAt.put ?_ hn (retOk_holds hret)⟩
      have h4 := h2.grow hb
      exact h4.widen hsub hnew (fun i b hi hbk => (h2.blt i b hi hbk).2) (E.size _ _ _ h2.frame) (fun b hc => E.csize _ _ _ h2.frame b hc)⟩
end
end Go.AV

/- The layer of abstract values: what a temporary holds, said once; every rule of it is proved from the model. Conditions: none. -/
import Derived.Test.YtgeaoceiacdadaaDoorAv27
set_option linter.unusedSimpArgs false
set_option linter.unusedVariables false
set_option linter.unnecessarySimpa false
namespace Go.AV
open Go.RowKit Go.M

/-! ## Pure data -/
def DV.pure : DV → Bool
  | .v _ => true
  | .agg cs => cs.all DV.isV
  | _ => false
theorem rep_pure {w w' : World} {I I' : Im} {v : Value} {d : DV} (h : Rep w I v d) (hp : d.pure = true) : Rep w' I' v d := by
  cases h with
  | v => exact .v v
  | agg xs cells hx h1 hr => exact .agg xs cells hx h1 (reps_any (w := w) (I := I) ⟨hx, hr⟩ hp).2
  | _ => simp [DV.pure] at hp
def pc (y : DV) : Cap := if y.pure then .d y else .top
theorem pc_holds {w w' : World} {I I' : Im} {ρ : Nat → Value} {v : Value} {y : DV} (h : Rep w I v y) : HoldsC w' I' ρ v (pc y) := by
  unfold pc
  by_cases hp : y.pure = true
  · simp only [hp, if_true]; exact rep_pure h hp
  · simp only [hp, if_false]; trivial
def retPC : List DV → AV
  | [y] => (pc y).av
  | ys => .tupc (ys.map pc)
theorem retPC_holds {w w' : World} {I I' : Im} {ρ : Nat → Value} {v : Value} : ∀ {rs : List DV}, RetOk w I v rs → Holds w' I' ρ v (retPC rs)
  | [], h => by
    obtain ⟨xs, h1, h2⟩ := h
    exact ⟨xs, h1, by have := h2.1; simp at this; subst this; exact Pw.nil⟩
  | [y], h => Cap.holds (pc_holds h)
  | x :: y :: zs, h => by
    obtain ⟨xs, h1, h2⟩ := h
    refine ⟨xs, h1, by simpa using h2.1, fun j u c hu hc => ?_⟩
    rw [List.getElem?_map] at hc
    cases hy : (x :: y :: zs)[j]? with
    | none => rw [hy] at hc; cases hc
    | some q => rw [hy] at hc; cases hc; exact pc_holds (h2.2 j u q hu hy)

section
variable {P : Program} {r : Option Nat} {E : Env} {S : AState} {d : Nat} {ty : TypeId} {pos : String} {af : Array Edge} {g : Option (Nat × Bool)}

/-! ## Windows -/
theorem win_inv {w : World} {I : Im} {ρ : Nat → Value} {M : Nat → Prop} {id e size k n : Nat} {cells : List DV} (h : BlkOk w I ρ M id (.win e size k cells)) (hl : cells.length = n * size) :
    0 < size ∧ ∃ A c xs, ρ id = .slice A n c ∧ n ≤ c ∧ Reps w I xs cells ∧ (∀ x ∈ xs, x.oneCell' = true) ∧ (0 < n → ∃ b off arr, A = some ⟨b, off, none⟩ ∧ M b ∧ w.heap[b]? = some (.cells arr e (0, 0)) ∧ off + n * size ≤ arr.size ∧ (∀ (j : Nat) x, xs[j]? = some x → arr[off + j]? = some x) ∧ (∀ j, off ≤ j → j < off + n * size → I b j → j < off + k * size)) := by
  obtain ⟨A, n', c, xs, hv, hnc, hp, hl', hr, h1, hA⟩ := h
  obtain rfl := len_eq hl' hl hp
  refine ⟨hp, A, c, xs, hv, hnc, hr, h1, fun h0 => ?_⟩
  rcases hA with ⟨_, h⟩ | h
  · omega
  · exact h

section win
variable {t e size bytes k n : Nat} {z : Value} {x : Operand} {id : Nat} {cells : List DV}

theorem a_len_win (hn : d < E.n) (hT : SlTy P t e size bytes z) (hx : S.ev x = .row id) (hb : S.blk id = .win e size k cells) (hl : cells.length = n * size) :
    AOp P r E S ⟨some d, .call { callee := .builtin .len, args := #[x], argTypes := #[t] }, ty, pos, af, g⟩ d (.d (.v (.int .i64 n))) :=
  ⟨rfl, hn, fun S' ha => step_val rfl hn (by simp) fun A w I ρ C hs => by
    have h := hs.ev x
    rw [(ha.ev (by simp [Op.operands, Call.operands])).trans hx] at h
    have hv : A.eval x = ρ id := h
    have hk := hs.blks id
    rw [(ha.blk id).trans hb] at hk
    obtain ⟨_, A', c, xs, hρ, _⟩ := win_inv hk hl
    exact run_len w hT.und _ _ _ x A (hv.trans hρ) _ rfl⟩

/-- A slice of a window. -/
theorem a_slice_win {lo hi : Option Operand} {l h : Nat} (hn : d < E.n) (hT : SlTy P t e size bytes z) (hx : S.ev x = .row id) (hbk : S.blk id = .win e size k cells) (hl : cells.length = n * size) (hb : Bd S n lo hi l h) :
    AOp P r E S ⟨some d, .slice t x lo hi none, ty, pos, af, g⟩ d (.ws id (l * size) (h - l) false) :=
  ⟨rfl, hn, fun S' ha => step_value rfl hn (by simp) fun A w I ρ C hs => by
    have h1 := hs.ev x
    rw [(ha.ev (x := x) (by simp [Op.operands])).trans hx] at h1
    have hv : A.eval x = ρ id := h1
    have hk := hs.blks id
    rw [(ha.blk id).trans hbk] at hk
    obtain ⟨_, A', c, xs, hρ, hcap, _, _, hadr⟩ := win_inv hk hl
    obtain ⟨hlo, hhi⟩ := (hb.agree ha).vals hs
    have hlen := hb.len
    have hle := hb.le
    refine ⟨_, ?_, (if c = l then A' else A'.map (·.add (l * size))), c - l, rfl, by omega, (by simp), fun h0 => ?_⟩
    · simp only [execOp, hv, hρ, Sem.run_bind, Option.map_none, run_slice w hT.und (hT.size w) A' n c l h _ _ hlo hhi hb.le hb.len hcap]
      rfl
    · obtain ⟨b, off, arr, rfl, _⟩ := hadr (by omega)
      refine ⟨b, off, n, c, hρ, ?_⟩
      rw [if_neg (by omega)]
      simp [add_lit]⟩

theorem run_slice3 (w : World) (hu : P.underlying t = some (.slice e)) (hsz : (sizeOf e).run P w = .ok size w) (A : Option Addr) (n c l h m : Nat) (lo : Option Value) (k1 k2 : IntKind) (hlo : lo = none ∧ l = 0 ∨ ∃ k, lo = some (.int k l))
    (hle : l ≤ h) (hm : h ≤ m) (hc : m ≤ c) : (Instr.sliceAt t (.slice A n c) lo (some (.int k1 h)) (some (.int k2 m))).run P w = .ok (.slice (if m = l then A else A.map (·.add (l * size))) (h - l) (m - l)) w := by
  have hb : (Instr.sliceBounds true n c lo (some (.int k1 h)) (some (.int k2 m))).run P w = .ok (l, h, m) w := by
    rcases hlo with ⟨rfl, rfl⟩ | ⟨k, rfl⟩
    · simp [Instr.sliceBounds, run_sliceBound (P := P) w k2 m c _ (by omega), run_sliceBound (P := P) w k1 h m _ (by omega)]
    · simp [Instr.sliceBounds, run_sliceBound (P := P) w k2 m c _ (by omega), run_sliceBound (P := P) w k1 h m _ (by omega), run_sliceBound (P := P) w k l h _ hle]
  simp [Instr.sliceAt, Instr.slice, run_underlying hu, hb, hsz]
end win
end
end Go.AV

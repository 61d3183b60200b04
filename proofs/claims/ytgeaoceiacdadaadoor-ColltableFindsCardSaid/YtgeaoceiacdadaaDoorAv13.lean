/- The layer of abstract values: what a temporary holds, said once; every rule of it is proved from the model. Conditions: none. -/
import Derived.Test.YtgeaoceiacdadaaDoorAv12
set_option linter.unusedSimpArgs false
set_option linter.unusedVariables false
set_option linter.unnecessarySimpa false
namespace Go.AV
open Go.RowKit

section
variable {P : Program} {r : Option Nat} {E : Env} {S : AState} {d : Nat} {ty : TypeId} {pos : String} {af : Array Edge} {g : Option (Nat × Bool)}

/-- What a box holds is said otherwise. -/
theorem SatAt.rebox {a : Act} {w : World} {I : Im} {ρ : Nat → Value} {C : Nat → Prop} (h : SatAt E S a w I ρ C) {bid eb : Nat} {cells cells' : List AV} (hb : S.blk bid = .box eb cells) (hc : ∀ xs : List Value, Pw (Holds w I ρ) xs cells → Pw (Holds w I ρ) xs cells') :
    SatAt E (S.setBlk bid (.box eb cells')) a w I ρ C := by
  have hne : S.blk bid ≠ .none := by rw [hb]; simp
  have key : ∀ i, (S.setBlk bid (.box eb cells')).blk i ≠ .none → S.blk i ≠ .none := by
    intro i hi
    rw [blk_setBlk] at hi
    by_cases e : bid = i
    · subst e; exact hne
    · simpa [e] using hi
  refine ⟨h.tmps, fun i => ?_, fun i i' b hn hi hi' => h.dist i i' b hn (key i hi) (key i' hi'), h.frame, h.sub, h.old, h.size, h.defers, h.cI, fun i b hi hb' => h.cB i b (key i hi) hb', fun i v hv hi => h.nm i v hv (key i hi)⟩
  rw [blk_setBlk]
  by_cases e : bid = i
  · subst e
    simp only [if_true]
    have hk := h.blks bid
    rw [hb] at hk
    obtain ⟨b, arr, hρ, hM, hh, h1, hpw, hI⟩ := hk
    exact ⟨b, arr, hρ, hM, hh, h1, hc _ hpw, hI⟩
  · simp only [e, if_false]; exact h.blks i

theorem Pw.set_right {α β : Type} {R : α → β → Prop} {xs : List α} {ys : List β} (h : Pw R xs ys) {off : Nat} {y y' : β} (hy : ys[off]? = some y) (hR : ∀ x, R x y → R x y') : Pw R xs (ys.set off y') := by
  refine ⟨by simp [h.1], fun j u v hu hv => ?_⟩
  rw [List.getElem?_set] at hv
  by_cases e : off = j
  · subst e
    by_cases hl : off < ys.length
    · simp [hl] at hv; subst hv; exact hR u (h.2 off u y hu hy)
    · simp [hl] at hv
  · simp [e] at hv; exact h.2 j u v hu hv

/-- A box holds nil: a row of its own. -/
theorem weak_nil_box {bid eb off : Nat} {cells : List AV} (rid e size : Nat) (hp : 0 < size) (hne : rid ≠ bid) (hnm : E.nm rid = none) (hb : S.blk bid = .box eb cells) (hc : (cells.map (killAV rid))[off]? = some (.d (.v (.slice none 0 0)))) :
    Weak E S (((S.kill rid).setBlk rid (.row e size false [])).setBlk bid (.box eb ((cells.map (killAV rid)).set off (.row rid)))) := by
  rintro a w ⟨I, ρ, C, h⟩
  have h2 := h.update (World.grownBy.refl w none) (id := rid) (u := .slice none 0 0) (x := .row e size false []) (by simp) (same_refl I w) (by simp [blockOf])
    ⟨⟨hp, by simp [upd, Value.ownBlock]⟩, 0, [], by simp, by simp only [upd, if_true]; exact World.ownsRow_nil w _ e size, by simp, Pw.nil, by simp [upd, Value.ownBlock]⟩ (.inl rfl) hnm
  refine ⟨I, _, C, h2.rebox (eb := eb) (cells := cells.map (killAV rid)) ?_ fun xs hx => hx.set_right hc fun x hx2 => ?_⟩
  · rw [blk_setBlk, if_neg hne, blk_kill, hb]; rfl
  · have hx3 : Rep w I x (.v (.slice none 0 0)) := hx2
    cases hx3
    simp [Holds, upd]

/-- A box holds a row: data from now on. -/
theorem weak_row_box {bid eb off rid e size : Nat} {sh : Bool} {cells : List AV} {rc : List DV} (hb : S.blk bid = .box eb cells) (hc : cells[off]? = some (.row rid)) (hr : S.blk rid = .row e size sh rc) :
    Weak E S ((S.setBlk rid (.row e size true rc)).setBlk bid (.box eb (cells.set off (.d (.sl size rc))))) := by
  rintro a w ⟨I, ρ, C, h⟩
  have hne : rid ≠ bid := by rintro rfl; rw [hb] at hr; cases hr
  obtain ⟨I', h1, h2, h3⟩ := h.shareRow hr
  refine ⟨I', ρ, C, h2.rebox (eb := eb) (cells := cells) (by rw [blk_setBlk, if_neg hne]; exact hb) fun xs hx => hx.set_right hc fun x hx2 => ?_⟩
  have hx3 : x = ρ rid := hx2
  rw [hx3]
  exact h3
/-- A slot holds a row: data from now on. -/
theorem weak_row_d {t rid e size : Nat} {sh : Bool} {rc : List DV} (hn : t < E.n) (ht : S.get t = .row rid) (hr : S.blk rid = .row e size sh rc) : Weak E S ((S.setBlk rid (.row e size true rc)).put t (.d (.sl size rc))) := by
  rintro a w ⟨I, ρ, C, h⟩
  obtain ⟨I', h1, h2, h3⟩ := h.shareRow hr
  refine ⟨I', ρ, C, ⟨fun u => ?_, h2.blks, h2.dist, by rw [ghost_put _ _ hn]; exact h2.frame, h2.sub, h2.old, h2.size, h2.defers, h2.cI, h2.cB, h2.nm⟩⟩
  rw [get_put]
  by_cases e : t = u
  · subst e
    simp only [if_true]
    have := h.tmps t
    rw [ht] at this
    have hv : a.tmps.getD t undef = ρ rid := this
    rw [hv]
    exact h3
  · simp only [e, if_false]; exact h2.tmps u
/-- nil as data. -/
theorem weak_nil_d {t : Nat} (size : Nat) (hn : t < E.n) (ht : S.get t = .d (.v (.slice none 0 0))) : Weak E S (S.put t (.d (.sl size []))) := by
  rintro a w ⟨I, ρ, C, h⟩
  refine ⟨I, ρ, C, ⟨fun u => ?_, h.blks, h.dist, by rw [ghost_put _ _ hn]; exact h.frame, h.sub, h.old, h.size, h.defers, h.cI, h.cB, h.nm⟩⟩
  rw [get_put]
  by_cases e : t = u
  · subst e
    simp only [if_true]
    have := h.tmps t
    rw [ht] at this
    generalize a.tmps.getD t undef = v at this ⊢
    have h' : Rep w I v (.v (.slice none 0 0)) := this
    cases h'
    exact .nil _ _ _
  · simp only [e, if_false]; exact h.tmps u

theorem weak_trans {S1 S2 S3 : AState} (h : Weak E S1 S2) (k : Weak E S2 S3) : Weak E S1 S3 := fun a w hs => k a w (h a w hs)

/-- The result of a rule, said otherwise. -/
theorem AOp.int {o : Oper} {k : IntKind} {a b : Int} (h : AOp P r E S o d (.d (.v (.int k a)))) (e : a = b) : AOp P r E S o d (.d (.v (.int k b))) := e ▸ h
theorem AOp.data {o : Oper} {a b : DV} (h : AOp P r E S o d (.d a)) (e : a = b) : AOp P r E S o d (.d b) := e ▸ h
theorem AOp.bool {o : Oper} {a b : Bool} (h : AOp P r E S o d (.d (.v (.bool a)))) (e : a = b) : AOp P r E S o d (.d (.v (.bool b))) := e ▸ h

theorem ret_two {t u : Nat} {x y : DV} (h1 : S.dv (S.get t).un = some x) (h2 : S.dv (S.get u).un = some y) : RetS P S [.tmp t, .tmp u] [x, y] := ⟨_, _, rfl, h1, _, _, rfl, h2, rfl⟩
theorem ret_three {t u v : Nat} {x y z : DV} (h1 : S.dv (S.get t).un = some x) (h2 : S.dv (S.get u).un = some y) (h3 : S.dv (S.get v).un = some z) : RetS P S [.tmp t, .tmp u, .tmp v] [x, y, z] := ⟨_, _, rfl, h1, _, _, rfl, h2, _, _, rfl, h3, rfl⟩

theorem mask32 (a : Int) (h0 : 0 ≤ a) (h1 : a < 18446744073709551616) (w : World) : (Op.intBits .and .u64 a 4294967295).run P w = .ok (.int .u64 (a % 4294967296)) w := by
  obtain ⟨n, rfl⟩ := Int.eq_ofNat_of_zero_le h0
  have hb := u64_and_nat n 4294967295 (by omega) (by omega)
  have hm : n &&& 4294967295 = n % 4294967296 := Nat.and_two_pow_sub_one_eq_mod n 32
  have e : (Op.intBits .and .u64 (n : Int) 4294967295).run P w = .ok (.int .u64 (bits .and .u64 (n : Int) ((4294967295 : Nat) : Int))) w := rfl
  rw [e, hb, hm]
  rfl
theorem a_mask {x y : Operand} {a : Int} {tx tz : TypeId} (hn : d < E.n) (hx : S.ev x = .d (.v (.int .u64 a))) (hy : S.ev y = .d (.v (.int .u64 4294967295))) (h0 : 0 ≤ a) (h1 : a < 18446744073709551616) :
    AOp P r E S ⟨some d, .binOp .and tx x y tz, ty, pos, af, g⟩ d (.d (.v (.int .u64 (a % 4294967296)))) := a_and_u64 hn hx hy (fun w => mask32 a h0 h1 w)
theorem wu64 {n : Int} (h1 : 0 ≤ n) (h2 : n < 18446744073709551616) : IntKind.u64.wrap n = n := by
  have e : IntKind.u64.wrap n = n % 18446744073709551616 := rfl
  rw [e]; omega
theorem wu8 {n : Int} (h1 : 0 ≤ n) (h2 : n < 256) : IntKind.u8.wrap n = n := by
  have e : IntKind.u8.wrap n = n % 256 := rfl
  rw [e]; omega
theorem a_conv_to {k k' : IntKind} {x : Operand} {a b : Int} {ts td : TypeId} {ds : TypeDesc} (hn : d < E.n) (hs : P.underlying ts = some ds) (hd : P.underlying td = some (.int k')) (hx : S.ev x = .d (.v (.int k a))) (hw : k'.wrap a = b) :
    AOp P r E S ⟨some d, .convert ts td x, ty, pos, af, g⟩ d (.d (.v (.int k' b))) := hw ▸ a_conv_int hn hs hd hx

theorem rnd_end {T' : List (Nat × Blk)} (h : CovB S T') : rndK T' .normal S := h
end
end Go.AV

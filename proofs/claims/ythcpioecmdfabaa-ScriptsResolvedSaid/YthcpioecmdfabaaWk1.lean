/- Each function of the program answers as its plain counterpart does, where that answers. Conditions: none. -/
import Derived.Test.YthcpioecmdfabaaMir
import Derived.Test.YthcpioecmdfabaaSortB
import Derived.Test.YthcpioecmdfabaaShelf
import Derived.Shelf.Sort.Plain
import Derived.Shelf.Slices.In.SortNone
import Derived.Test.YthcpioecmdfabaaProg
set_option linter.unusedSimpArgs false
set_option linter.unusedVariables false
set_option linter.unnecessarySimpa false
namespace Go.Proofs.Ythcpioecmdfabaa.Walk
open Go.AV Go.M Go.RowKit Go.Proofs
theorem B25 : StTy Try.prog 25 [(0, 1), (1, 1)] [(.slice none 0 0), (.slice none 0 0)] := StTy.of Try.underlying25 (by kernel_rfl) (by kernel_rfl) rfl
theorem B38 : StTy Try.prog 38 [(0, 1), (1, 1)] [(.int IntKind.i64 (0)), (.int IntKind.i64 (0))] := StTy.of Try.underlying38 (by kernel_rfl) (by kernel_rfl) rfl
theorem B45 : StTy Try.prog 45 [(0, 1), (1, 1), (2, 1)] [(.int IntKind.i64 (0)), (.int IntKind.i64 (0)), (.int IntKind.i64 (0))] := StTy.of Try.underlying45 (by kernel_rfl) (by kernel_rfl) rfl
theorem G25 : AggTy Try.prog 25 2 := AggTy.of Try.underlying25 rfl (by kernel_rfl)
theorem G38 : AggTy Try.prog 38 2 := AggTy.of Try.underlying38 rfl (by kernel_rfl)
theorem G45 : AggTy Try.prog 45 3 := AggTy.of Try.underlying45 rfl (by kernel_rfl)
theorem K3 : KeyTy Try.prog 3 kI := keyInt Try.underlying3
theorem K9 : KeyTy Try.prog 9 kS := keyStr Try.underlying9
theorem L25_0 : FldTy Try.prog 25 0 0 1 22 := FldTy.of Try.underlying25 rfl (by kernel_rfl) (by decide)
theorem L25_1 : FldTy Try.prog 25 1 1 1 23 := FldTy.of Try.underlying25 rfl (by kernel_rfl) (by decide)
theorem L38_0 : FldTy Try.prog 38 0 0 1 3 := FldTy.of Try.underlying38 rfl (by kernel_rfl) (by decide)
theorem L38_1 : FldTy Try.prog 38 1 1 1 3 := FldTy.of Try.underlying38 rfl (by kernel_rfl) (by decide)
theorem L45_0 : FldTy Try.prog 45 0 0 1 3 := FldTy.of Try.underlying45 rfl (by kernel_rfl) (by decide)
theorem L45_1 : FldTy Try.prog 45 1 1 1 3 := FldTy.of Try.underlying45 rfl (by kernel_rfl) (by decide)
theorem L45_2 : FldTy Try.prog 45 2 2 1 3 := FldTy.of Try.underlying45 rfl (by kernel_rfl) (by decide)
theorem M46 : MapTy Try.prog 46 9 4 (.bool false) := MapTy.of Try.underlying46 (by kernel_rfl)
theorem M56 : MapTy Try.prog 56 9 38 (.agg #[(.int IntKind.i64 (0)), (.int IntKind.i64 (0))]) := MapTy.of Try.underlying56 (by kernel_rfl)
theorem M58 : MapTy Try.prog 58 3 9 (.string ⟨#[]⟩) := MapTy.of Try.underlying58 (by kernel_rfl)
theorem M88 : MapTy Try.prog 88 9 3 (.int IntKind.i64 (0)) := MapTy.of Try.underlying88 (by kernel_rfl)
theorem O22 : OneTy Try.prog 22 := OneTy.of Try.underlying22 rfl (by kernel_rfl)
theorem O23 : OneTy Try.prog 23 := OneTy.of Try.underlying23 rfl (by kernel_rfl)
theorem O3 : OneTy Try.prog 3 := OneTy.of Try.underlying3 rfl (by kernel_rfl)
theorem O9 : OneTy Try.prog 9 := OneTy.of Try.underlying9 rfl (by kernel_rfl)
theorem S22 : SlTy Try.prog 22 9 1 16 (.string ⟨#[]⟩) := SlTy.of Try.underlying22 (by kernel_rfl) rfl (by decide) rfl
theorem S23 : SlTy Try.prog 23 45 3 24 (.agg #[(.int IntKind.i64 (0)), (.int IntKind.i64 (0)), (.int IntKind.i64 (0))]) := SlTy.of Try.underlying23 (by kernel_rfl) rfl (by decide) rfl
theorem S26 : SlTy Try.prog 26 3 1 8 (.int IntKind.i64 (0)) := SlTy.of Try.underlying26 (by kernel_rfl) rfl (by decide) rfl
theorem S32 : SlTy Try.prog 32 38 2 16 (.agg #[(.int IntKind.i64 (0)), (.int IntKind.i64 (0))]) := SlTy.of Try.underlying32 (by kernel_rfl) rfl (by decide) rfl
theorem S34 : SlTy Try.prog 34 22 1 24 (.slice none 0 0) := SlTy.of Try.underlying34 (by kernel_rfl) rfl (by decide) rfl
theorem E38 : EqTy Try.prog 38 eRange := EqTy.of (vals := fun (x : Range) => [.int IntKind.i64 x.Lo, .int IntKind.i64 x.Hi]) (cs := fun (a b : Range) => [decide (a.Lo = b.Lo), decide (a.Hi = b.Hi)]) Try.underlying38 (by kernel_rfl) (by kernel_rfl) (fun _ => rfl) (fun a b w => (eqs_int rfl O3 (eqs_int rfl O3 eqs_nil Try.underlying3 rfl rfl) Try.underlying3 rfl rfl)) (fun a b => by cases a; cases b; simp)
theorem MX : Try.prog.follows .mixedOrders = true := by kernel_rfl
theorem sortS_0 (A : Option Addr) (c : Nat) (w : World) : Calls Try.prog 29 #[.slice A 0 c] w fun en w' => en = .returned (.tuple #[]) ∧ w' = w := Any.slices_Sort_string_none Try.lays190 A c w
theorem sortS_1 (l : List Str) (hl : l.length ≤ LIM) (blk off cap : Nat) (w : World) (hH : Sort.Holds Go.Proofs.encStr w blk off l.toArray) (hb : blk < w.heap.size) : Calls Try.prog 29 #[.slice (some ⟨blk, off, none⟩) l.length cap] w fun en w' =>
      en = .returned (.tuple #[]) ∧ ∃ n os, w' = Sort.grow (Sort.putRow Go.Proofs.encStr (Sort.ahead w n) blk off (l.mergeSort fun x y => decide (x ≤ y)).toArray) os :=
  Any.slices_Sort_string Try.lays190 blk off cap l w hH hb (by unfold LIM at hl; omega)
theorem sortS_g {l r : List Str} (h : sortS l = some r) : GC Try.prog 29 [.row 0] [(0, .win 9 eS.size (eS.all l))] [0] [] [(0, .win 9 eS.size (eS.all r))] := by
  unfold sortS at h
  split at h
  · rename_i hl
    cases h
    exact gc_sort (en := eS) (encV := Go.Proofs.encStr) (fun _ => rfl) rfl (fun _ => rfl) (by simp) ⟨_, Try.func29, by kernel_rfl, rfl⟩ (fun _ A c w => sortS_0 A c w) (fun blk off cap w hH hb => sortS_1 l hl blk off cap w hH hb)
  · cases h

theorem law40_few_c  {a0 : Property} {a1 : (List Int)}  {r : Bool} (h : law40_few a0 a1 = some r) : Contract Try.prog 10 [(eProperty.dv a0), (dsl eI a1)] [(db r)] := by
  refine contract_of Try.func10 (by kernel_rfl) rfl (lq rfl) (lq rfl) fun w0 I0 => ?_
  unfold law40_few at h
  refine avc_sq2 ?_
  refine avc_sq ?_
  refine sqa (m_box (size := 2) (lq rfl) rfl rfl) ?_
  refine sqa (a_assign_d (lq rfl) rfl) ?_
  refine sq_nil ?_
  refine avc_sq2 ?_
  refine avc_sq ?_
  refine sqa (m_fieldPt (lq rfl) L25_0 rfl) ?_
  refine sqa (a_load_ip (lq rfl) O22 rfl rfl) ?_
  refine sqa (m_len (en := eS) (l := a0.Names) (lq rfl) S22 rfl) ?_
  refine sqa (a_leq (lq rfl) rfl rfl) ?_
  obtain ⟨b9, hb9, h'⟩ := bE h; clear h
  refine sqa ((a_move_d (lq rfl) rfl).bool (Option.some.inj hb9)) ?_
  refine sq_g (x := .ip (eProperty.cells a0) (0 + 1)) rfl rfl rfl (lq rfl) (lq rfl) rfl (fun hb => by obtain rfl : b9 = true := hb; exact m_fieldPt (lq rfl) L25_1 rfl) ?_
  refine sq_g (x := .d (dsl eSpan a0.Spans)) rfl rfl rfl (lq rfl) (lq rfl) rfl (fun hb => by obtain rfl : b9 = true := hb; exact a_load_ip (lq rfl) O23 rfl rfl) ?_
  refine sq_g (x := .d (di (a0.Spans.length : Int))) rfl rfl rfl (lq rfl) (lq rfl) rfl (fun hb => by obtain rfl : b9 = true := hb; exact m_len (en := eSpan) (l := a0.Spans) (lq rfl) S23 rfl) ?_
  refine sq_g (x := .d (db (decide ((a0.Spans.length : Int) ≤ 16)))) rfl rfl rfl (lq rfl) (lq rfl) rfl (fun hb => by obtain rfl : b9 = true := hb; exact a_leq (lq rfl) rfl rfl) ?_
  refine sqa (a_pick_and (lq rfl) rfl rfl) ?_
  obtain ⟨b15, hb15, h⟩ := bE h'; clear h'
  refine sqa ((a_move_d (lq rfl) rfl).bool (Option.some.inj hb15)) ?_
  refine sq_g (x := .d (dsl eI a1)) rfl rfl rfl (lq rfl) (lq rfl) rfl (fun hb => by obtain rfl : b15 = true := hb; exact a_move_d (lq rfl) rfl) ?_
  refine sq_g (x := .d (di (a1.length : Int))) rfl rfl rfl (lq rfl) (lq rfl) rfl (fun hb => by obtain rfl : b15 = true := hb; exact m_len (en := eI) (l := a1) (lq rfl) S26 rfl) ?_
  refine sq_g (x := .d (db (decide ((a1.length : Int) ≤ 40)))) rfl rfl rfl (lq rfl) (lq rfl) rfl (fun hb => by obtain rfl : b15 = true := hb; exact a_leq (lq rfl) rfl rfl) ?_
  refine sqa (a_pick_and (lq rfl) rfl rfl) ?_
  refine sqa (a_assign_d (lq rfl) rfl) ?_
  refine sq_nil ?_
  cases h
  refine avc_ret ?_
  exact ret_1 rfl

theorem property_isName_c  {a0 : Str}  {r : Bool} (h : property_isName a0 = some r) : Contract Try.prog 76 [(ds a0)] [(db r)] := by
  refine contract_of Try.func76 (by kernel_rfl) rfl (lq rfl) (lq rfl) fun w0 I0 => ?_
  unfold property_isName at h
  refine avc_sq2 ?_
  refine avc_sq ?_
  refine sqa (a_assign_d (lq rfl) rfl) ?_
  refine sq_nil ?_
  refine avc_sq2 ?_
  refine avc_sq2 ?_
  refine avc_sq ?_
  refine sqa (a_move_d (lq rfl) rfl) ?_
  refine sqa (m_seql (a := a0) (b := []) (lq rfl) rfl rfl) ?_
  obtain ⟨b8, hb8, h'⟩ := bE h; clear h
  refine sqa ((a_move_d (lq rfl) rfl).bool (Option.some.inj hb8)) ?_
  refine sq_g (x := .d (ds a0)) rfl rfl rfl (lq rfl) (lq rfl) rfl (fun hb => by obtain rfl := gF hb; exact a_move_d (lq rfl) rfl) ?_
  refine sq_g (x := .d (di (a0.length : Int))) rfl rfl rfl (lq rfl) (lq rfl) rfl (fun hb => by obtain rfl := gF hb; exact m_slen (s := a0) (lq rfl) Try.underlying9 rfl) ?_
  refine sq_g (x := .d (db (decide (32 < (a0.length : Int))))) rfl rfl rfl (lq rfl) (lq rfl) rfl (fun hb => by obtain rfl := gF hb; exact a_gtr (lq rfl) rfl rfl) ?_
  refine sqa (a_pick_or (lq rfl) rfl rfl) ?_
  refine sq_nil ?_
  refine avc_if rfl ⟨fun c1 => ?_, fun c1 => ?_⟩
  · replace h' := cT c1 h'
    refine avc_sq2 ?_
    refine avc_sq ?_
    refine sqa (a_assign_d (lq rfl) rfl) ?_
    refine sq_nil ?_
    cases h'
    refine avc_ret ?_
    exact ret_1 rfl
  · replace h' := cF c1 h'
    refine avc_skip ?_
    refine avc_sq2 ?_
    refine avc_sq2 ?_
    refine avc_sq ?_
    refine sqa (a_move_d (lq rfl) rfl) ?_
    refine sqa (m_slen (s := a0) (lq rfl) Try.underlying9 rfl) ?_
    refine sqa (a_move_d (lq rfl) rfl) ?_
    refine sq_nil ?_
    refine avc_block ?_
    obtain ⟨y1, hy1, h⟩ := bE h'; clear h'
    rcases y1 with y1 | y1
    ·
      replace h := eL h
      refine avc_tail (e := .exit 0) (S2 := ⟨[], []⟩) ?_ ?_
      ·
        refine avc_loopM (fun x => ⟨[(0, .d (ds a0)), (14, .d (di (a0.length : Int))), (15, .d (di x))], []⟩) hy1 (weak_cov ⟨rfl, rfl, rfl, trivial⟩ trivial) ?_
        rintro v15 sy1 hsy1
        replace hsy1 : property_isName_L0 a0 v15 = some sy1 := hsy1
        unfold property_isName_L0 at hsy1
        refine avc_sq2 ?_
        refine avc_sq ?_
        refine sqa (a_lss (lq rfl) rfl rfl) ?_
        refine sq_nil ?_
        refine avc_sq2 ?_
        refine avc_if rfl ⟨fun c2 => ?_, fun c2 => ?_⟩
        · replace hsy1 := cT c2 hsy1
          refine avc_skip ?_
          refine avc_sq2 ?_
          refine avc_block ?_
          refine avc_sq2 ?_
          refine avc_sq ?_
          refine sqa (a_move_d (lq rfl) rfl) ?_
          refine sqa (a_assign_d (lq rfl) rfl) ?_
          refine sq_nil ?_
          refine avc_sq2 ?_
          refine avc_sq ?_
          refine sqa (a_move_d (lq rfl) rfl) ?_
          refine sqa (a_move_d (lq rfl) rfl) ?_
          obtain ⟨t20, ht20, hsy1'⟩ := bE hsy1; clear hsy1
          refine sqa (m_sindex (s := a0) (lq rfl) Try.underlying9 rfl rfl ht20) ?_
          refine sqa (a_assign_d (lq rfl) rfl) ?_
          refine sq_nil ?_
          refine avc_sq2 ?_
          refine avc_sq ?_
          refine sqa (a_move_d (lq rfl) rfl) ?_
          refine sqa (a_geq (lq rfl) rfl rfl) ?_
          obtain ⟨b23, hb23, hsy1⟩ := bE hsy1'; clear hsy1'
          refine sqa ((a_move_d (lq rfl) rfl).bool (Option.some.inj hb23)) ?_
          refine sq_g (x := .d (dby t20)) rfl rfl rfl (lq rfl) (lq rfl) rfl (fun hb => by obtain rfl : b23 = true := hb; exact a_move_d (lq rfl) rfl) ?_
          refine sq_g (x := .d (db (decide (t20 ≤ 90)))) rfl rfl rfl (lq rfl) (lq rfl) rfl (fun hb => by obtain rfl : b23 = true := hb; exact a_leq (lq rfl) rfl rfl) ?_
          refine sqa (a_pick_and (lq rfl) rfl rfl) ?_
          obtain ⟨b27, hb27, hsy1'⟩ := bE hsy1; clear hsy1
          refine sqa ((a_move_d (lq rfl) rfl).bool (Option.some.inj hb27)) ?_
          refine sq_g (x := .d (dby t20)) rfl rfl rfl (lq rfl) (lq rfl) rfl (fun hb => by obtain rfl := gF hb; exact a_move_d (lq rfl) rfl) ?_
          refine sq_g (x := .d (db (decide (97 ≤ t20)))) rfl rfl rfl (lq rfl) (lq rfl) rfl (fun hb => by obtain rfl := gF hb; exact a_geq (lq rfl) rfl rfl) ?_
          obtain ⟨b30, hb30, hsy1⟩ := bE hsy1'; clear hsy1'
          refine sq_g (x := .d (db b30)) rfl rfl rfl (lq rfl) (lq rfl) rfl (fun hb => by obtain rfl := gF hb; exact (a_move_d (lq rfl) rfl).bool (Option.some.inj hb30)) ?_
          refine sq_g2 (x := .d (dby t20)) rfl rfl rfl (lq rfl) (lq rfl) rfl (fun hb => by obtain ⟨hb, hb1⟩ := and_split hb; obtain rfl := gF hb; obtain rfl : b30 = true := hb1; exact a_move_d (lq rfl) rfl) ?_
          refine sq_g2 (x := .d (db (decide (t20 ≤ 122)))) rfl rfl rfl (lq rfl) (lq rfl) rfl (fun hb => by obtain ⟨hb, hb1⟩ := and_split hb; obtain rfl := gF hb; obtain rfl : b30 = true := hb1; exact a_leq (lq rfl) rfl rfl) ?_
          refine sq_g (x := .d (db (b30 && (decide (t20 ≤ 122))))) rfl rfl rfl (lq rfl) (lq rfl) rfl (fun hb => by obtain rfl := gF hb; exact a_pick_and (lq rfl) rfl rfl) ?_
          refine sqa (a_pick_or (lq rfl) rfl rfl) ?_
          refine sqa (a_assign_d (lq rfl) rfl) ?_
          refine sq_nil ?_
          refine avc_sq2 ?_
          refine avc_sq ?_
          refine sqa (a_move_d (lq rfl) rfl) ?_
          refine sqa (a_not (lq rfl) rfl) ?_
          obtain ⟨b37, hb37, hsy1'⟩ := bE hsy1; clear hsy1
          refine sqa ((a_move_d (lq rfl) rfl).bool (Option.some.inj hb37)) ?_
          refine sq_g (x := .d (dby t20)) rfl rfl rfl (lq rfl) (lq rfl) rfl (fun hb => by obtain rfl : b37 = true := hb; exact a_move_d (lq rfl) rfl) ?_
          refine sq_g (x := .d (db (decide (48 ≤ t20)))) rfl rfl rfl (lq rfl) (lq rfl) rfl (fun hb => by obtain rfl : b37 = true := hb; exact a_geq (lq rfl) rfl rfl) ?_
          obtain ⟨b40, hb40, hsy1⟩ := bE hsy1'; clear hsy1'
          refine sq_g (x := .d (db b40)) rfl rfl rfl (lq rfl) (lq rfl) rfl (fun hb => by obtain rfl : b37 = true := hb; exact (a_move_d (lq rfl) rfl).bool (Option.some.inj hb40)) ?_
          refine sq_g2 (x := .d (dby t20)) rfl rfl rfl (lq rfl) (lq rfl) rfl (fun hb => by obtain ⟨hb, hb1⟩ := and_split hb; obtain rfl : b37 = true := hb; obtain rfl : b40 = true := hb1; exact a_move_d (lq rfl) rfl) ?_
          refine sq_g2 (x := .d (db (decide (t20 ≤ 57)))) rfl rfl rfl (lq rfl) (lq rfl) rfl (fun hb => by obtain ⟨hb, hb1⟩ := and_split hb; obtain rfl : b37 = true := hb; obtain rfl : b40 = true := hb1; exact a_leq (lq rfl) rfl rfl) ?_
          refine sq_g (x := .d (db (b40 && (decide (t20 ≤ 57))))) rfl rfl rfl (lq rfl) (lq rfl) rfl (fun hb => by obtain rfl : b37 = true := hb; exact a_pick_and (lq rfl) rfl rfl) ?_
          refine sq_g (x := .d (db (!(b40 && (decide (t20 ≤ 57)))))) rfl rfl rfl (lq rfl) (lq rfl) rfl (fun hb => by obtain rfl : b37 = true := hb; exact a_not (lq rfl) rfl) ?_
          refine sqa (a_pick_and (lq rfl) rfl rfl) ?_
          obtain ⟨b46, hb46, hsy1'⟩ := bE hsy1; clear hsy1
          refine sqa ((a_move_d (lq rfl) rfl).bool (Option.some.inj hb46)) ?_
          refine sq_g (x := .d (dby t20)) rfl rfl rfl (lq rfl) (lq rfl) rfl (fun hb => by obtain rfl : b46 = true := hb; exact a_move_d (lq rfl) rfl) ?_
          refine sq_g (x := .d (db (!decide (t20 = 95)))) rfl rfl rfl (lq rfl) (lq rfl) rfl (fun hb => by obtain rfl : b46 = true := hb; exact a_neq (lq rfl) rfl rfl) ?_
          refine sqa (a_pick_and (lq rfl) rfl rfl) ?_
          refine sq_nil ?_
          refine avc_if rfl ⟨fun c3 => ?_, fun c3 => ?_⟩
          · replace hsy1' := cT c3 hsy1'
            refine avc_sq2 ?_
            refine avc_sq ?_
            refine sqa (a_assign_d (lq rfl) rfl) ?_
            refine sq_nil ?_
            refine avc_ret ?_
            cases hsy1'
            intro q; cases q
          · replace hsy1' := cF c3 hsy1'
            refine avc_skip ?_
            refine avc_sq ?_
            refine sqa (m_add (lq rfl) rfl rfl) ?_
            refine sqa (a_move_d (lq rfl) rfl) ?_
            refine sq_nil ?_
            cases hsy1'
            exact weak_cov ⟨rfl, rfl, rfl, trivial⟩ trivial
        · replace hsy1 := cF c2 hsy1
          refine avc_exit ?_
          cases hsy1
          intro q; cases q
          exact out_mk (weak_cov trivial trivial)
      ·
        refine avc_sq2 ?_
        refine avc_sq ?_
        refine sqa (a_assign_d (lq rfl) rfl) ?_
        refine sq_nil ?_
        cases h
        refine avc_ret ?_
        exact ret_1 rfl
    ·
      replace h := eR h
      refine avc_tail (e := .ret) (S2 := ⟨[(2, .d (db y1))], []⟩) ?_ ?_
      ·
        refine avc_loopM (fun x => ⟨[(0, .d (ds a0)), (14, .d (di (a0.length : Int))), (15, .d (di x))], []⟩) hy1 (weak_cov ⟨rfl, rfl, rfl, trivial⟩ trivial) ?_
        rintro v15 sy1 hsy1
        replace hsy1 : property_isName_L0 a0 v15 = some sy1 := hsy1
        unfold property_isName_L0 at hsy1
        refine avc_sq2 ?_
        refine avc_sq ?_
        refine sqa (a_lss (lq rfl) rfl rfl) ?_
        refine sq_nil ?_
        refine avc_sq2 ?_
        refine avc_if rfl ⟨fun c2 => ?_, fun c2 => ?_⟩
        · replace hsy1 := cT c2 hsy1
          refine avc_skip ?_
          refine avc_sq2 ?_
          refine avc_block ?_
          refine avc_sq2 ?_
          refine avc_sq ?_
          refine sqa (a_move_d (lq rfl) rfl) ?_
          refine sqa (a_assign_d (lq rfl) rfl) ?_
          refine sq_nil ?_
          refine avc_sq2 ?_
          refine avc_sq ?_
          refine sqa (a_move_d (lq rfl) rfl) ?_
          refine sqa (a_move_d (lq rfl) rfl) ?_
          obtain ⟨t20, ht20, hsy1'⟩ := bE hsy1; clear hsy1
          refine sqa (m_sindex (s := a0) (lq rfl) Try.underlying9 rfl rfl ht20) ?_
          refine sqa (a_assign_d (lq rfl) rfl) ?_
          refine sq_nil ?_
          refine avc_sq2 ?_
          refine avc_sq ?_
          refine sqa (a_move_d (lq rfl) rfl) ?_
          refine sqa (a_geq (lq rfl) rfl rfl) ?_
          obtain ⟨b23, hb23, hsy1⟩ := bE hsy1'; clear hsy1'
          refine sqa ((a_move_d (lq rfl) rfl).bool (Option.some.inj hb23)) ?_
          refine sq_g (x := .d (dby t20)) rfl rfl rfl (lq rfl) (lq rfl) rfl (fun hb => by obtain rfl : b23 = true := hb; exact a_move_d (lq rfl) rfl) ?_
          refine sq_g (x := .d (db (decide (t20 ≤ 90)))) rfl rfl rfl (lq rfl) (lq rfl) rfl (fun hb => by obtain rfl : b23 = true := hb; exact a_leq (lq rfl) rfl rfl) ?_
          refine sqa (a_pick_and (lq rfl) rfl rfl) ?_
          obtain ⟨b27, hb27, hsy1'⟩ := bE hsy1; clear hsy1
          refine sqa ((a_move_d (lq rfl) rfl).bool (Option.some.inj hb27)) ?_
          refine sq_g (x := .d (dby t20)) rfl rfl rfl (lq rfl) (lq rfl) rfl (fun hb => by obtain rfl := gF hb; exact a_move_d (lq rfl) rfl) ?_
          refine sq_g (x := .d (db (decide (97 ≤ t20)))) rfl rfl rfl (lq rfl) (lq rfl) rfl (fun hb => by obtain rfl := gF hb; exact a_geq (lq rfl) rfl rfl) ?_
          obtain ⟨b30, hb30, hsy1⟩ := bE hsy1'; clear hsy1'
          refine sq_g (x := .d (db b30)) rfl rfl rfl (lq rfl) (lq rfl) rfl (fun hb => by obtain rfl := gF hb; exact (a_move_d (lq rfl) rfl).bool (Option.some.inj hb30)) ?_
          refine sq_g2 (x := .d (dby t20)) rfl rfl rfl (lq rfl) (lq rfl) rfl (fun hb => by obtain ⟨hb, hb1⟩ := and_split hb; obtain rfl := gF hb; obtain rfl : b30 = true := hb1; exact a_move_d (lq rfl) rfl) ?_
          refine sq_g2 (x := .d (db (decide (t20 ≤ 122)))) rfl rfl rfl (lq rfl) (lq rfl) rfl (fun hb => by obtain ⟨hb, hb1⟩ := and_split hb; obtain rfl := gF hb; obtain rfl : b30 = true := hb1; exact a_leq (lq rfl) rfl rfl) ?_
          refine sq_g (x := .d (db (b30 && (decide (t20 ≤ 122))))) rfl rfl rfl (lq rfl) (lq rfl) rfl (fun hb => by obtain rfl := gF hb; exact a_pick_and (lq rfl) rfl rfl) ?_
          refine sqa (a_pick_or (lq rfl) rfl rfl) ?_
          refine sqa (a_assign_d (lq rfl) rfl) ?_
          refine sq_nil ?_
          refine avc_sq2 ?_
          refine avc_sq ?_
          refine sqa (a_move_d (lq rfl) rfl) ?_
          refine sqa (a_not (lq rfl) rfl) ?_
          obtain ⟨b37, hb37, hsy1'⟩ := bE hsy1; clear hsy1
          refine sqa ((a_move_d (lq rfl) rfl).bool (Option.some.inj hb37)) ?_
          refine sq_g (x := .d (dby t20)) rfl rfl rfl (lq rfl) (lq rfl) rfl (fun hb => by obtain rfl : b37 = true := hb; exact a_move_d (lq rfl) rfl) ?_
          refine sq_g (x := .d (db (decide (48 ≤ t20)))) rfl rfl rfl (lq rfl) (lq rfl) rfl (fun hb => by obtain rfl : b37 = true := hb; exact a_geq (lq rfl) rfl rfl) ?_
          obtain ⟨b40, hb40, hsy1⟩ := bE hsy1'; clear hsy1'
          refine sq_g (x := .d (db b40)) rfl rfl rfl (lq rfl) (lq rfl) rfl (fun hb => by obtain rfl : b37 = true := hb; exact (a_move_d (lq rfl) rfl).bool (Option.some.inj hb40)) ?_
          refine sq_g2 (x := .d (dby t20)) rfl rfl rfl (lq rfl) (lq rfl) rfl (fun hb => by obtain ⟨hb, hb1⟩ := and_split hb; obtain rfl : b37 = true := hb; obtain rfl : b40 = true := hb1; exact a_move_d (lq rfl) rfl) ?_
          refine sq_g2 (x := .d (db (decide (t20 ≤ 57)))) rfl rfl rfl (lq rfl) (lq rfl) rfl (fun hb => by obtain ⟨hb, hb1⟩ := and_split hb; obtain rfl : b37 = true := hb; obtain rfl : b40 = true := hb1; exact a_leq (lq rfl) rfl rfl) ?_
          refine sq_g (x := .d (db (b40 && (decide (t20 ≤ 57))))) rfl rfl rfl (lq rfl) (lq rfl) rfl (fun hb => by obtain rfl : b37 = true := hb; exact a_pick_and (lq rfl) rfl rfl) ?_
          refine sq_g (x := .d (db (!(b40 && (decide (t20 ≤ 57)))))) rfl rfl rfl (lq rfl) (lq rfl) rfl (fun hb => by obtain rfl : b37 = true := hb; exact a_not (lq rfl) rfl) ?_
          refine sqa (a_pick_and (lq rfl) rfl rfl) ?_
          obtain ⟨b46, hb46, hsy1'⟩ := bE hsy1; clear hsy1
          refine sqa ((a_move_d (lq rfl) rfl).bool (Option.some.inj hb46)) ?_
          refine sq_g (x := .d (dby t20)) rfl rfl rfl (lq rfl) (lq rfl) rfl (fun hb => by obtain rfl : b46 = true := hb; exact a_move_d (lq rfl) rfl) ?_
          refine sq_g (x := .d (db (!decide (t20 = 95)))) rfl rfl rfl (lq rfl) (lq rfl) rfl (fun hb => by obtain rfl : b46 = true := hb; exact a_neq (lq rfl) rfl rfl) ?_
          refine sqa (a_pick_and (lq rfl) rfl rfl) ?_
          refine sq_nil ?_
          refine avc_if rfl ⟨fun c3 => ?_, fun c3 => ?_⟩
          · replace hsy1' := cT c3 hsy1'
            refine avc_sq2 ?_
            refine avc_sq ?_
            refine sqa (a_assign_d (lq rfl) rfl) ?_
            refine sq_nil ?_
            refine avc_ret ?_
            cases hsy1'
            intro q; cases q
            exact out_mk (weak_cov ⟨rfl, trivial⟩ trivial)
          · replace hsy1' := cF c3 hsy1'
            refine avc_skip ?_
            refine avc_sq ?_
            refine sqa (m_add (lq rfl) rfl rfl) ?_
            refine sqa (a_move_d (lq rfl) rfl) ?_
            refine sq_nil ?_
            cases hsy1'
            exact weak_cov ⟨rfl, rfl, rfl, trivial⟩ trivial
        · replace hsy1 := cF c2 hsy1
          refine avc_exit ?_
          cases hsy1
          intro q; cases q
      ·
        cases h
        exact ret_1 rfl

theorem property_index_g  {a0 : (List Str)}  {r : Bool} (h : property_index a0 = some r) : GC Try.prog 73 [.d (dsl eS a0)] [] [] [.top, .d (db r)] [] := by
  refine gc_of Try.func73 (by kernel_rfl) rfl (lq rfl) (lq rfl) fun w0 I0 p0 => ?_
  unfold property_index at h
  refine avc_sq2 ?_
  refine avc_sq ?_
  refine sqa (a_assign_d (lq rfl) rfl) ?_
  refine sqa (a_assign_d (lq rfl) rfl) ?_
  refine sq_nil ?_
  refine avc_sq2 ?_
  refine avc_sq2 ?_
  refine avc_sq ?_
  refine sqa (a_move_d (lq rfl) rfl) ?_
  refine sqa (m_len (en := eS) (l := a0) (lq rfl) S22 rfl) ?_
  refine sqa (a_eql (lq rfl) rfl rfl) ?_
  obtain ⟨b12, hb12, h'⟩ := bE h; clear h
  refine sqa ((a_move_d (lq rfl) rfl).bool (Option.some.inj hb12)) ?_
  refine sq_g (x := .d (dsl eS a0)) rfl rfl rfl (lq rfl) (lq rfl) rfl (fun hb => by obtain rfl := gF hb; exact a_move_d (lq rfl) rfl) ?_
  refine sq_g (x := .d (di (a0.length : Int))) rfl rfl rfl (lq rfl) (lq rfl) rfl (fun hb => by obtain rfl := gF hb; exact m_len (en := eS) (l := a0) (lq rfl) S22 rfl) ?_
  refine sq_g (x := .d (db (decide (250 < (a0.length : Int))))) rfl rfl rfl (lq rfl) (lq rfl) rfl (fun hb => by obtain rfl := gF hb; exact a_gtr (lq rfl) rfl rfl) ?_
  refine sqa (a_pick_or (lq rfl) rfl rfl) ?_
  refine sq_nil ?_
  refine avc_if rfl ⟨fun c1 => ?_, fun c1 => ?_⟩
  · replace h' := cT c1 h'
    refine avc_sq2 ?_
    refine avc_sq ?_
    refine sqa (a_assign_d (lq rfl) rfl) ?_
    refine sqa (a_assign_d (lq rfl) rfl) ?_
    refine sq_nil ?_
    cases h'
    refine avc_ret ?_
    exact ⟨⟨_, _, rfl, trivial, ⟨_, _, rfl, rfl, rfl⟩⟩, trivial⟩
  · replace h' := cF c1 h'
    refine avc_skip ?_
    refine avc_sq2 ?_
    refine avc_sq ?_
    refine sq_b rfl (m_makeMap (lq rfl) rfl) ?_
    refine sqa (a_assign_row (lq rfl) rfl) ?_
    refine sq_nil ?_
    refine avc_sq2 ?_
    refine avc_sq2 ?_
    refine avc_sq ?_
    refine sqa (a_move_d (lq rfl) rfl) ?_
    refine sqa (m_len (en := eS) (l := a0) (lq rfl) S22 rfl) ?_
    refine sqa (a_move_d (lq rfl) rfl) ?_
    refine sq_nil ?_
    refine avc_block ?_
    obtain ⟨y1, hy1, h⟩ := bE h'; clear h'
    rcases y1 with y1 | y1
    ·
      replace h := eL h
      refine avc_tail (e := .exit 0) (S2 := ⟨[(4, .row 17)], [(17, .map (mapE kS eI y1))]⟩) ?_ ?_
      ·
        refine avc_loopM (fun x => ⟨[(4, .row 17), (18, .d (dsl eS a0)), (19, .d (di (a0.length : Int))), (20, .d (di x.1))], [(17, .map (mapE kS eI x.2))]⟩) hy1 (weak_cov ⟨rfl, rfl, rfl, rfl, trivial⟩ ⟨rfl, trivial⟩) ?_
        rintro ⟨v20, r17⟩ sy1 hsy1
        replace hsy1 : property_index_L0 a0 v20 r17 = some sy1 := hsy1
        unfold property_index_L0 at hsy1
        refine avc_sq2 ?_
        refine avc_sq ?_
        refine sqa (a_lss (lq rfl) rfl rfl) ?_
        refine sq_nil ?_
        refine avc_sq2 ?_
        refine avc_if rfl ⟨fun c2 => ?_, fun c2 => ?_⟩
        · replace hsy1 := cT c2 hsy1
          refine avc_skip ?_
          refine avc_sq2 ?_
          refine avc_block ?_
          refine avc_sq2 ?_
          refine avc_sq ?_
          refine sqa (a_move_d (lq rfl) rfl) ?_
          obtain ⟨t23, ht23, hsy1'⟩ := bE hsy1; clear hsy1
          refine sqa (m_index (en := eS) (lq rfl) S22 rfl rfl ht23) ?_
          refine sqa (m_loadE (en := eS) (l := a0) (i := v20) (v := t23) (off := 0) (lq rfl) O9 rfl ht23 rfl) ?_
          refine sqa (a_assign_d (lq rfl) rfl) ?_
          refine sqa (a_assign_d (lq rfl) rfl) ?_
          refine sq_nil ?_
          refine avc_sq2 ?_
          refine avc_sq2 ?_
          refine avc_sq ?_
          refine sqa (a_move_row (lq rfl) rfl) ?_
          refine sqa (a_move_d (lq rfl) rfl) ?_
          refine sqa (m_lookup2 (kv := kS) (ev := eI) (mp := r17) (k := t23) (zero := 0) (lq rfl) M88 K9 rfl rfl rfl (fun _ _ => .v _)) ?_
          refine sqa (a_move_tup (lq rfl) rfl) ?_
          refine sqa (a_extract (lq rfl) rfl rfl) ?_
          refine sqa (a_extract (lq rfl) rfl rfl) ?_
          refine sqa (a_assign_d (lq rfl) rfl) ?_
          refine sqa (a_assign_d (lq rfl) rfl) ?_
          refine sq_nil ?_
          refine avc_sq2 ?_
          refine avc_sq ?_
          refine sqa (a_move_d (lq rfl) rfl) ?_
          obtain ⟨b32, hb32, hsy1⟩ := bE hsy1'; clear hsy1'
          refine sqa ((a_move_d (lq rfl) rfl).bool (Option.some.inj hb32)) ?_
          refine sq_g (x := .d (ds t23)) rfl rfl rfl (lq rfl) (lq rfl) rfl (fun hb => by obtain rfl := gF hb; exact a_move_d (lq rfl) rfl) ?_
          obtain ⟨t34, ht34, hsy1'⟩ := bE hsy1; clear hsy1
          refine sq_g (x := .d (db t34)) rfl rfl rfl (lq rfl) (lq rfl) rfl (fun hb => by obtain rfl := gF hb; exact a_call (lq rfl) rfl (property_isName_c ht34)) ?_
          refine sq_g (x := .d (db (!t34))) rfl rfl rfl (lq rfl) (lq rfl) rfl (fun hb => by obtain rfl := gF hb; exact a_not (lq rfl) rfl) ?_
          refine sqa (a_pick_or (lq rfl) rfl rfl) ?_
          refine sq_nil ?_
          refine avc_if rfl ⟨fun c3 => ?_, fun c3 => ?_⟩
          · replace hsy1' := cT c3 hsy1'
            refine avc_sq2 ?_
            refine avc_sq ?_
            refine sqa (a_assign_d (lq rfl) rfl) ?_
            refine sqa (a_assign_d (lq rfl) rfl) ?_
            refine sq_nil ?_
            refine avc_ret ?_
            cases hsy1'
            intro q; cases q
          · replace hsy1' := cF c3 hsy1'
            refine avc_skip ?_
            refine avc_sq ?_
            refine sqa (a_move_row (lq rfl) rfl) ?_
            refine sqa (a_move_d (lq rfl) rfl) ?_
            refine sqa (a_move_d (lq rfl) rfl) ?_
            refine sq_b rfl (m_mapUpdate (kv := kS) (ev := eI) (mp := r17) (k := t23) (v := v20) M88 K9 rfl rfl rfl rfl rfl rfl) ?_
            refine sq_nil ?_
            refine avc_sq ?_
            refine sqa (m_add (lq rfl) rfl rfl) ?_
            refine sqa (a_move_d (lq rfl) rfl) ?_
            refine sq_nil ?_
            cases hsy1'
            exact weak_cov ⟨rfl, rfl, rfl, rfl, trivial⟩ ⟨rfl, trivial⟩
        · replace hsy1 := cF c2 hsy1
          refine avc_exit ?_
          cases hsy1
          intro q; cases q
          exact out_mk (weak_cov ⟨rfl, trivial⟩ ⟨rfl, trivial⟩)
      ·
        refine avc_sq2 ?_
        refine avc_sq ?_
        refine sqa (a_move_row (lq rfl) rfl) ?_
        refine sqa (a_assign_row (lq rfl) rfl) ?_
        refine sqa (a_assign_d (lq rfl) rfl) ?_
        refine sq_nil ?_
        cases h
        refine avc_ret ?_
        exact ⟨⟨_, _, rfl, trivial, ⟨_, _, rfl, rfl, rfl⟩⟩, trivial⟩
    ·
      replace h := eR h
      refine avc_tail (e := .ret) (S2 := ⟨[(2, .d (.v (.map none))), (3, .d (db y1))], []⟩) ?_ ?_
      ·
        refine avc_loopM (fun x => ⟨[(4, .row 17), (18, .d (dsl eS a0)), (19, .d (di (a0.length : Int))), (20, .d (di x.1))], [(17, .map (mapE kS eI x.2))]⟩) hy1 (weak_cov ⟨rfl, rfl, rfl, rfl, trivial⟩ ⟨rfl, trivial⟩) ?_
        rintro ⟨v20, r17⟩ sy1 hsy1
        replace hsy1 : property_index_L0 a0 v20 r17 = some sy1 := hsy1
        unfold property_index_L0 at hsy1
        refine avc_sq2 ?_
        refine avc_sq ?_
        refine sqa (a_lss (lq rfl) rfl rfl) ?_
        refine sq_nil ?_
        refine avc_sq2 ?_
        refine avc_if rfl ⟨fun c2 => ?_, fun c2 => ?_⟩
        · replace hsy1 := cT c2 hsy1
          refine avc_skip ?_
          refine avc_sq2 ?_
          refine avc_block ?_
          refine avc_sq2 ?_
          refine avc_sq ?_
          refine sqa (a_move_d (lq rfl) rfl) ?_
          obtain ⟨t23, ht23, hsy1'⟩ := bE hsy1; clear hsy1
          refine sqa (m_index (en := eS) (lq rfl) S22 rfl rfl ht23) ?_
          refine sqa (m_loadE (en := eS) (l := a0) (i := v20) (v := t23) (off := 0) (lq rfl) O9 rfl ht23 rfl) ?_
          refine sqa (a_assign_d (lq rfl) rfl) ?_
          refine sqa (a_assign_d (lq rfl) rfl) ?_
          refine sq_nil ?_
          refine avc_sq2 ?_
          refine avc_sq2 ?_
          refine avc_sq ?_
          refine sqa (a_move_row (lq rfl) rfl) ?_
          refine sqa (a_move_d (lq rfl) rfl) ?_
          refine sqa (m_lookup2 (kv := kS) (ev := eI) (mp := r17) (k := t23) (zero := 0) (lq rfl) M88 K9 rfl rfl rfl (fun _ _ => .v _)) ?_
          refine sqa (a_move_tup (lq rfl) rfl) ?_
          refine sqa (a_extract (lq rfl) rfl rfl) ?_
          refine sqa (a_extract (lq rfl) rfl rfl) ?_
          refine sqa (a_assign_d (lq rfl) rfl) ?_
          refine sqa (a_assign_d (lq rfl) rfl) ?_
          refine sq_nil ?_
          refine avc_sq2 ?_
          refine avc_sq ?_
          refine sqa (a_move_d (lq rfl) rfl) ?_
          obtain ⟨b32, hb32, hsy1⟩ := bE hsy1'; clear hsy1'
          refine sqa ((a_move_d (lq rfl) rfl).bool (Option.some.inj hb32)) ?_
          refine sq_g (x := .d (ds t23)) rfl rfl rfl (lq rfl) (lq rfl) rfl (fun hb => by obtain rfl := gF hb; exact a_move_d (lq rfl) rfl) ?_
          obtain ⟨t34, ht34, hsy1'⟩ := bE hsy1; clear hsy1
          refine sq_g (x := .d (db t34)) rfl rfl rfl (lq rfl) (lq rfl) rfl (fun hb => by obtain rfl := gF hb; exact a_call (lq rfl) rfl (property_isName_c ht34)) ?_
          refine sq_g (x := .d (db (!t34))) rfl rfl rfl (lq rfl) (lq rfl) rfl (fun hb => by obtain rfl := gF hb; exact a_not (lq rfl) rfl) ?_
          refine sqa (a_pick_or (lq rfl) rfl rfl) ?_
          refine sq_nil ?_
          refine avc_if rfl ⟨fun c3 => ?_, fun c3 => ?_⟩
          · replace hsy1' := cT c3 hsy1'
            refine avc_sq2 ?_
            refine avc_sq ?_
            refine sqa (a_assign_d (lq rfl) rfl) ?_
            refine sqa (a_assign_d (lq rfl) rfl) ?_
            refine sq_nil ?_
            refine avc_ret ?_
            cases hsy1'
            intro q; cases q
            exact out_mk (weak_cov ⟨rfl, rfl, trivial⟩ trivial)
          · replace hsy1' := cF c3 hsy1'
            refine avc_skip ?_
            refine avc_sq ?_
            refine sqa (a_move_row (lq rfl) rfl) ?_
            refine sqa (a_move_d (lq rfl) rfl) ?_
            refine sqa (a_move_d (lq rfl) rfl) ?_
            refine sq_b rfl (m_mapUpdate (kv := kS) (ev := eI) (mp := r17) (k := t23) (v := v20) M88 K9 rfl rfl rfl rfl rfl rfl) ?_
            refine sq_nil ?_
            refine avc_sq ?_
            refine sqa (m_add (lq rfl) rfl rfl) ?_
            refine sqa (a_move_d (lq rfl) rfl) ?_
            refine sq_nil ?_
            cases hsy1'
            exact weak_cov ⟨rfl, rfl, rfl, rfl, trivial⟩ ⟨rfl, trivial⟩
        · replace hsy1 := cF c2 hsy1
          refine avc_exit ?_
          cases hsy1
          intro q; cases q
      ·
        cases h
        exact ⟨⟨_, _, rfl, trivial, ⟨_, _, rfl, rfl, rfl⟩⟩, trivial⟩

theorem codepoint_Valid_c  {a0 : Int}  {r : Bool} (h : codepoint_Valid a0 = some r) : Contract Try.prog 77 [(di a0)] [(db r)] := by
  refine contract_of Try.func77 (by kernel_rfl) rfl (lq rfl) (lq rfl) fun w0 I0 => ?_
  unfold codepoint_Valid at h
  refine avc_sq2 ?_
  refine avc_sq ?_
  refine sqa (a_assign_d (lq rfl) rfl) ?_
  refine sq_nil ?_
  refine avc_sq2 ?_
  refine avc_sq ?_
  refine sqa (a_move_d (lq rfl) rfl) ?_
  refine sqa (a_geq (lq rfl) rfl rfl) ?_
  obtain ⟨b5, hb5, h'⟩ := bE h; clear h
  refine sqa ((a_move_d (lq rfl) rfl).bool (Option.some.inj hb5)) ?_
  refine sq_g (x := .d (di a0)) rfl rfl rfl (lq rfl) (lq rfl) rfl (fun hb => by obtain rfl : b5 = true := hb; exact a_move_d (lq rfl) rfl) ?_
  refine sq_g (x := .d (db (decide (a0 ≤ 1114111)))) rfl rfl rfl (lq rfl) (lq rfl) rfl (fun hb => by obtain rfl : b5 = true := hb; exact a_leq (lq rfl) rfl rfl) ?_
  refine sqa (a_pick_and (lq rfl) rfl rfl) ?_
  refine sqa (a_assign_d (lq rfl) rfl) ?_
  refine sq_nil ?_
  cases h'
  refine avc_ret ?_
  exact ret_1 rfl

theorem property_inside_c  {a0 : Span}  {r : Bool} (h : property_inside a0 = some r) : Contract Try.prog 74 [(eSpan.dv a0)] [(db r)] := by
  refine contract_of Try.func74 (by kernel_rfl) rfl (lq rfl) (lq rfl) fun w0 I0 => ?_
  unfold property_inside at h
  refine avc_sq2 ?_
  refine avc_sq ?_
  refine sqa (m_box (size := 3) (lq rfl) rfl rfl) ?_
  refine sqa (a_assign_d (lq rfl) rfl) ?_
  refine sq_nil ?_
  refine avc_sq2 ?_
  refine avc_sq ?_
  refine sqa (m_fieldPt (lq rfl) L45_0 rfl) ?_
  refine sqa (a_load_ip (lq rfl) O3 rfl rfl) ?_
  obtain ⟨t5, ht5, h'⟩ := bE h; clear h
  refine sqa (a_call (lq rfl) rfl (codepoint_Valid_c ht5)) ?_
  obtain ⟨b6, hb6, h⟩ := bE h'; clear h'
  refine sqa ((a_move_d (lq rfl) rfl).bool (Option.some.inj hb6)) ?_
  refine sq_g (x := .ip (eSpan.cells a0) (0 + 1)) rfl rfl rfl (lq rfl) (lq rfl) rfl (fun hb => by obtain rfl : b6 = true := hb; exact m_fieldPt (lq rfl) L45_1 rfl) ?_
  refine sq_g (x := .d (di a0.Hi)) rfl rfl rfl (lq rfl) (lq rfl) rfl (fun hb => by obtain rfl : b6 = true := hb; exact a_load_ip (lq rfl) O3 rfl rfl) ?_
  obtain ⟨t9, ht9, h'⟩ := bE h; clear h
  refine sq_g (x := .d (db t9)) rfl rfl rfl (lq rfl) (lq rfl) rfl (fun hb => by obtain rfl : b6 = true := hb; exact a_call (lq rfl) rfl (codepoint_Valid_c ht9)) ?_
  refine sqa (a_pick_and (lq rfl) rfl rfl) ?_
  obtain ⟨b11, hb11, h⟩ := bE h'; clear h'
  refine sqa ((a_move_d (lq rfl) rfl).bool (Option.some.inj hb11)) ?_
  refine sq_g (x := .ip (eSpan.cells a0) (0 + 0)) rfl rfl rfl (lq rfl) (lq rfl) rfl (fun hb => by obtain rfl : b11 = true := hb; exact m_fieldPt (lq rfl) L45_0 rfl) ?_
  refine sq_g (x := .d (di a0.Lo)) rfl rfl rfl (lq rfl) (lq rfl) rfl (fun hb => by obtain rfl : b11 = true := hb; exact a_load_ip (lq rfl) O3 rfl rfl) ?_
  refine sq_g (x := .ip (eSpan.cells a0) (0 + 1)) rfl rfl rfl (lq rfl) (lq rfl) rfl (fun hb => by obtain rfl : b11 = true := hb; exact m_fieldPt (lq rfl) L45_1 rfl) ?_
  refine sq_g (x := .d (di a0.Hi)) rfl rfl rfl (lq rfl) (lq rfl) rfl (fun hb => by obtain rfl : b11 = true := hb; exact a_load_ip (lq rfl) O3 rfl rfl) ?_
  refine sq_g (x := .d (db (decide (a0.Lo ≤ a0.Hi)))) rfl rfl rfl (lq rfl) (lq rfl) rfl (fun hb => by obtain rfl : b11 = true := hb; exact a_leq (lq rfl) rfl rfl) ?_
  refine sqa (a_pick_and (lq rfl) rfl rfl) ?_
  refine sqa (a_assign_d (lq rfl) rfl) ?_
  refine sq_nil ?_
  cases h
  refine avc_ret ?_
  exact ret_1 rfl

theorem property_Valid_c  {a0 : Property}  {r : Bool} (h : property_Valid a0 = some r) : Contract Try.prog 63 [(eProperty.dv a0)] [(db r)] := by
  refine contract_of Try.func63 (by kernel_rfl) rfl (lq rfl) (lq rfl) fun w0 I0 => ?_
  unfold property_Valid at h
  refine avc_sq2 ?_
  refine avc_sq ?_
  refine sqa (m_box (size := 2) (lq rfl) rfl rfl) ?_
  refine sqa (a_assign_d (lq rfl) rfl) ?_
  refine sq_nil ?_
  refine avc_sq2 ?_
  refine avc_sq2 ?_
  refine avc_sq ?_
  refine sqa (m_fieldPt (lq rfl) L25_0 rfl) ?_
  refine sqa (a_load_ip (lq rfl) O22 rfl rfl) ?_
  obtain ⟨t11, ht11, h'⟩ := bE h; clear h
  refine sq_b rfl (g_call [] (property_index_g ht11) (lq rfl) (by decide) ⟨rfl, trivial⟩ rfl rfl trivial rfl rfl rfl (fun _ => rfl) rfl) ?_
  refine sqa (a_move_tupc (lq rfl) rfl) ?_
  refine sqa (a_extractC (lq rfl) rfl rfl) ?_
  refine sqa (a_extractC (lq rfl) rfl rfl) ?_
  refine sqa (a_assign_top (lq rfl)) ?_
  refine sqa (a_assign_d (lq rfl) rfl) ?_
  refine sq_nil ?_
  refine avc_sq2 ?_
  refine avc_sq ?_
  refine sqa (a_move_d (lq rfl) rfl) ?_
  refine sqa (a_not (lq rfl) rfl) ?_
  refine sq_nil ?_
  refine avc_if rfl ⟨fun c1 => ?_, fun c1 => ?_⟩
  · replace h' := cT c1 h'
    refine avc_sq2 ?_
    refine avc_sq ?_
    refine sqa (a_assign_d (lq rfl) rfl) ?_
    refine sq_nil ?_
    cases h'
    refine avc_ret ?_
    exact ret_1 rfl
  · replace h' := cF c1 h'
    refine avc_skip ?_
    refine avc_sq2 ?_
    refine avc_sq2 ?_
    refine avc_sq ?_
    refine sqa (m_fieldPt (lq rfl) L25_1 rfl) ?_
    refine sqa (a_load_ip (lq rfl) O23 rfl rfl) ?_
    refine sqa (m_len (en := eSpan) (l := a0.Spans) (lq rfl) S23 rfl) ?_
    refine sqa (a_move_d (lq rfl) rfl) ?_
    refine sq_nil ?_
    refine avc_block ?_
    obtain ⟨y1, hy1, h⟩ := bE h'; clear h'
    rcases y1 with y1 | y1
    ·
      replace h := eL h
      refine avc_tail (e := .exit 0) (S2 := ⟨[], []⟩) ?_ ?_
      ·
        refine avc_loopM (fun x => ⟨[(1, .d (.pt (eProperty.cells a0))), (17, .d (dsl eSpan a0.Spans)), (18, .d (di (a0.Spans.length : Int))), (19, .d (di x))], []⟩) hy1 (weak_cov ⟨rfl, rfl, rfl, rfl, trivial⟩ trivial) ?_
        rintro v19 sy1 hsy1
        replace hsy1 : property_Valid_L0 a0 v19 = some sy1 := hsy1
        unfold property_Valid_L0 at hsy1
        refine avc_sq2 ?_
        refine avc_sq ?_
        refine sqa (a_lss (lq rfl) rfl rfl) ?_
        refine sq_nil ?_
        refine avc_sq2 ?_
        refine avc_if rfl ⟨fun c2 => ?_, fun c2 => ?_⟩
        · replace hsy1 := cT c2 hsy1
          refine avc_skip ?_
          refine avc_sq2 ?_
          obtain ⟨y2, hy2, hsy1'⟩ := bE hsy1; clear hsy1
          rcases y2 with y2 | y2
          ·
            replace hsy1' := eL hsy1'
            refine avc_tail (e := .normal) (S2 := ⟨[(1, .d (.pt (eProperty.cells a0))), (17, .d (dsl eSpan a0.Spans)), (18, .d (di (a0.Spans.length : Int))), (19, .d (di v19))], []⟩) ?_ ?_
            ·
              refine avc_block ?_
              refine avc_sq2 ?_
              refine avc_sq ?_
              refine sqa (a_move_d (lq rfl) rfl) ?_
              obtain ⟨t22, ht22, hy2'⟩ := bE hy2; clear hy2
              refine sqa (m_index (en := eSpan) (lq rfl) S23 rfl rfl ht22) ?_
              refine sqa (m_loadEA (en := eSpan) (l := a0.Spans) (i := v19) (v := t22) (off := 0) (lq rfl) G45 rfl ht22 rfl rfl (by decide)) ?_
              refine sq_b rfl (step_alloc (zs := [(.int IntKind.i64 (0)), (.int IntKind.i64 (0)), (.int IntKind.i64 (0))]) (lq rfl) (by kernel_rfl) rfl rfl) ?_
              refine sqa (a_assign_d (lq rfl) rfl) ?_
              refine sq_b rfl (s_store_boxA G45 rfl rfl rfl rfl rfl rfl) ?_
              refine sq_nil ?_
              refine avc_weak (weak_freeze (t := 6) (lq rfl) rfl rfl rfl) ?_
              refine avc_sq2 ?_
              refine avc_sq2 ?_
              refine avc_sq ?_
              refine sqa (m_loadPt (lq rfl) G45 rfl rfl) ?_
              obtain ⟨t25, ht25, hy2⟩ := bE hy2'; clear hy2'
              refine sqa (a_call (lq rfl) rfl (property_inside_c ht25)) ?_
              refine sqa (a_not (lq rfl) rfl) ?_
              obtain ⟨b27, hb27, hy2'⟩ := bE hy2; clear hy2
              refine sqa ((a_move_d (lq rfl) rfl).bool (Option.some.inj hb27)) ?_
              refine sq_g (x := .ip (eSpan.cells t22) (0 + 2)) rfl rfl rfl (lq rfl) (lq rfl) rfl (fun hb => by obtain rfl := gF hb; exact m_fieldPt (lq rfl) L45_2 rfl) ?_
              refine sq_g (x := .d (di t22.Value)) rfl rfl rfl (lq rfl) (lq rfl) rfl (fun hb => by obtain rfl := gF hb; exact a_load_ip (lq rfl) O3 rfl rfl) ?_
              refine sq_g (x := .d (db (decide (t22.Value < 1)))) rfl rfl rfl (lq rfl) (lq rfl) rfl (fun hb => by obtain rfl := gF hb; exact a_lss (lq rfl) rfl rfl) ?_
              refine sqa (a_pick_or (lq rfl) rfl rfl) ?_
              obtain ⟨b32, hb32, hy2⟩ := bE hy2'; clear hy2'
              refine sqa ((a_move_d (lq rfl) rfl).bool (Option.some.inj hb32)) ?_
              refine sq_g (x := .ip (eSpan.cells t22) (0 + 2)) rfl rfl rfl (lq rfl) (lq rfl) rfl (fun hb => by obtain rfl := gF hb; exact m_fieldPt (lq rfl) L45_2 rfl) ?_
              refine sq_g (x := .d (di t22.Value)) rfl rfl rfl (lq rfl) (lq rfl) rfl (fun hb => by obtain rfl := gF hb; exact a_load_ip (lq rfl) O3 rfl rfl) ?_
              refine sq_g (x := .ip (eProperty.cells a0) (0 + 0)) rfl rfl rfl (lq rfl) (lq rfl) rfl (fun hb => by obtain rfl := gF hb; exact m_fieldPt (lq rfl) L25_0 rfl) ?_
              refine sq_g (x := .d (dsl eS a0.Names)) rfl rfl rfl (lq rfl) (lq rfl) rfl (fun hb => by obtain rfl := gF hb; exact a_load_ip (lq rfl) O22 rfl rfl) ?_
              refine sq_g (x := .d (di (a0.Names.length : Int))) rfl rfl rfl (lq rfl) (lq rfl) rfl (fun hb => by obtain rfl := gF hb; exact m_len (en := eS) (l := a0.Names) (lq rfl) S22 rfl) ?_
              refine sq_g (x := .d (db (decide ((a0.Names.length : Int) ≤ t22.Value)))) rfl rfl rfl (lq rfl) (lq rfl) rfl (fun hb => by obtain rfl := gF hb; exact a_geq (lq rfl) rfl rfl) ?_
              refine sqa (a_pick_or (lq rfl) rfl rfl) ?_
              refine sq_nil ?_
              refine avc_if rfl ⟨fun c3 => ?_, fun c3 => ?_⟩
              · replace hy2 := cT c3 hy2
                refine avc_sq2 ?_
                refine avc_sq ?_
                refine sqa (a_assign_d (lq rfl) rfl) ?_
                refine sq_nil ?_
                refine avc_ret ?_
                cases hy2
              · replace hy2 := cF c3 hy2
                refine avc_skip ?_
                refine avc_sq2 ?_
                refine avc_sq2 ?_
                refine avc_sq ?_
                refine sqa (a_move_d (lq rfl) rfl) ?_
                refine sqa (a_eql (lq rfl) rfl rfl) ?_
                refine sq_nil ?_
                refine avc_if rfl ⟨fun c4 => ?_, fun c4 => ?_⟩
                · replace hy2 := cT c4 hy2
                  refine avc_exit ?_
                  cases hy2
                  exact out_mk (weak_cov ⟨rfl, rfl, rfl, rfl, trivial⟩ trivial)
                · replace hy2 := cF c4 hy2
                  refine avc_skip ?_
                  refine avc_sq2 ?_
                  refine avc_sq ?_
                  refine sqa (m_fieldPt (lq rfl) L25_1 rfl) ?_
                  refine sqa (a_load_ip (lq rfl) O23 rfl rfl) ?_
                  refine sqa (a_move_d (lq rfl) rfl) ?_
                  refine sqa (m_sub (lq rfl) rfl rfl) ?_
                  obtain ⟨t46, ht46, hy2'⟩ := bE hy2; clear hy2
                  refine sqa (m_index (en := eSpan) (lq rfl) S23 rfl rfl ht46) ?_
                  refine sqa (m_loadEA (en := eSpan) (l := a0.Spans) (i := (wi (v19 - 1))) (v := t46) (off := 0) (lq rfl) G45 rfl ht46 rfl rfl (by decide)) ?_
                  refine sq_b rfl (step_alloc (zs := [(.int IntKind.i64 (0)), (.int IntKind.i64 (0)), (.int IntKind.i64 (0))]) (lq rfl) (by kernel_rfl) rfl rfl) ?_
                  refine sq_b rfl (s_store_boxA G45 rfl rfl rfl rfl rfl rfl) ?_
                  refine sq_nil ?_
                  refine avc_weak (weak_freeze (t := 7) (lq rfl) rfl rfl rfl) ?_
                  refine avc_sq2 ?_
                  refine avc_sq ?_
                  refine sqa (m_fieldPt (lq rfl) L45_0 rfl) ?_
                  refine sqa (a_load_ip (lq rfl) O3 rfl rfl) ?_
                  refine sqa (m_fieldPt (lq rfl) L45_1 rfl) ?_
                  refine sqa (a_load_ip (lq rfl) O3 rfl rfl) ?_
                  refine sqa (a_leq (lq rfl) rfl rfl) ?_
                  obtain ⟨b53, hb53, hy2⟩ := bE hy2'; clear hy2'
                  refine sqa ((a_move_d (lq rfl) rfl).bool (Option.some.inj hb53)) ?_
                  refine sq_g (x := .ip (eSpan.cells t22) (0 + 0)) rfl rfl rfl (lq rfl) (lq rfl) rfl (fun hb => by obtain rfl := gF hb; exact m_fieldPt (lq rfl) L45_0 rfl) ?_
                  refine sq_g (x := .d (di t22.Lo)) rfl rfl rfl (lq rfl) (lq rfl) rfl (fun hb => by obtain rfl := gF hb; exact a_load_ip (lq rfl) O3 rfl rfl) ?_
                  refine sq_g (x := .ip (eSpan.cells t46) (0 + 1)) rfl rfl rfl (lq rfl) (lq rfl) rfl (fun hb => by obtain rfl := gF hb; exact m_fieldPt (lq rfl) L45_1 rfl) ?_
                  refine sq_g (x := .d (di t46.Hi)) rfl rfl rfl (lq rfl) (lq rfl) rfl (fun hb => by obtain rfl := gF hb; exact a_load_ip (lq rfl) O3 rfl rfl) ?_
                  refine sq_g (x := .d (di (wi (t46.Hi + 1)))) rfl rfl rfl (lq rfl) (lq rfl) rfl (fun hb => by obtain rfl := gF hb; exact m_add (lq rfl) rfl rfl) ?_
                  refine sq_g (x := .d (db (decide (t22.Lo = (wi (t46.Hi + 1)))))) rfl rfl rfl (lq rfl) (lq rfl) rfl (fun hb => by obtain rfl := gF hb; exact a_eql (lq rfl) rfl rfl) ?_
                  obtain ⟨b60, hb60, hy2'⟩ := bE hy2; clear hy2
                  refine sq_g (x := .d (db b60)) rfl rfl rfl (lq rfl) (lq rfl) rfl (fun hb => by obtain rfl := gF hb; exact (a_move_d (lq rfl) rfl).bool (Option.some.inj hb60)) ?_
                  refine sq_g2 (x := .ip (eSpan.cells t22) (0 + 2)) rfl rfl rfl (lq rfl) (lq rfl) rfl (fun hb => by obtain ⟨hb, hb1⟩ := and_split hb; obtain rfl := gF hb; obtain rfl : b60 = true := hb1; exact m_fieldPt (lq rfl) L45_2 rfl) ?_
                  refine sq_g2 (x := .d (di t22.Value)) rfl rfl rfl (lq rfl) (lq rfl) rfl (fun hb => by obtain ⟨hb, hb1⟩ := and_split hb; obtain rfl := gF hb; obtain rfl : b60 = true := hb1; exact a_load_ip (lq rfl) O3 rfl rfl) ?_
                  refine sq_g2 (x := .ip (eSpan.cells t46) (0 + 2)) rfl rfl rfl (lq rfl) (lq rfl) rfl (fun hb => by obtain ⟨hb, hb1⟩ := and_split hb; obtain rfl := gF hb; obtain rfl : b60 = true := hb1; exact m_fieldPt (lq rfl) L45_2 rfl) ?_
                  refine sq_g2 (x := .d (di t46.Value)) rfl rfl rfl (lq rfl) (lq rfl) rfl (fun hb => by obtain ⟨hb, hb1⟩ := and_split hb; obtain rfl := gF hb; obtain rfl : b60 = true := hb1; exact a_load_ip (lq rfl) O3 rfl rfl) ?_
                  refine sq_g2 (x := .d (db (decide (t22.Value = t46.Value)))) rfl rfl rfl (lq rfl) (lq rfl) rfl (fun hb => by obtain ⟨hb, hb1⟩ := and_split hb; obtain rfl := gF hb; obtain rfl : b60 = true := hb1; exact a_eql (lq rfl) rfl rfl) ?_
                  refine sq_g (x := .d (db (b60 && (decide (t22.Value = t46.Value))))) rfl rfl rfl (lq rfl) (lq rfl) rfl (fun hb => by obtain rfl := gF hb; exact a_pick_and (lq rfl) rfl rfl) ?_
                  refine sqa (a_pick_or (lq rfl) rfl rfl) ?_
                  refine sq_nil ?_
                  refine avc_if rfl ⟨fun c5 => ?_, fun c5 => ?_⟩
                  · replace hy2' := cT c5 hy2'
                    refine avc_sq2 ?_
                    refine avc_sq ?_
                    refine sqa (a_assign_d (lq rfl) rfl) ?_
                    refine sq_nil ?_
                    refine avc_ret ?_
                    cases hy2'
                  · replace hy2' := cF c5 hy2'
                    refine avc_skip ?_
                    cases hy2'
                    exact out_mk (weak_cov ⟨rfl, rfl, rfl, rfl, trivial⟩ trivial)
            ·
              refine avc_sq ?_
              refine sqa (m_add (lq rfl) rfl rfl) ?_
              refine sqa (a_move_d (lq rfl) rfl) ?_
              refine sq_nil ?_
              cases hsy1'
              exact weak_cov ⟨rfl, rfl, rfl, rfl, trivial⟩ trivial
          ·
            replace hsy1' := eR hsy1'
            refine avc_tail (e := .ret) (S2 := ⟨[(2, .d (db false))], []⟩) ?_ ?_
            ·
              refine avc_block ?_
              refine avc_sq2 ?_
              refine avc_sq ?_
              refine sqa (a_move_d (lq rfl) rfl) ?_
              obtain ⟨t22, ht22, hy2'⟩ := bE hy2; clear hy2
              refine sqa (m_index (en := eSpan) (lq rfl) S23 rfl rfl ht22) ?_
              refine sqa (m_loadEA (en := eSpan) (l := a0.Spans) (i := v19) (v := t22) (off := 0) (lq rfl) G45 rfl ht22 rfl rfl (by decide)) ?_
              refine sq_b rfl (step_alloc (zs := [(.int IntKind.i64 (0)), (.int IntKind.i64 (0)), (.int IntKind.i64 (0))]) (lq rfl) (by kernel_rfl) rfl rfl) ?_
              refine sqa (a_assign_d (lq rfl) rfl) ?_
              refine sq_b rfl (s_store_boxA G45 rfl rfl rfl rfl rfl rfl) ?_
              refine sq_nil ?_
              refine avc_weak (weak_freeze (t := 6) (lq rfl) rfl rfl rfl) ?_
              refine avc_sq2 ?_
              refine avc_sq2 ?_
              refine avc_sq ?_
              refine sqa (m_loadPt (lq rfl) G45 rfl rfl) ?_
              obtain ⟨t25, ht25, hy2⟩ := bE hy2'; clear hy2'
              refine sqa (a_call (lq rfl) rfl (property_inside_c ht25)) ?_
              refine sqa (a_not (lq rfl) rfl) ?_
              obtain ⟨b27, hb27, hy2'⟩ := bE hy2; clear hy2
              refine sqa ((a_move_d (lq rfl) rfl).bool (Option.some.inj hb27)) ?_
              refine sq_g (x := .ip (eSpan.cells t22) (0 + 2)) rfl rfl rfl (lq rfl) (lq rfl) rfl (fun hb => by obtain rfl := gF hb; exact m_fieldPt (lq rfl) L45_2 rfl) ?_
              refine sq_g (x := .d (di t22.Value)) rfl rfl rfl (lq rfl) (lq rfl) rfl (fun hb => by obtain rfl := gF hb; exact a_load_ip (lq rfl) O3 rfl rfl) ?_
              refine sq_g (x := .d (db (decide (t22.Value < 1)))) rfl rfl rfl (lq rfl) (lq rfl) rfl (fun hb => by obtain rfl := gF hb; exact a_lss (lq rfl) rfl rfl) ?_
              refine sqa (a_pick_or (lq rfl) rfl rfl) ?_
              obtain ⟨b32, hb32, hy2⟩ := bE hy2'; clear hy2'
              refine sqa ((a_move_d (lq rfl) rfl).bool (Option.some.inj hb32)) ?_
              refine sq_g (x := .ip (eSpan.cells t22) (0 + 2)) rfl rfl rfl (lq rfl) (lq rfl) rfl (fun hb => by obtain rfl := gF hb; exact m_fieldPt (lq rfl) L45_2 rfl) ?_
              refine sq_g (x := .d (di t22.Value)) rfl rfl rfl (lq rfl) (lq rfl) rfl (fun hb => by obtain rfl := gF hb; exact a_load_ip (lq rfl) O3 rfl rfl) ?_
              refine sq_g (x := .ip (eProperty.cells a0) (0 + 0)) rfl rfl rfl (lq rfl) (lq rfl) rfl (fun hb => by obtain rfl := gF hb; exact m_fieldPt (lq rfl) L25_0 rfl) ?_
              refine sq_g (x := .d (dsl eS a0.Names)) rfl rfl rfl (lq rfl) (lq rfl) rfl (fun hb => by obtain rfl := gF hb; exact a_load_ip (lq rfl) O22 rfl rfl) ?_
              refine sq_g (x := .d (di (a0.Names.length : Int))) rfl rfl rfl (lq rfl) (lq rfl) rfl (fun hb => by obtain rfl := gF hb; exact m_len (en := eS) (l := a0.Names) (lq rfl) S22 rfl) ?_
              refine sq_g (x := .d (db (decide ((a0.Names.length : Int) ≤ t22.Value)))) rfl rfl rfl (lq rfl) (lq rfl) rfl (fun hb => by obtain rfl := gF hb; exact a_geq (lq rfl) rfl rfl) ?_
              refine sqa (a_pick_or (lq rfl) rfl rfl) ?_
              refine sq_nil ?_
              refine avc_if rfl ⟨fun c3 => ?_, fun c3 => ?_⟩
              · replace hy2 := cT c3 hy2
                refine avc_sq2 ?_
                refine avc_sq ?_
                refine sqa (a_assign_d (lq rfl) rfl) ?_
                refine sq_nil ?_
                refine avc_ret ?_
                cases hy2
                exact out_mk (weak_cov ⟨rfl, trivial⟩ trivial)
              · replace hy2 := cF c3 hy2
                refine avc_skip ?_
                refine avc_sq2 ?_
                refine avc_sq2 ?_
                refine avc_sq ?_
                refine sqa (a_move_d (lq rfl) rfl) ?_
                refine sqa (a_eql (lq rfl) rfl rfl) ?_
                refine sq_nil ?_
                refine avc_if rfl ⟨fun c4 => ?_, fun c4 => ?_⟩
                · replace hy2 := cT c4 hy2
                  refine avc_exit ?_
                  cases hy2
                · replace hy2 := cF c4 hy2
                  refine avc_skip ?_
                  refine avc_sq2 ?_
                  refine avc_sq ?_
                  refine sqa (m_fieldPt (lq rfl) L25_1 rfl) ?_
                  refine sqa (a_load_ip (lq rfl) O23 rfl rfl) ?_
                  refine sqa (a_move_d (lq rfl) rfl) ?_
                  refine sqa (m_sub (lq rfl) rfl rfl) ?_
                  obtain ⟨t46, ht46, hy2'⟩ := bE hy2; clear hy2
                  refine sqa (m_index (en := eSpan) (lq rfl) S23 rfl rfl ht46) ?_
                  refine sqa (m_loadEA (en := eSpan) (l := a0.Spans) (i := (wi (v19 - 1))) (v := t46) (off := 0) (lq rfl) G45 rfl ht46 rfl rfl (by decide)) ?_
                  refine sq_b rfl (step_alloc (zs := [(.int IntKind.i64 (0)), (.int IntKind.i64 (0)), (.int IntKind.i64 (0))]) (lq rfl) (by kernel_rfl) rfl rfl) ?_
                  refine sq_b rfl (s_store_boxA G45 rfl rfl rfl rfl rfl rfl) ?_
                  refine sq_nil ?_
                  refine avc_weak (weak_freeze (t := 7) (lq rfl) rfl rfl rfl) ?_
                  refine avc_sq2 ?_
                  refine avc_sq ?_
                  refine sqa (m_fieldPt (lq rfl) L45_0 rfl) ?_
                  refine sqa (a_load_ip (lq rfl) O3 rfl rfl) ?_
                  refine sqa (m_fieldPt (lq rfl) L45_1 rfl) ?_
                  refine sqa (a_load_ip (lq rfl) O3 rfl rfl) ?_
                  refine sqa (a_leq (lq rfl) rfl rfl) ?_
                  obtain ⟨b53, hb53, hy2⟩ := bE hy2'; clear hy2'
                  refine sqa ((a_move_d (lq rfl) rfl).bool (Option.some.inj hb53)) ?_
                  refine sq_g (x := .ip (eSpan.cells t22) (0 + 0)) rfl rfl rfl (lq rfl) (lq rfl) rfl (fun hb => by obtain rfl := gF hb; exact m_fieldPt (lq rfl) L45_0 rfl) ?_
                  refine sq_g (x := .d (di t22.Lo)) rfl rfl rfl (lq rfl) (lq rfl) rfl (fun hb => by obtain rfl := gF hb; exact a_load_ip (lq rfl) O3 rfl rfl) ?_
                  refine sq_g (x := .ip (eSpan.cells t46) (0 + 1)) rfl rfl rfl (lq rfl) (lq rfl) rfl (fun hb => by obtain rfl := gF hb; exact m_fieldPt (lq rfl) L45_1 rfl) ?_
                  refine sq_g (x := .d (di t46.Hi)) rfl rfl rfl (lq rfl) (lq rfl) rfl (fun hb => by obtain rfl := gF hb; exact a_load_ip (lq rfl) O3 rfl rfl) ?_
                  refine sq_g (x := .d (di (wi (t46.Hi + 1)))) rfl rfl rfl (lq rfl) (lq rfl) rfl (fun hb => by obtain rfl := gF hb; exact m_add (lq rfl) rfl rfl) ?_
                  refine sq_g (x := .d (db (decide (t22.Lo = (wi (t46.Hi + 1)))))) rfl rfl rfl (lq rfl) (lq rfl) rfl (fun hb => by obtain rfl := gF hb; exact a_eql (lq rfl) rfl rfl) ?_
                  obtain ⟨b60, hb60, hy2'⟩ := bE hy2; clear hy2
                  refine sq_g (x := .d (db b60)) rfl rfl rfl (lq rfl) (lq rfl) rfl (fun hb => by obtain rfl := gF hb; exact (a_move_d (lq rfl) rfl).bool (Option.some.inj hb60)) ?_
                  refine sq_g2 (x := .ip (eSpan.cells t22) (0 + 2)) rfl rfl rfl (lq rfl) (lq rfl) rfl (fun hb => by obtain ⟨hb, hb1⟩ := and_split hb; obtain rfl := gF hb; obtain rfl : b60 = true := hb1; exact m_fieldPt (lq rfl) L45_2 rfl) ?_
                  refine sq_g2 (x := .d (di t22.Value)) rfl rfl rfl (lq rfl) (lq rfl) rfl (fun hb => by obtain ⟨hb, hb1⟩ := and_split hb; obtain rfl := gF hb; obtain rfl : b60 = true := hb1; exact a_load_ip (lq rfl) O3 rfl rfl) ?_
                  refine sq_g2 (x := .ip (eSpan.cells t46) (0 + 2)) rfl rfl rfl (lq rfl) (lq rfl) rfl (fun hb => by obtain ⟨hb, hb1⟩ := and_split hb; obtain rfl := gF hb; obtain rfl : b60 = true := hb1; exact m_fieldPt (lq rfl) L45_2 rfl) ?_
                  refine sq_g2 (x := .d (di t46.Value)) rfl rfl rfl (lq rfl) (lq rfl) rfl (fun hb => by obtain ⟨hb, hb1⟩ := and_split hb; obtain rfl := gF hb; obtain rfl : b60 = true := hb1; exact a_load_ip (lq rfl) O3 rfl rfl) ?_
                  refine sq_g2 (x := .d (db (decide (t22.Value = t46.Value)))) rfl rfl rfl (lq rfl) (lq rfl) rfl (fun hb => by obtain ⟨hb, hb1⟩ := and_split hb; obtain rfl := gF hb; obtain rfl : b60 = true := hb1; exact a_eql (lq rfl) rfl rfl) ?_
                  refine sq_g (x := .d (db (b60 && (decide (t22.Value = t46.Value))))) rfl rfl rfl (lq rfl) (lq rfl) rfl (fun hb => by obtain rfl := gF hb; exact a_pick_and (lq rfl) rfl rfl) ?_
                  refine sqa (a_pick_or (lq rfl) rfl rfl) ?_
                  refine sq_nil ?_
                  refine avc_if rfl ⟨fun c5 => ?_, fun c5 => ?_⟩
                  · replace hy2' := cT c5 hy2'
                    refine avc_sq2 ?_
                    refine avc_sq ?_
                    refine sqa (a_assign_d (lq rfl) rfl) ?_
                    refine sq_nil ?_
                    refine avc_ret ?_
                    cases hy2'
                    exact out_mk (weak_cov ⟨rfl, trivial⟩ trivial)
                  · replace hy2' := cF c5 hy2'
                    refine avc_skip ?_
                    cases hy2'
            ·
              cases hsy1'
              intro q; cases q
        · replace hsy1 := cF c2 hsy1
          refine avc_exit ?_
          cases hsy1
          intro q; cases q
          exact out_mk (weak_cov trivial trivial)
      ·
        refine avc_sq2 ?_
        refine avc_sq ?_
        refine sqa (a_assign_d (lq rfl) rfl) ?_
        refine sq_nil ?_
        cases h
        refine avc_ret ?_
        exact ret_1 rfl
    ·
      replace h := eR h
      refine avc_tail (e := .ret) (S2 := ⟨[(2, .d (db y1))], []⟩) ?_ ?_
      ·
        refine avc_loopM (fun x => ⟨[(1, .d (.pt (eProperty.cells a0))), (17, .d (dsl eSpan a0.Spans)), (18, .d (di (a0.Spans.length : Int))), (19, .d (di x))], []⟩) hy1 (weak_cov ⟨rfl, rfl, rfl, rfl, trivial⟩ trivial) ?_
        rintro v19 sy1 hsy1
        replace hsy1 : property_Valid_L0 a0 v19 = some sy1 := hsy1
        unfold property_Valid_L0 at hsy1
        refine avc_sq2 ?_
        refine avc_sq ?_
        refine sqa (a_lss (lq rfl) rfl rfl) ?_
        refine sq_nil ?_
        refine avc_sq2 ?_
        refine avc_if rfl ⟨fun c2 => ?_, fun c2 => ?_⟩
        · replace hsy1 := cT c2 hsy1
          refine avc_skip ?_
          refine avc_sq2 ?_
          obtain ⟨y2, hy2, hsy1'⟩ := bE hsy1; clear hsy1
          rcases y2 with y2 | y2
          ·
            replace hsy1' := eL hsy1'
            refine avc_tail (e := .normal) (S2 := ⟨[(1, .d (.pt (eProperty.cells a0))), (17, .d (dsl eSpan a0.Spans)), (18, .d (di (a0.Spans.length : Int))), (19, .d (di v19))], []⟩) ?_ ?_
            ·
              refine avc_block ?_
              refine avc_sq2 ?_
              refine avc_sq ?_
              refine sqa (a_move_d (lq rfl) rfl) ?_
              obtain ⟨t22, ht22, hy2'⟩ := bE hy2; clear hy2
              refine sqa (m_index (en := eSpan) (lq rfl) S23 rfl rfl ht22) ?_
              refine sqa (m_loadEA (en := eSpan) (l := a0.Spans) (i := v19) (v := t22) (off := 0) (lq rfl) G45 rfl ht22 rfl rfl (by decide)) ?_
              refine sq_b rfl (step_alloc (zs := [(.int IntKind.i64 (0)), (.int IntKind.i64 (0)), (.int IntKind.i64 (0))]) (lq rfl) (by kernel_rfl) rfl rfl) ?_
              refine sqa (a_assign_d (lq rfl) rfl) ?_
              refine sq_b rfl (s_store_boxA G45 rfl rfl rfl rfl rfl rfl) ?_
              refine sq_nil ?_
              refine avc_weak (weak_freeze (t := 6) (lq rfl) rfl rfl rfl) ?_
              refine avc_sq2 ?_
              refine avc_sq2 ?_
              refine avc_sq ?_
              refine sqa (m_loadPt (lq rfl) G45 rfl rfl) ?_
              obtain ⟨t25, ht25, hy2⟩ := bE hy2'; clear hy2'
              refine sqa (a_call (lq rfl) rfl (property_inside_c ht25)) ?_
              refine sqa (a_not (lq rfl) rfl) ?_
              obtain ⟨b27, hb27, hy2'⟩ := bE hy2; clear hy2
              refine sqa ((a_move_d (lq rfl) rfl).bool (Option.some.inj hb27)) ?_
              refine sq_g (x := .ip (eSpan.cells t22) (0 + 2)) rfl rfl rfl (lq rfl) (lq rfl) rfl (fun hb => by obtain rfl := gF hb; exact m_fieldPt (lq rfl) L45_2 rfl) ?_
              refine sq_g (x := .d (di t22.Value)) rfl rfl rfl (lq rfl) (lq rfl) rfl (fun hb => by obtain rfl := gF hb; exact a_load_ip (lq rfl) O3 rfl rfl) ?_
              refine sq_g (x := .d (db (decide (t22.Value < 1)))) rfl rfl rfl (lq rfl) (lq rfl) rfl (fun hb => by obtain rfl := gF hb; exact a_lss (lq rfl) rfl rfl) ?_
              refine sqa (a_pick_or (lq rfl) rfl rfl) ?_
              obtain ⟨b32, hb32, hy2⟩ := bE hy2'; clear hy2'
              refine sqa ((a_move_d (lq rfl) rfl).bool (Option.some.inj hb32)) ?_
              refine sq_g (x := .ip (eSpan.cells t22) (0 + 2)) rfl rfl rfl (lq rfl) (lq rfl) rfl (fun hb => by obtain rfl := gF hb; exact m_fieldPt (lq rfl) L45_2 rfl) ?_
              refine sq_g (x := .d (di t22.Value)) rfl rfl rfl (lq rfl) (lq rfl) rfl (fun hb => by obtain rfl := gF hb; exact a_load_ip (lq rfl) O3 rfl rfl) ?_
              refine sq_g (x := .ip (eProperty.cells a0) (0 + 0)) rfl rfl rfl (lq rfl) (lq rfl) rfl (fun hb => by obtain rfl := gF hb; exact m_fieldPt (lq rfl) L25_0 rfl) ?_
              refine sq_g (x := .d (dsl eS a0.Names)) rfl rfl rfl (lq rfl) (lq rfl) rfl (fun hb => by obtain rfl := gF hb; exact a_load_ip (lq rfl) O22 rfl rfl) ?_
              refine sq_g (x := .d (di (a0.Names.length : Int))) rfl rfl rfl (lq rfl) (lq rfl) rfl (fun hb => by obtain rfl := gF hb; exact m_len (en := eS) (l := a0.Names) (lq rfl) S22 rfl) ?_
              refine sq_g (x := .d (db (decide ((a0.Names.length : Int) ≤ t22.Value)))) rfl rfl rfl (lq rfl) (lq rfl) rfl (fun hb => by obtain rfl := gF hb; exact a_geq (lq rfl) rfl rfl) ?_
              refine sqa (a_pick_or (lq rfl) rfl rfl) ?_
              refine sq_nil ?_
              refine avc_if rfl ⟨fun c3 => ?_, fun c3 => ?_⟩
              · replace hy2 := cT c3 hy2
                refine avc_sq2 ?_
                refine avc_sq ?_
                refine sqa (a_assign_d (lq rfl) rfl) ?_
                refine sq_nil ?_
                refine avc_ret ?_
                cases hy2
              · replace hy2 := cF c3 hy2
                refine avc_skip ?_
                refine avc_sq2 ?_
                refine avc_sq2 ?_
                refine avc_sq ?_
                refine sqa (a_move_d (lq rfl) rfl) ?_
                refine sqa (a_eql (lq rfl) rfl rfl) ?_
                refine sq_nil ?_
                refine avc_if rfl ⟨fun c4 => ?_, fun c4 => ?_⟩
                · replace hy2 := cT c4 hy2
                  refine avc_exit ?_
                  cases hy2
                  exact out_mk (weak_cov ⟨rfl, rfl, rfl, rfl, trivial⟩ trivial)
                · replace hy2 := cF c4 hy2
                  refine avc_skip ?_
                  refine avc_sq2 ?_
                  refine avc_sq ?_
                  refine sqa (m_fieldPt (lq rfl) L25_1 rfl) ?_
                  refine sqa (a_load_ip (lq rfl) O23 rfl rfl) ?_
                  refine sqa (a_move_d (lq rfl) rfl) ?_
                  refine sqa (m_sub (lq rfl) rfl rfl) ?_
                  obtain ⟨t46, ht46, hy2'⟩ := bE hy2; clear hy2
                  refine sqa (m_index (en := eSpan) (lq rfl) S23 rfl rfl ht46) ?_
                  refine sqa (m_loadEA (en := eSpan) (l := a0.Spans) (i := (wi (v19 - 1))) (v := t46) (off := 0) (lq rfl) G45 rfl ht46 rfl rfl (by decide)) ?_
                  refine sq_b rfl (step_alloc (zs := [(.int IntKind.i64 (0)), (.int IntKind.i64 (0)), (.int IntKind.i64 (0))]) (lq rfl) (by kernel_rfl) rfl rfl) ?_
                  refine sq_b rfl (s_store_boxA G45 rfl rfl rfl rfl rfl rfl) ?_
                  refine sq_nil ?_
                  refine avc_weak (weak_freeze (t := 7) (lq rfl) rfl rfl rfl) ?_
                  refine avc_sq2 ?_
                  refine avc_sq ?_
                  refine sqa (m_fieldPt (lq rfl) L45_0 rfl) ?_
                  refine sqa (a_load_ip (lq rfl) O3 rfl rfl) ?_
                  refine sqa (m_fieldPt (lq rfl) L45_1 rfl) ?_
                  refine sqa (a_load_ip (lq rfl) O3 rfl rfl) ?_
                  refine sqa (a_leq (lq rfl) rfl rfl) ?_
                  obtain ⟨b53, hb53, hy2⟩ := bE hy2'; clear hy2'
                  refine sqa ((a_move_d (lq rfl) rfl).bool (Option.some.inj hb53)) ?_
                  refine sq_g (x := .ip (eSpan.cells t22) (0 + 0)) rfl rfl rfl (lq rfl) (lq rfl) rfl (fun hb => by obtain rfl := gF hb; exact m_fieldPt (lq rfl) L45_0 rfl) ?_
                  refine sq_g (x := .d (di t22.Lo)) rfl rfl rfl (lq rfl) (lq rfl) rfl (fun hb => by obtain rfl := gF hb; exact a_load_ip (lq rfl) O3 rfl rfl) ?_
                  refine sq_g (x := .ip (eSpan.cells t46) (0 + 1)) rfl rfl rfl (lq rfl) (lq rfl) rfl (fun hb => by obtain rfl := gF hb; exact m_fieldPt (lq rfl) L45_1 rfl) ?_
                  refine sq_g (x := .d (di t46.Hi)) rfl rfl rfl (lq rfl) (lq rfl) rfl (fun hb => by obtain rfl := gF hb; exact a_load_ip (lq rfl) O3 rfl rfl) ?_
                  refine sq_g (x := .d (di (wi (t46.Hi + 1)))) rfl rfl rfl (lq rfl) (lq rfl) rfl (fun hb => by obtain rfl := gF hb; exact m_add (lq rfl) rfl rfl) ?_
                  refine sq_g (x := .d (db (decide (t22.Lo = (wi (t46.Hi + 1)))))) rfl rfl rfl (lq rfl) (lq rfl) rfl (fun hb => by obtain rfl := gF hb; exact a_eql (lq rfl) rfl rfl) ?_
                  obtain ⟨b60, hb60, hy2'⟩ := bE hy2; clear hy2
                  refine sq_g (x := .d (db b60)) rfl rfl rfl (lq rfl) (lq rfl) rfl (fun hb => by obtain rfl := gF hb; exact (a_move_d (lq rfl) rfl).bool (Option.some.inj hb60)) ?_
                  refine sq_g2 (x := .ip (eSpan.cells t22) (0 + 2)) rfl rfl rfl (lq rfl) (lq rfl) rfl (fun hb => by obtain ⟨hb, hb1⟩ := and_split hb; obtain rfl := gF hb; obtain rfl : b60 = true := hb1; exact m_fieldPt (lq rfl) L45_2 rfl) ?_
                  refine sq_g2 (x := .d (di t22.Value)) rfl rfl rfl (lq rfl) (lq rfl) rfl (fun hb => by obtain ⟨hb, hb1⟩ := and_split hb; obtain rfl := gF hb; obtain rfl : b60 = true := hb1; exact a_load_ip (lq rfl) O3 rfl rfl) ?_
                  refine sq_g2 (x := .ip (eSpan.cells t46) (0 + 2)) rfl rfl rfl (lq rfl) (lq rfl) rfl (fun hb => by obtain ⟨hb, hb1⟩ := and_split hb; obtain rfl := gF hb; obtain rfl : b60 = true := hb1; exact m_fieldPt (lq rfl) L45_2 rfl) ?_
                  refine sq_g2 (x := .d (di t46.Value)) rfl rfl rfl (lq rfl) (lq rfl) rfl (fun hb => by obtain ⟨hb, hb1⟩ := and_split hb; obtain rfl := gF hb; obtain rfl : b60 = true := hb1; exact a_load_ip (lq rfl) O3 rfl rfl) ?_
                  refine sq_g2 (x := .d (db (decide (t22.Value = t46.Value)))) rfl rfl rfl (lq rfl) (lq rfl) rfl (fun hb => by obtain ⟨hb, hb1⟩ := and_split hb; obtain rfl := gF hb; obtain rfl : b60 = true := hb1; exact a_eql (lq rfl) rfl rfl) ?_
                  refine sq_g (x := .d (db (b60 && (decide (t22.Value = t46.Value))))) rfl rfl rfl (lq rfl) (lq rfl) rfl (fun hb => by obtain rfl := gF hb; exact a_pick_and (lq rfl) rfl rfl) ?_
                  refine sqa (a_pick_or (lq rfl) rfl rfl) ?_
                  refine sq_nil ?_
                  refine avc_if rfl ⟨fun c5 => ?_, fun c5 => ?_⟩
                  · replace hy2' := cT c5 hy2'
                    refine avc_sq2 ?_
                    refine avc_sq ?_
                    refine sqa (a_assign_d (lq rfl) rfl) ?_
                    refine sq_nil ?_
                    refine avc_ret ?_
                    cases hy2'
                  · replace hy2' := cF c5 hy2'
                    refine avc_skip ?_
                    cases hy2'
                    exact out_mk (weak_cov ⟨rfl, rfl, rfl, rfl, trivial⟩ trivial)
            ·
              refine avc_sq ?_
              refine sqa (m_add (lq rfl) rfl rfl) ?_
              refine sqa (a_move_d (lq rfl) rfl) ?_
              refine sq_nil ?_
              cases hsy1'
              exact weak_cov ⟨rfl, rfl, rfl, rfl, trivial⟩ trivial
          ·
            replace hsy1' := eR hsy1'
            refine avc_tail (e := .ret) (S2 := ⟨[(2, .d (db false))], []⟩) ?_ ?_
            ·
              refine avc_block ?_
              refine avc_sq2 ?_
              refine avc_sq ?_
              refine sqa (a_move_d (lq rfl) rfl) ?_
              obtain ⟨t22, ht22, hy2'⟩ := bE hy2; clear hy2
              refine sqa (m_index (en := eSpan) (lq rfl) S23 rfl rfl ht22) ?_
              refine sqa (m_loadEA (en := eSpan) (l := a0.Spans) (i := v19) (v := t22) (off := 0) (lq rfl) G45 rfl ht22 rfl rfl (by decide)) ?_
              refine sq_b rfl (step_alloc (zs := [(.int IntKind.i64 (0)), (.int IntKind.i64 (0)), (.int IntKind.i64 (0))]) (lq rfl) (by kernel_rfl) rfl rfl) ?_
              refine sqa (a_assign_d (lq rfl) rfl) ?_
              refine sq_b rfl (s_store_boxA G45 rfl rfl rfl rfl rfl rfl) ?_
              refine sq_nil ?_
              refine avc_weak (weak_freeze (t := 6) (lq rfl) rfl rfl rfl) ?_
              refine avc_sq2 ?_
              refine avc_sq2 ?_
              refine avc_sq ?_
              refine sqa (m_loadPt (lq rfl) G45 rfl rfl) ?_
              obtain ⟨t25, ht25, hy2⟩ := bE hy2'; clear hy2'
              refine sqa (a_call (lq rfl) rfl (property_inside_c ht25)) ?_
              refine sqa (a_not (lq rfl) rfl) ?_
              obtain ⟨b27, hb27, hy2'⟩ := bE hy2; clear hy2
              refine sqa ((a_move_d (lq rfl) rfl).bool (Option.some.inj hb27)) ?_
              refine sq_g (x := .ip (eSpan.cells t22) (0 + 2)) rfl rfl rfl (lq rfl) (lq rfl) rfl (fun hb => by obtain rfl := gF hb; exact m_fieldPt (lq rfl) L45_2 rfl) ?_
              refine sq_g (x := .d (di t22.Value)) rfl rfl rfl (lq rfl) (lq rfl) rfl (fun hb => by obtain rfl := gF hb; exact a_load_ip (lq rfl) O3 rfl rfl) ?_
              refine sq_g (x := .d (db (decide (t22.Value < 1)))) rfl rfl rfl (lq rfl) (lq rfl) rfl (fun hb => by obtain rfl := gF hb; exact a_lss (lq rfl) rfl rfl) ?_
              refine sqa (a_pick_or (lq rfl) rfl rfl) ?_
              obtain ⟨b32, hb32, hy2⟩ := bE hy2'; clear hy2'
              refine sqa ((a_move_d (lq rfl) rfl).bool (Option.some.inj hb32)) ?_
              refine sq_g (x := .ip (eSpan.cells t22) (0 + 2)) rfl rfl rfl (lq rfl) (lq rfl) rfl (fun hb => by obtain rfl := gF hb; exact m_fieldPt (lq rfl) L45_2 rfl) ?_
              refine sq_g (x := .d (di t22.Value)) rfl rfl rfl (lq rfl) (lq rfl) rfl (fun hb => by obtain rfl := gF hb; exact a_load_ip (lq rfl) O3 rfl rfl) ?_
              refine sq_g (x := .ip (eProperty.cells a0) (0 + 0)) rfl rfl rfl (lq rfl) (lq rfl) rfl (fun hb => by obtain rfl := gF hb; exact m_fieldPt (lq rfl) L25_0 rfl) ?_
              refine sq_g (x := .d (dsl eS a0.Names)) rfl rfl rfl (lq rfl) (lq rfl) rfl (fun hb => by obtain rfl := gF hb; exact a_load_ip (lq rfl) O22 rfl rfl) ?_
              refine sq_g (x := .d (di (a0.Names.length : Int))) rfl rfl rfl (lq rfl) (lq rfl) rfl (fun hb => by obtain rfl := gF hb; exact m_len (en := eS) (l := a0.Names) (lq rfl) S22 rfl) ?_
              refine sq_g (x := .d (db (decide ((a0.Names.length : Int) ≤ t22.Value)))) rfl rfl rfl (lq rfl) (lq rfl) rfl (fun hb => by obtain rfl := gF hb; exact a_geq (lq rfl) rfl rfl) ?_
              refine sqa (a_pick_or (lq rfl) rfl rfl) ?_
              refine sq_nil ?_
              refine avc_if rfl ⟨fun c3 => ?_, fun c3 => ?_⟩
              · replace hy2 := cT c3 hy2
                refine avc_sq2 ?_
                refine avc_sq ?_
                refine sqa (a_assign_d (lq rfl) rfl) ?_
                refine sq_nil ?_
                refine avc_ret ?_
                cases hy2
                exact out_mk (weak_cov ⟨rfl, trivial⟩ trivial)
              · replace hy2 := cF c3 hy2
                refine avc_skip ?_
                refine avc_sq2 ?_
                refine avc_sq2 ?_
                refine avc_sq ?_
                refine sqa (a_move_d (lq rfl) rfl) ?_
                refine sqa (a_eql (lq rfl) rfl rfl) ?_
                refine sq_nil ?_
                refine avc_if rfl ⟨fun c4 => ?_, fun c4 => ?_⟩
                · replace hy2 := cT c4 hy2
                  refine avc_exit ?_
                  cases hy2
                · replace hy2 := cF c4 hy2
                  refine avc_skip ?_
                  refine avc_sq2 ?_
                  refine avc_sq ?_
                  refine sqa (m_fieldPt (lq rfl) L25_1 rfl) ?_
                  refine sqa (a_load_ip (lq rfl) O23 rfl rfl) ?_
                  refine sqa (a_move_d (lq rfl) rfl) ?_
                  refine sqa (m_sub (lq rfl) rfl rfl) ?_
                  obtain ⟨t46, ht46, hy2'⟩ := bE hy2; clear hy2
                  refine sqa (m_index (en := eSpan) (lq rfl) S23 rfl rfl ht46) ?_
                  refine sqa (m_loadEA (en := eSpan) (l := a0.Spans) (i := (wi (v19 - 1))) (v := t46) (off := 0) (lq rfl) G45 rfl ht46 rfl rfl (by decide)) ?_
                  refine sq_b rfl (step_alloc (zs := [(.int IntKind.i64 (0)), (.int IntKind.i64 (0)), (.int IntKind.i64 (0))]) (lq rfl) (by kernel_rfl) rfl rfl) ?_
                  refine sq_b rfl (s_store_boxA G45 rfl rfl rfl rfl rfl rfl) ?_
                  refine sq_nil ?_
                  refine avc_weak (weak_freeze (t := 7) (lq rfl) rfl rfl rfl) ?_
                  refine avc_sq2 ?_
                  refine avc_sq ?_
                  refine sqa (m_fieldPt (lq rfl) L45_0 rfl) ?_
                  refine sqa (a_load_ip (lq rfl) O3 rfl rfl) ?_
                  refine sqa (m_fieldPt (lq rfl) L45_1 rfl) ?_
                  refine sqa (a_load_ip (lq rfl) O3 rfl rfl) ?_
                  refine sqa (a_leq (lq rfl) rfl rfl) ?_
                  obtain ⟨b53, hb53, hy2⟩ := bE hy2'; clear hy2'
                  refine sqa ((a_move_d (lq rfl) rfl).bool (Option.some.inj hb53)) ?_
                  refine sq_g (x := .ip (eSpan.cells t22) (0 + 0)) rfl rfl rfl (lq rfl) (lq rfl) rfl (fun hb => by obtain rfl := gF hb; exact m_fieldPt (lq rfl) L45_0 rfl) ?_
                  refine sq_g (x := .d (di t22.Lo)) rfl rfl rfl (lq rfl) (lq rfl) rfl (fun hb => by obtain rfl := gF hb; exact a_load_ip (lq rfl) O3 rfl rfl) ?_
                  refine sq_g (x := .ip (eSpan.cells t46) (0 + 1)) rfl rfl rfl (lq rfl) (lq rfl) rfl (fun hb => by obtain rfl := gF hb; exact m_fieldPt (lq rfl) L45_1 rfl) ?_
                  refine sq_g (x := .d (di t46.Hi)) rfl rfl rfl (lq rfl) (lq rfl) rfl (fun hb => by obtain rfl := gF hb; exact a_load_ip (lq rfl) O3 rfl rfl) ?_
                  refine sq_g (x := .d (di (wi (t46.Hi + 1)))) rfl rfl rfl (lq rfl) (lq rfl) rfl (fun hb => by obtain rfl := gF hb; exact m_add (lq rfl) rfl rfl) ?_
                  refine sq_g (x := .d (db (decide (t22.Lo = (wi (t46.Hi + 1)))))) rfl rfl rfl (lq rfl) (lq rfl) rfl (fun hb => by obtain rfl := gF hb; exact a_eql (lq rfl) rfl rfl) ?_
                  obtain ⟨b60, hb60, hy2'⟩ := bE hy2; clear hy2
                  refine sq_g (x := .d (db b60)) rfl rfl rfl (lq rfl) (lq rfl) rfl (fun hb => by obtain rfl := gF hb; exact (a_move_d (lq rfl) rfl).bool (Option.some.inj hb60)) ?_
                  refine sq_g2 (x := .ip (eSpan.cells t22) (0 + 2)) rfl rfl rfl (lq rfl) (lq rfl) rfl (fun hb => by obtain ⟨hb, hb1⟩ := and_split hb; obtain rfl := gF hb; obtain rfl : b60 = true := hb1; exact m_fieldPt (lq rfl) L45_2 rfl) ?_
                  refine sq_g2 (x := .d (di t22.Value)) rfl rfl rfl (lq rfl) (lq rfl) rfl (fun hb => by obtain ⟨hb, hb1⟩ := and_split hb; obtain rfl := gF hb; obtain rfl : b60 = true := hb1; exact a_load_ip (lq rfl) O3 rfl rfl) ?_
                  refine sq_g2 (x := .ip (eSpan.cells t46) (0 + 2)) rfl rfl rfl (lq rfl) (lq rfl) rfl (fun hb => by obtain ⟨hb, hb1⟩ := and_split hb; obtain rfl := gF hb; obtain rfl : b60 = true := hb1; exact m_fieldPt (lq rfl) L45_2 rfl) ?_
                  refine sq_g2 (x := .d (di t46.Value)) rfl rfl rfl (lq rfl) (lq rfl) rfl (fun hb => by obtain ⟨hb, hb1⟩ := and_split hb; obtain rfl := gF hb; obtain rfl : b60 = true := hb1; exact a_load_ip (lq rfl) O3 rfl rfl) ?_
                  refine sq_g2 (x := .d (db (decide (t22.Value = t46.Value)))) rfl rfl rfl (lq rfl) (lq rfl) rfl (fun hb => by obtain ⟨hb, hb1⟩ := and_split hb; obtain rfl := gF hb; obtain rfl : b60 = true := hb1; exact a_eql (lq rfl) rfl rfl) ?_
                  refine sq_g (x := .d (db (b60 && (decide (t22.Value = t46.Value))))) rfl rfl rfl (lq rfl) (lq rfl) rfl (fun hb => by obtain rfl := gF hb; exact a_pick_and (lq rfl) rfl rfl) ?_
                  refine sqa (a_pick_or (lq rfl) rfl rfl) ?_
                  refine sq_nil ?_
                  refine avc_if rfl ⟨fun c5 => ?_, fun c5 => ?_⟩
                  · replace hy2' := cT c5 hy2'
                    refine avc_sq2 ?_
                    refine avc_sq ?_
                    refine sqa (a_assign_d (lq rfl) rfl) ?_
                    refine sq_nil ?_
                    refine avc_ret ?_
                    cases hy2'
                    exact out_mk (weak_cov ⟨rfl, trivial⟩ trivial)
                  · replace hy2' := cF c5 hy2'
                    refine avc_skip ?_
                    cases hy2'
            ·
              cases hsy1'
              intro q; cases q
              exact out_mk (weak_cov ⟨rfl, trivial⟩ trivial)
        · replace hsy1 := cF c2 hsy1
          refine avc_exit ?_
          cases hsy1
          intro q; cases q
      ·
        cases h
        exact ret_1 rfl

theorem property_counted_c  {a0 : Property}  {r : Property} (h : property_counted a0 = some r) : Contract Try.prog 49 [(eProperty.dv a0)] [(eProperty.dv r)] := by
  refine contract_of Try.func49 (by kernel_rfl) rfl (lq rfl) (lq rfl) fun w0 I0 => ?_
  unfold property_counted at h
  refine avc_sq2 ?_
  refine avc_sq ?_
  refine sqa (m_box (size := 2) (lq rfl) rfl rfl) ?_
  refine sq_b rfl (step_alloc (zs := [(.slice none 0 0), (.slice none 0 0)]) (lq rfl) (by kernel_rfl) rfl rfl) ?_
  refine sq_nil ?_
  refine avc_sq2 ?_
  refine avc_sq2 ?_
  refine avc_sq ?_
  refine sqa (m_loadPt (lq rfl) G25 rfl rfl) ?_
  obtain ⟨t4, ht4, h'⟩ := bE h; clear h
  refine sqa (a_call (lq rfl) rfl (property_Valid_c ht4)) ?_
  refine sq_nil ?_
  refine avc_if rfl ⟨fun c1 => ?_, fun c1 => ?_⟩
  · replace h' := cT c1 h'
    refine avc_sq2 ?_
    refine avc_sq ?_
    refine sqa (m_loadPt (lq rfl) G25 rfl rfl) ?_
    refine sq_b rfl (s_store_boxA G25 rfl rfl rfl rfl rfl rfl) ?_
    refine sq_nil ?_
    cases h'
    refine avc_ret ?_
    exact ret_cellA rfl rfl G25 rfl
  · replace h' := cF c1 h'
    refine avc_skip ?_
    refine avc_sq2 ?_
    refine avc_sq ?_
    refine sqa (a_lit (lq rfl) S22 rfl rfl rfl rfl (by decide) rfl) ?_
    refine sqa ((m_build (lq rfl) B25 rfl rfl).nils (bs := eProperty.cells ({ Names := [[79, 116, 104, 101, 114]], Spans := [] } : Property)) (nlE (nlN nl0))) ?_
    refine sq_b rfl (s_store_boxA G25 rfl rfl rfl rfl rfl rfl) ?_
    refine sq_nil ?_
    cases h'
    refine avc_ret ?_
    exact ret_cellA rfl rfl G25 rfl

theorem property_Get_1_c  {a0 : Int} {a1 : (List Span)} {a2 : Int}  {r : Bool} (h : property_Get_1 a0 a1 a2 = some r) : Contract Try.prog 65 [(di a0), (.pt [(dsl eSpan a1)]), (.pt [(di a2)])] [(db r)] := by
  refine contract_of Try.func65 (by kernel_rfl) rfl (lq rfl) (lq rfl) fun w0 I0 => ?_
  unfold property_Get_1 at h
  refine avc_sq2 ?_
  refine avc_sq ?_
  refine sqa (a_assign_d (lq rfl) rfl) ?_
  refine sq_nil ?_
  refine avc_sq2 ?_
  refine avc_drawA MX rfl ?_
  refine daa (m_loadPt1 (lq rfl) O23 rfl) ?_
  refine daa (a_move_d (lq rfl) rfl) ?_
  obtain ⟨t7, ht7, h'⟩ := bE h; clear h
  refine daa (m_index (en := eSpan) (lq rfl) S23 rfl rfl ht7) ?_
  refine daa (a_fieldAddr_ip (lq rfl) L45_1 rfl) ?_
  refine daa (m_loadE (en := eSpan) (l := a1) (i := a0) (v := t7) (off := 1) (lq rfl) O3 rfl ht7 rfl) ?_
  refine daa (m_loadPt1 (lq rfl) O3 rfl) ?_
  refine daa (a_geq (lq rfl) rfl rfl) ?_
  refine daa (a_assign_d (lq rfl) rfl) ?_
  refine da_nil ?_
  cases h'
  refine avc_ret ?_
  exact ret_1 rfl

theorem sort_Search_c {fv1 : DV} {a0 : Int} {a1 : Int → Option (Bool)} (hf1 : ∀ x0 y, a1 x0 = some y → FnC Try.prog fv1 [(di x0)] [(db y)]) {r : Int} (h : sort_Search a0 a1 = some r) : Contract Try.prog 64 [(di a0), fv1] [(di r)] := by
  refine contract_of Try.func64 (by kernel_rfl) rfl (lq rfl) (lq rfl) fun w0 I0 => ?_
  unfold sort_Search at h
  refine avc_sq2 ?_
  refine avc_sq ?_
  refine sqa (a_assign_d (lq rfl) rfl) ?_
  refine sq_nil ?_
  refine avc_sq2 ?_
  refine avc_sq ?_
  refine sqa (a_move_d (lq rfl) rfl) ?_
  refine sqa (a_assign_d (lq rfl) rfl) ?_
  refine sqa (a_assign_d (lq rfl) rfl) ?_
  refine sq_nil ?_
  refine avc_sq2 ?_
  refine avc_block ?_
  obtain ⟨y1, hy1, h'⟩ := bE h; clear h
  refine avc_tail (e := .exit 0) (S2 := ⟨[(5, .d (di y1))], []⟩) ?_ ?_
  ·
    refine avc_loopM (fun x => ⟨[(1, .d fv1), (5, .d (di x.1)), (6, .d (di x.2))], []⟩) hy1 (weak_cov ⟨rfl, rfl, rfl, trivial⟩ trivial) ?_
    rintro ⟨v5, v6⟩ sy1 hsy1
    replace hsy1 : sort_Search_L0 a1 v5 v6 = some sy1 := hsy1
    unfold sort_Search_L0 at hsy1
    refine avc_sq2 ?_
    refine avc_sq2 ?_
    refine avc_sq ?_
    refine sqa (a_move_d (lq rfl) rfl) ?_
    refine sqa (a_move_d (lq rfl) rfl) ?_
    refine sqa (a_lss (lq rfl) rfl rfl) ?_
    refine sq_nil ?_
    refine avc_if rfl ⟨fun c1 => ?_, fun c1 => ?_⟩
    · replace hsy1 := cT c1 hsy1
      refine avc_skip ?_
      obtain ⟨y2, hy2, hsy1'⟩ := bE hsy1; clear hsy1
      refine avc_tail (e := .normal) (S2 := ⟨[(1, .d fv1), (5, .d (di y2.1)), (6, .d (di y2.2))], []⟩) ?_ ?_
      ·
        refine avc_block ?_
        refine avc_sq2 ?_
        refine avc_sq ?_
        refine sqa (a_move_d (lq rfl) rfl) ?_
        refine sqa (a_move_d (lq rfl) rfl) ?_
        refine sqa (m_add (lq rfl) rfl rfl) ?_
        refine sqa (m_conv (lq rfl) Try.underlying3 Try.underlying62 rfl) ?_
        refine sqa (a_shr (m := 1) (lq rfl) rfl rfl (by decide)) ?_
        refine sqa (m_conv (lq rfl) Try.underlying62 Try.underlying3 rfl) ?_
        refine sqa (a_assign_d (lq rfl) rfl) ?_
        refine sq_nil ?_
        refine avc_sq2 ?_
        refine avc_sq ?_
        refine sqa (a_move_d (lq rfl) rfl) ?_
        refine sqa (a_move_d (lq rfl) rfl) ?_
        obtain ⟨t20, ht20, hy2'⟩ := bE hy2; clear hy2
        refine sqa (a_callF (lq rfl) rfl rfl (hf1 _ _ ht20)) ?_
        refine sqa (a_not (lq rfl) rfl) ?_
        refine sq_nil ?_
        refine avc_if rfl ⟨fun c2 => ?_, fun c2 => ?_⟩
        · replace hy2' := cT c2 hy2'
          refine avc_sq ?_
          refine sqa (a_move_d (lq rfl) rfl) ?_
          refine sqa (m_add (lq rfl) rfl rfl) ?_
          refine sqa (a_assign_d (lq rfl) rfl) ?_
          refine sq_nil ?_
          cases hy2'
          exact out_mk (weak_cov ⟨rfl, rfl, rfl, trivial⟩ trivial)
        · replace hy2' := cF c2 hy2'
          refine avc_sq ?_
          refine sqa (a_move_d (lq rfl) rfl) ?_
          refine sqa (a_assign_d (lq rfl) rfl) ?_
          refine sq_nil ?_
          cases hy2'
          exact out_mk (weak_cov ⟨rfl, rfl, rfl, trivial⟩ trivial)
      ·
        cases hsy1'
        exact weak_cov ⟨rfl, rfl, rfl, trivial⟩ trivial
    · replace hsy1 := cF c1 hsy1
      refine avc_exit ?_
      cases hsy1
      intro q; cases q
      exact out_mk (weak_cov ⟨rfl, trivial⟩ trivial)
  ·
    refine avc_sq2 ?_
    refine avc_sq ?_
    refine sqa (a_move_d (lq rfl) rfl) ?_
    refine sqa (a_assign_d (lq rfl) rfl) ?_
    refine sq_nil ?_
    cases h'
    refine avc_ret ?_
    exact ret_1 rfl

theorem property_Get_c  {a0 : Property} {a1 : Int}  {r : Int} (h : property_Get a0 a1 = some r) : Contract Try.prog 50 [(eProperty.dv a0), (di a1)] [(di r)] := by
  refine contract_of Try.func50 (by kernel_rfl) rfl (lq rfl) (lq rfl) fun w0 I0 => ?_
  unfold property_Get at h
  refine avc_sq2 ?_
  refine avc_sq ?_
  refine sqa (m_box (size := 2) (lq rfl) rfl rfl) ?_
  refine sqa (m_box (size := 1) (lq rfl) rfl rfl) ?_
  refine sqa (a_assign_d (lq rfl) rfl) ?_
  refine sq_nil ?_
  refine avc_sq2 ?_
  refine avc_sq ?_
  refine sqa (m_loadPt (lq rfl) G25 rfl rfl) ?_
  obtain ⟨t8, ht8, h'⟩ := bE h; clear h
  refine sqa (a_call (lq rfl) rfl (property_counted_c ht8)) ?_
  refine sqa (a_field (lq rfl) L25_1 O23 rfl rfl) ?_
  refine sq_b rfl (step_alloc (zs := [(.slice none 0 0)]) (lq rfl) (by kernel_rfl) rfl rfl) ?_
  refine sq_b rfl (s_store_box_d O23 rfl rfl (lq rfl) rfl rfl rfl) ?_
  refine sq_nil ?_
  refine avc_weak (weak_freeze (t := 5) (lq rfl) rfl rfl rfl) ?_
  refine avc_sq2 ?_
  refine avc_sq ?_
  refine sqa (m_loadPt1 (lq rfl) O23 rfl) ?_
  refine sqa (m_len (en := eSpan) (l := t8.Spans) (lq rfl) S23 rfl) ?_
  refine sqa (a_makeFunc (lq rfl) rfl) ?_
  obtain ⟨t13, ht13, h⟩ := bE h'; clear h'
  refine sqa (a_call (lq rfl) rfl (sort_Search_c (fun _ _ q => .inl ⟨_, _, rfl, property_Get_1_c q⟩) ht13)) ?_
  refine sqa (a_assign_d (lq rfl) rfl) ?_
  refine sq_nil ?_
  refine avc_sq2 ?_
  refine avc_sq2 ?_
  refine avc_drawA MX rfl ?_
  refine daa (a_move_d (lq rfl) rfl) ?_
  refine daa (m_loadPt1 (lq rfl) O23 rfl) ?_
  refine daa (m_len (en := eSpan) (l := t8.Spans) (lq rfl) S23 rfl) ?_
  refine daa (a_lss (lq rfl) rfl rfl) ?_
  obtain ⟨b18, hb18, h'⟩ := bE h; clear h
  refine daa ((a_move_d (lq rfl) rfl).bool (Option.some.inj hb18)) ?_
  refine da_g (x := .d (dsl eSpan t8.Spans)) rfl rfl rfl (lq rfl) (lq rfl) rfl (fun hb => by obtain rfl : b18 = true := hb; exact m_loadPt1 (lq rfl) O23 rfl) ?_
  refine da_g (x := .d (di t13)) rfl rfl rfl (lq rfl) (lq rfl) rfl (fun hb => by obtain rfl : b18 = true := hb; exact a_move_d (lq rfl) rfl) ?_
  obtain ⟨t21, ht21, h⟩ := bE h'; clear h'
  refine da_g (x := .ip (eSpan.all t8.Spans) (t13.toNat * eSpan.size)) rfl rfl rfl (lq rfl) (lq rfl) rfl (fun hb => by obtain rfl : b18 = true := hb; exact m_index (en := eSpan) (lq rfl) S23 rfl rfl ht21) ?_
  refine da_g (x := .ip (eSpan.all t8.Spans) (t13.toNat * eSpan.size + 0)) rfl rfl rfl (lq rfl) (lq rfl) rfl (fun hb => by obtain rfl : b18 = true := hb; exact a_fieldAddr_ip (lq rfl) L45_0 rfl) ?_
  refine da_g (x := .d (di t21.Lo)) rfl rfl rfl (lq rfl) (lq rfl) rfl (fun hb => by obtain rfl : b18 = true := hb; exact m_loadE (en := eSpan) (l := t8.Spans) (i := t13) (v := t21) (off := 0) (lq rfl) O3 rfl ht21 rfl) ?_
  refine da_g (x := .d (di a1)) rfl rfl rfl (lq rfl) (lq rfl) rfl (fun hb => by obtain rfl : b18 = true := hb; exact m_loadPt1 (lq rfl) O3 rfl) ?_
  refine da_g (x := .d (db (decide (t21.Lo ≤ a1)))) rfl rfl rfl (lq rfl) (lq rfl) rfl (fun hb => by obtain rfl : b18 = true := hb; exact a_leq (lq rfl) rfl rfl) ?_
  refine daa (a_pick_and (lq rfl) rfl rfl) ?_
  refine da_nil ?_
  refine avc_if rfl ⟨fun c1 => ?_, fun c1 => ?_⟩
  · replace h := cT c1 h
    refine avc_sq2 ?_
    refine avc_sq ?_
    refine sqa (m_loadPt1 (lq rfl) O23 rfl) ?_
    refine sqa (a_move_d (lq rfl) rfl) ?_
    obtain ⟨t29, ht29, h'⟩ := bE h; clear h
    refine sqa (m_index (en := eSpan) (lq rfl) S23 rfl rfl ht29) ?_
    refine sqa (a_fieldAddr_ip (lq rfl) L45_2 rfl) ?_
    refine sqa (m_loadE (en := eSpan) (l := t8.Spans) (i := t13) (v := t29) (off := 2) (lq rfl) O3 rfl ht29 rfl) ?_
    refine sqa (a_assign_d (lq rfl) rfl) ?_
    refine sq_nil ?_
    cases h'
    refine avc_ret ?_
    exact ret_1 rfl
  · replace h := cF c1 h
    refine avc_skip ?_
    refine avc_sq2 ?_
    refine avc_sq ?_
    refine sqa (a_assign_d (lq rfl) rfl) ?_
    refine sq_nil ?_
    cases h
    refine avc_ret ?_
    exact ret_1 rfl

theorem property_Name_c  {a0 : Property} {a1 : Int}  {r : Str} (h : property_Name a0 a1 = some r) : Contract Try.prog 42 [(eProperty.dv a0), (di a1)] [(ds r)] := by
  refine contract_of Try.func42 (by kernel_rfl) rfl (lq rfl) (lq rfl) fun w0 I0 => ?_
  unfold property_Name at h
  refine avc_sq2 ?_
  refine avc_sq ?_
  refine sqa (m_box (size := 2) (lq rfl) rfl rfl) ?_
  refine sqa (a_assign_d (lq rfl) rfl) ?_
  refine sq_nil ?_
  refine avc_sq2 ?_
  refine avc_drawA MX rfl ?_
  refine daa (m_loadPt (lq rfl) G25 rfl rfl) ?_
  obtain ⟨t6, ht6, h'⟩ := bE h; clear h
  refine daa (a_call (lq rfl) rfl (property_counted_c ht6)) ?_
  refine daa (a_field (lq rfl) L25_0 O22 rfl rfl) ?_
  refine daa (m_loadPt (lq rfl) G25 rfl rfl) ?_
  refine daa (a_move_d (lq rfl) rfl) ?_
  obtain ⟨t10, ht10, h⟩ := bE h'; clear h'
  refine daa (a_call (lq rfl) rfl (property_Get_c ht10)) ?_
  obtain ⟨t11, ht11, h'⟩ := bE h; clear h
  refine daa (m_index (en := eS) (lq rfl) S22 rfl rfl ht11) ?_
  refine daa (m_loadE (en := eS) (l := t6.Names) (i := t10) (v := t11) (off := 0) (lq rfl) O9 rfl ht11 rfl) ?_
  refine daa (a_assign_d (lq rfl) rfl) ?_
  refine da_nil ?_
  cases h'
  refine avc_ret ?_
  exact ret_1 rfl

theorem scripts_realScripts_g  {a0 : Property} {a1 : (List Int)}  {r : (List Str)} (h : scripts_realScripts a0 a1 = some r) : GC Try.prog 28 [.d (eProperty.dv a0), .d (dsl eI a1)] [] [] [.row 14] [(14, .row 9 eS.size false (eS.all r))] := by
  refine gc_of Try.func28 (by kernel_rfl) rfl (lq rfl) (lq rfl) fun w0 I0 p0 => ?_
  unfold scripts_realScripts at h
  refine avc_sq2 ?_
  refine avc_sq ?_
  refine sqa (m_box (size := 2) (lq rfl) rfl rfl) ?_
  refine sqa (a_assign_d (lq rfl) rfl) ?_
  refine sq_nil ?_
  refine avc_sq2 ?_
  refine avc_sq ?_
  refine sq_b rfl (m_makeMap (lq rfl) rfl) ?_
  refine sqa (a_assign_row (lq rfl) rfl) ?_
  refine sq_nil ?_
  refine avc_sq2 ?_
  refine avc_sq ?_
  refine sqa (a_move_d (lq rfl) rfl) ?_
  refine sqa (m_len (en := eI) (l := a1) (lq rfl) S26 rfl) ?_
  obtain ⟨r14, hr14, h'⟩ := bE h; clear h
  refine sq_b rfl (m_make (en := eS) (lq rfl) S22 rfl rfl hr14 (by decide) rfl) ?_
  refine sqa (a_assign_row (lq rfl) rfl) ?_
  refine sq_nil ?_
  refine avc_sq2 ?_
  refine avc_sq2 ?_
  refine avc_sq ?_
  refine sqa (a_move_d (lq rfl) rfl) ?_
  refine sqa (m_len (en := eI) (l := a1) (lq rfl) S26 rfl) ?_
  refine sqa (a_move_d (lq rfl) rfl) ?_
  refine sq_nil ?_
  refine avc_block ?_
  obtain ⟨y1, hy1, h⟩ := bE h'; clear h'
  refine avc_tail (e := .exit 0) (S2 := ⟨[(6, .row 14)], [(14, .row 9 eS.size false (eS.all y1))]⟩) ?_ ?_
  ·
    refine avc_loopM (fun x => ⟨[(2, .d (.pt (eProperty.cells a0))), (5, .row 11), (6, .row 14), (15, .d (dsl eI a1)), (16, .d (di (a1.length : Int))), (17, .d (di x.1))], [(11, .map (mapE kI eS x.2.1)), (14, .row 9 eS.size false (eS.all x.2.2))]⟩) hy1 (weak_cov ⟨rfl, rfl, rfl, rfl, rfl, rfl, trivial⟩ ⟨rfl, rfl, trivial⟩) ?_
    rintro ⟨v17, r11, r14⟩ sy1 hsy1
    replace hsy1 : scripts_realScripts_L0 a1 a0 v17 r11 r14 = some sy1 := hsy1
    unfold scripts_realScripts_L0 at hsy1
    refine avc_sq2 ?_
    refine avc_sq ?_
    refine sqa (a_lss (lq rfl) rfl rfl) ?_
    refine sq_nil ?_
    refine avc_sq2 ?_
    refine avc_if rfl ⟨fun c1 => ?_, fun c1 => ?_⟩
    · replace hsy1 := cT c1 hsy1
      refine avc_skip ?_
      refine avc_sq2 ?_
      refine avc_block ?_
      refine avc_sq2 ?_
      refine avc_sq ?_
      refine sqa (a_move_d (lq rfl) rfl) ?_
      obtain ⟨t20, ht20, hsy1'⟩ := bE hsy1; clear hsy1
      refine sqa (m_index (en := eI) (lq rfl) S26 rfl rfl ht20) ?_
      refine sqa (m_loadE (en := eI) (l := a1) (i := v17) (v := t20) (off := 0) (lq rfl) O3 rfl ht20 rfl) ?_
      refine sqa (a_assign_d (lq rfl) rfl) ?_
      refine sqa (a_assign_d (lq rfl) rfl) ?_
      refine sq_nil ?_
      refine avc_sq2 ?_
      refine avc_sq ?_
      refine sqa (a_move_row (lq rfl) rfl) ?_
      refine sqa (a_move_d (lq rfl) rfl) ?_
      refine sqa (m_lookup2 (kv := kI) (ev := eS) (mp := r11) (k := t20) (zero := []) (lq rfl) M58 K3 rfl rfl rfl (fun _ _ => .v _)) ?_
      refine sqa (a_move_tup (lq rfl) rfl) ?_
      refine sqa (a_extract (lq rfl) rfl rfl) ?_
      refine sqa (a_extract (lq rfl) rfl rfl) ?_
      refine sqa (a_assign_d (lq rfl) rfl) ?_
      refine sqa (a_assign_d (lq rfl) rfl) ?_
      refine sq_nil ?_
      refine avc_sq2 ?_
      refine avc_sq2 ?_
      refine avc_sq ?_
      refine sqa (a_move_d (lq rfl) rfl) ?_
      refine sqa (a_not (lq rfl) rfl) ?_
      refine sq_nil ?_
      obtain ⟨y2, hy2, hsy1⟩ := bE hsy1'; clear hsy1'
      refine avc_tail (e := .normal) (S2 := ⟨[(2, .d (.pt (eProperty.cells a0))), (5, .row 11), (6, .row 14), (7, .d (di v17)), (9, .d (ds y2.1)), (15, .d (dsl eI a1)), (16, .d (di (a1.length : Int))), (17, .d (di v17))], [(11, .map (mapE kI eS y2.2)), (14, .row 9 eS.size false (eS.all r14))]⟩) ?_ ?_
      ·
        refine avc_if rfl ⟨fun c2 => ?_, fun c2 => ?_⟩
        · replace hy2 := cT c2 hy2
          refine avc_sq2 ?_
          refine avc_sq ?_
          refine sqa (m_loadPt (lq rfl) G25 rfl rfl) ?_
          refine sqa (a_move_d (lq rfl) rfl) ?_
          obtain ⟨t32, ht32, hy2'⟩ := bE hy2; clear hy2
          refine sqa (a_call (lq rfl) rfl (property_Name_c ht32)) ?_
          refine sqa (a_assign_d (lq rfl) rfl) ?_
          refine sq_nil ?_
          refine avc_sq2 ?_
          refine avc_sq2 ?_
          refine avc_sq ?_
          refine sqa (a_move_d (lq rfl) rfl) ?_
          refine sq_nil ?_
          obtain ⟨y3, hy3, hy2⟩ := bE hy2'; clear hy2'
          refine avc_tail (e := .normal) (S2 := ⟨[(2, .d (.pt (eProperty.cells a0))), (5, .row 11), (6, .row 14), (7, .d (di v17)), (8, .d (di t20)), (9, .d (ds y3)), (15, .d (dsl eI a1)), (16, .d (di (a1.length : Int))), (17, .d (di v17))], [(11, .map (mapE kI eS r11)), (14, .row 9 eS.size false (eS.all r14))]⟩) ?_ ?_
          ·
            refine avc_block ?_
            refine avc_sq2 ?_
            refine avc_sq2 ?_
            refine avc_sq ?_
            refine sqa (m_seql (a := t32) (b := [67, 111, 109, 109, 111, 110]) (lq rfl) rfl rfl) ?_
            refine sqa (a_assign_d (lq rfl) rfl) ?_
            refine sq_nil ?_
            obtain ⟨y4, hy4, hy3'⟩ := bE hy3; clear hy3
            refine avc_tail (e := .normal) (S2 := ⟨[(2, .d (.pt (eProperty.cells a0))), (5, .row 11), (6, .row 14), (7, .d (di v17)), (8, .d (di t20)), (9, .d (ds t32)), (15, .d (dsl eI a1)), (16, .d (di (a1.length : Int))), (17, .d (di v17)), (34, .d (db y4))], [(11, .map (mapE kI eS r11)), (14, .row 9 eS.size false (eS.all r14))]⟩) ?_ ?_
            ·
              refine avc_if rfl ⟨fun c3 => ?_, fun c3 => ?_⟩
              · replace hy4 := cT c3 hy4
                refine avc_skip ?_
                cases hy4
                exact out_mk (weak_cov ⟨rfl, rfl, rfl, rfl, rfl, rfl, rfl, rfl, rfl, rfl, trivial⟩ ⟨rfl, rfl, trivial⟩)
              · replace hy4 := cF c3 hy4
                refine avc_sq2 ?_
                refine avc_sq ?_
                refine sqa (m_seql (a := t32) (b := [73, 110, 104, 101, 114, 105, 116, 101, 100]) (lq rfl) rfl rfl) ?_
                refine sqa (a_assign_d (lq rfl) rfl) ?_
                refine sq_nil ?_
                refine avc_if rfl ⟨fun c4 => ?_, fun c4 => ?_⟩
                · replace hy4 := cT c4 hy4
                  refine avc_skip ?_
                  cases hy4
                  exact out_mk (weak_cov ⟨rfl, rfl, rfl, rfl, rfl, rfl, rfl, rfl, rfl, rfl, trivial⟩ ⟨rfl, rfl, trivial⟩)
                · replace hy4 := cF c4 hy4
                  refine avc_sq ?_
                  refine sqa (m_seql (a := t32) (b := [79, 116, 104, 101, 114]) (lq rfl) rfl rfl) ?_
                  refine sqa (a_assign_d (lq rfl) rfl) ?_
                  refine sq_nil ?_
                  cases hy4
                  exact out_mk (weak_cov ⟨rfl, rfl, rfl, rfl, rfl, rfl, rfl, rfl, rfl, rfl, trivial⟩ ⟨rfl, rfl, trivial⟩)
            ·
              refine avc_if rfl ⟨fun c5 => ?_, fun c5 => ?_⟩
              · replace hy3' := cT c5 hy3'
                refine avc_sq ?_
                refine sqa (a_assign_d (lq rfl) rfl) ?_
                refine sq_nil ?_
                cases hy3'
                exact out_mk (weak_cov ⟨rfl, rfl, rfl, rfl, rfl, rfl, rfl, rfl, rfl, trivial⟩ ⟨rfl, rfl, trivial⟩)
              · replace hy3' := cF c5 hy3'
                refine avc_skip ?_
                cases hy3'
                exact out_mk (weak_cov ⟨rfl, rfl, rfl, rfl, rfl, rfl, rfl, rfl, rfl, trivial⟩ ⟨rfl, rfl, trivial⟩)
          ·
            refine avc_sq ?_
            refine sqa (a_move_row (lq rfl) rfl) ?_
            refine sqa (a_move_d (lq rfl) rfl) ?_
            refine sqa (a_move_d (lq rfl) rfl) ?_
            refine sq_b rfl (m_mapUpdate (kv := kI) (ev := eS) (mp := r11) (k := t20) (v := y3) M58 K3 rfl rfl rfl rfl rfl rfl) ?_
            refine sq_nil ?_
            cases hy2
            exact out_mk (weak_cov ⟨rfl, rfl, rfl, rfl, rfl, rfl, rfl, rfl, trivial⟩ ⟨rfl, rfl, trivial⟩)
        · replace hy2 := cF c2 hy2
          refine avc_skip ?_
          cases hy2
          exact out_mk (weak_cov ⟨rfl, rfl, rfl, rfl, rfl, rfl, rfl, rfl, trivial⟩ ⟨rfl, rfl, trivial⟩)
      ·
        refine avc_sq ?_
        refine sqa (a_move_row (lq rfl) rfl) ?_
        refine sqa (a_move_d (lq rfl) rfl) ?_
        refine sqa (a_move_d (lq rfl) rfl) ?_
        obtain ⟨t44, ht44, hsy1'⟩ := bE hsy1; clear hsy1
        refine sqa (m_indexR (en := eS) (l := r14) (lq rfl) S22 rfl rfl rfl ht44) ?_
        obtain ⟨r14_5, hr14_5, hsy1⟩ := bE hsy1'; clear hsy1'
        refine sq_b rfl (m_store (en := eS) (l := r14) (i := v17) (v := t44) (off := 0) O9 rfl rfl rfl ht44 rfl (by decide) hr14_5 rfl rfl) ?_
        refine sq_nil ?_
        refine avc_sq ?_
        refine sqa (m_add (lq rfl) rfl rfl) ?_
        refine sqa (a_move_d (lq rfl) rfl) ?_
        refine sq_nil ?_
        cases hsy1
        exact weak_cov ⟨rfl, rfl, rfl, rfl, rfl, rfl, trivial⟩ ⟨rfl, rfl, trivial⟩
    · replace hsy1 := cF c1 hsy1
      refine avc_exit ?_
      cases hsy1
      intro q; cases q
      exact out_mk (weak_cov ⟨rfl, trivial⟩ ⟨rfl, trivial⟩)
  ·
    refine avc_sq2 ?_
    refine avc_sq ?_
    refine sqa (a_move_row (lq rfl) rfl) ?_
    refine sqa (a_assign_row (lq rfl) rfl) ?_
    refine sq_nil ?_
    cases h
    refine avc_ret ?_
    exact ⟨⟨_, _, rfl, rfl, rfl⟩, ⟨rfl, trivial⟩⟩

theorem scripts_resolved_c  {a0 : Property} {a1 : (List Int)}  {r : (List Str)} (h : scripts_resolved a0 a1 = some r) : Contract Try.prog 32 [(eProperty.dv a0), (dsl eI a1)] [(dsl eS r)] := by
  refine contract_of Try.func32 (by kernel_rfl) rfl (lq rfl) (lq rfl) fun w0 I0 => ?_
  unfold scripts_resolved at h
  refine avc_sq2 ?_
  refine avc_sq ?_
  refine sqa (m_box (size := 2) (lq rfl) rfl rfl) ?_
  refine sqa (a_assign_d (lq rfl) rfl) ?_
  refine sq_nil ?_
  refine avc_sq2 ?_
  refine avc_sq ?_
  refine sqa (m_loadPt (lq rfl) G25 rfl rfl) ?_
  refine sqa (a_move_d (lq rfl) rfl) ?_
  obtain ⟨t13, ht13, h'⟩ := bE h; clear h
  refine sq_b rfl (g_call [(14, 2513)] (scripts_realScripts_g ht13) (lq rfl) (by decide) ⟨rfl, rfl, trivial⟩ rfl rfl trivial rfl rfl rfl (fun _ => rfl) rfl) ?_
  refine sqa (a_assign_row (lq rfl) rfl) ?_
  refine sq_nil ?_
  refine avc_sq2 ?_
  refine avc_sq ?_
  refine sqa (a_assign_d (lq rfl) rfl) ?_
  refine sq_nil ?_
  refine avc_sq2 ?_
  refine avc_sq2 ?_
  refine avc_sq ?_
  refine sqa (a_move_row (lq rfl) rfl) ?_
  refine sqa (m_lenR (en := eS) (l := t13) (lq rfl) S22 rfl rfl) ?_
  refine sqa (a_move_d (lq rfl) rfl) ?_
  refine sq_nil ?_
  refine avc_block ?_
  obtain ⟨y1, hy1, h⟩ := bE h'; clear h'
  refine avc_tail (e := .exit 0) (S2 := ⟨[(5, .row 2513), (6, .d (ds y1))], [(2513, .row 9 eS.size false (eS.all t13))]⟩) ?_ ?_
  ·
    refine avc_loopM (fun x => ⟨[(5, .row 2513), (6, .d (ds [])), (14, .row 2513), (15, .d (di (t13.length : Int))), (16, .d (di x))], [(2513, .row 9 eS.size false (eS.all t13))]⟩) hy1 (weak_cov ⟨rfl, rfl, rfl, rfl, rfl, trivial⟩ ⟨rfl, trivial⟩) ?_
    rintro v16 sy1 hsy1
    replace hsy1 : scripts_resolved_L0 t13 v16 = some sy1 := hsy1
    unfold scripts_resolved_L0 at hsy1
    refine avc_sq2 ?_
    refine avc_sq ?_
    refine sqa (a_lss (lq rfl) rfl rfl) ?_
    refine sq_nil ?_
    refine avc_sq2 ?_
    refine avc_if rfl ⟨fun c1 => ?_, fun c1 => ?_⟩
    · replace hsy1 := cT c1 hsy1
      refine avc_skip ?_
      refine avc_sq2 ?_
      refine avc_block ?_
      refine avc_sq2 ?_
      refine avc_sq ?_
      obtain ⟨t18, ht18, hsy1'⟩ := bE hsy1; clear hsy1
      refine sqa (m_indexR (en := eS) (l := t13) (lq rfl) S22 rfl rfl rfl ht18) ?_
      refine sqa (m_loadER (en := eS) (l := t13) (i := v16) (v := t18) (off := 0) (lq rfl) O9 rfl rfl ht18 rfl) ?_
      refine sqa (a_assign_d (lq rfl) rfl) ?_
      refine sq_nil ?_
      refine avc_sq2 ?_
      refine avc_sq ?_
      refine sqa (a_move_d (lq rfl) rfl) ?_
      refine sqa (m_sneq (a := t18) (b := []) (lq rfl) rfl rfl) ?_
      refine sq_nil ?_
      refine avc_if rfl ⟨fun c2 => ?_, fun c2 => ?_⟩
      · replace hsy1' := cT c2 hsy1'
        refine avc_sq2 ?_
        refine avc_sq ?_
        refine sqa (a_move_d (lq rfl) rfl) ?_
        refine sqa (a_assign_d (lq rfl) rfl) ?_
        refine sq_nil ?_
        refine avc_exit ?_
        cases hsy1'
        intro q; cases q
        exact out_mk (weak_cov ⟨rfl, rfl, trivial⟩ ⟨rfl, trivial⟩)
      · replace hsy1' := cF c2 hsy1'
        refine avc_skip ?_
        refine avc_sq ?_
        refine sqa (m_add (lq rfl) rfl rfl) ?_
        refine sqa (a_move_d (lq rfl) rfl) ?_
        refine sq_nil ?_
        cases hsy1'
        exact weak_cov ⟨rfl, rfl, rfl, rfl, rfl, trivial⟩ ⟨rfl, trivial⟩
    · replace hsy1 := cF c1 hsy1
      refine avc_exit ?_
      cases hsy1
      intro q; cases q
      exact out_mk (weak_cov ⟨rfl, rfl, trivial⟩ ⟨rfl, trivial⟩)
  ·
    refine avc_sq2 ?_
    refine avc_sq2 ?_
    refine avc_sq ?_
    refine sqa (a_move_row (lq rfl) rfl) ?_
    refine sqa (m_lenR (en := eS) (l := t13) (lq rfl) S22 rfl rfl) ?_
    refine sqa (a_move_d (lq rfl) rfl) ?_
    refine sq_nil ?_
    refine avc_block ?_
    obtain ⟨y2, hy2, h'⟩ := bE h; clear h
    refine avc_tail (e := .exit 2) (S2 := ⟨[(5, .row 2513)], [(2513, .row 9 eS.size false (eS.all y2))]⟩) ?_ ?_
    ·
      refine avc_loopM (fun x => ⟨[(5, .row 2513), (6, .d (ds x.1)), (24, .row 2513), (25, .d (di (t13.length : Int))), (26, .d (di x.2.1))], [(2513, .row 9 eS.size false (eS.all x.2.2))]⟩) hy2 (weak_cov ⟨rfl, rfl, rfl, rfl, rfl, trivial⟩ ⟨rfl, trivial⟩) ?_
      rintro ⟨v6, v26, r2513⟩ sy2 hsy2
      replace hsy2 : scripts_resolved_L1 t13 v6 v26 r2513 = some sy2 := hsy2
      unfold scripts_resolved_L1 at hsy2
      refine avc_sq2 ?_
      refine avc_sq ?_
      refine sqa (a_lss (lq rfl) rfl rfl) ?_
      refine sq_nil ?_
      refine avc_sq2 ?_
      refine avc_if rfl ⟨fun c3 => ?_, fun c3 => ?_⟩
      · replace hsy2 := cT c3 hsy2
        refine avc_skip ?_
        refine avc_sq2 ?_
        refine avc_block ?_
        refine avc_sq2 ?_
        refine avc_sq ?_
        refine sqa (a_move_d (lq rfl) rfl) ?_
        obtain ⟨t29, ht29, hsy2'⟩ := bE hsy2; clear hsy2
        refine sqa (m_indexR (en := eS) (l := r2513) (lq rfl) S22 rfl rfl rfl ht29) ?_
        refine sqa (m_loadER (en := eS) (l := r2513) (i := v26) (v := t29) (off := 0) (lq rfl) O9 rfl rfl ht29 rfl) ?_
        refine sqa (a_assign_d (lq rfl) rfl) ?_
        refine sqa (a_assign_d (lq rfl) rfl) ?_
        refine sq_nil ?_
        refine avc_sq2 ?_
        refine avc_sq2 ?_
        refine avc_sq ?_
        refine sqa (a_move_d (lq rfl) rfl) ?_
        refine sqa (m_sneq (a := t29) (b := []) (lq rfl) rfl rfl) ?_
        refine sq_nil ?_
        obtain ⟨y3, hy3, hsy2⟩ := bE hsy2'; clear hsy2'
        refine avc_tail (e := .normal) (S2 := ⟨[(5, .row 2513), (6, .d (ds y3)), (9, .d (di v26)), (24, .row 2513), (25, .d (di (t13.length : Int))), (26, .d (di v26))], [(2513, .row 9 eS.size false (eS.all r2513))]⟩) ?_ ?_
        ·
          refine avc_if rfl ⟨fun c4 => ?_, fun c4 => ?_⟩
          · replace hy3 := cT c4 hy3
            refine avc_sq ?_
            refine sqa (a_move_d (lq rfl) rfl) ?_
            refine sqa (a_assign_d (lq rfl) rfl) ?_
            refine sq_nil ?_
            cases hy3
            exact out_mk (weak_cov ⟨rfl, rfl, rfl, rfl, rfl, rfl, trivial⟩ ⟨rfl, trivial⟩)
          · replace hy3 := cF c4 hy3
            refine avc_skip ?_
            cases hy3
            exact out_mk (weak_cov ⟨rfl, rfl, rfl, rfl, rfl, rfl, trivial⟩ ⟨rfl, trivial⟩)
        ·
          refine avc_sq ?_
          refine sqa (a_move_row (lq rfl) rfl) ?_
          refine sqa (a_move_d (lq rfl) rfl) ?_
          refine sqa (a_move_d (lq rfl) rfl) ?_
          obtain ⟨t37, ht37, hsy2'⟩ := bE hsy2; clear hsy2
          refine sqa (m_indexR (en := eS) (l := r2513) (lq rfl) S22 rfl rfl rfl ht37) ?_
          obtain ⟨r2513_4, hr2513_4, hsy2⟩ := bE hsy2'; clear hsy2'
          refine sq_b rfl (m_store (en := eS) (l := r2513) (i := v26) (v := t37) (off := 0) O9 rfl rfl rfl ht37 rfl (by decide) hr2513_4 rfl rfl) ?_
          refine sq_nil ?_
          refine avc_sq ?_
          refine sqa (m_add (lq rfl) rfl rfl) ?_
          refine sqa (a_move_d (lq rfl) rfl) ?_
          refine sq_nil ?_
          cases hsy2
          exact weak_cov ⟨rfl, rfl, rfl, rfl, rfl, trivial⟩ ⟨rfl, trivial⟩
      · replace hsy2 := cF c3 hsy2
        refine avc_exit ?_
        cases hsy2
        intro q; cases q
        exact out_mk (weak_cov ⟨rfl, trivial⟩ ⟨rfl, trivial⟩)
    ·
      refine avc_sq2 ?_
      refine avc_sq ?_
      refine sqa (a_move_row (lq rfl) rfl) ?_
      refine sqa (a_assign_row (lq rfl) rfl) ?_
      refine sq_nil ?_
      cases h'
      refine avc_ret ?_
      exact ret_1 rfl

theorem scripts_runs_string_c  {a0 : (List Str)}  {r : (List Range)} (h : scripts_runs_string a0 = some r) : Contract Try.prog 31 [(dsl eS a0)] [(dsl eRange r)] := by
  refine contract_of Try.func31 (by kernel_rfl) rfl (lq rfl) (lq rfl) fun w0 I0 => ?_
  unfold scripts_runs_string at h
  refine avc_sq2 ?_
  refine avc_sq ?_
  refine sqa (a_assign_d (lq rfl) rfl) ?_
  refine sq_nil ?_
  refine avc_sq2 ?_
  refine avc_sq ?_
  refine sqa (a_assign_d (lq rfl) rfl) ?_
  refine sq_nil ?_
  refine avc_weak (weak_nil (t := 3) 1003 38 eRange.size (lq rfl) (lq rfl) rfl rfl) ?_
  refine avc_sq2 ?_
  refine avc_sq ?_
  refine sqa (a_assign_d (lq rfl) rfl) ?_
  refine sq_nil ?_
  refine avc_sq2 ?_
  refine avc_sq2 ?_
  refine avc_sq ?_
  refine sqa (a_move_d (lq rfl) rfl) ?_
  refine sqa (m_len (en := eS) (l := a0) (lq rfl) S22 rfl) ?_
  refine sqa (a_move_d (lq rfl) rfl) ?_
  refine sq_nil ?_
  refine avc_block ?_
  obtain ⟨y1, hy1, h'⟩ := bE h; clear h
  refine avc_tail (e := .exit 0) (S2 := ⟨[(3, .row 1003)], [(1003, .row 38 eRange.size false (eRange.all y1))]⟩) ?_ ?_
  ·
    refine avc_loopM (fun x => ⟨[(0, .d (dsl eS a0)), (3, .row 1003), (4, .d (di x.1)), (7, .d (di (a0.length : Int))), (8, .d (di x.2.1))], [(1003, .row 38 eRange.size false (eRange.all x.2.2))]⟩) hy1 (weak_cov ⟨rfl, rfl, rfl, rfl, rfl, trivial⟩ ⟨rfl, trivial⟩) ?_
    rintro ⟨v4, v8, r1003⟩ sy1 hsy1
    replace hsy1 : scripts_runs_string_L0 a0 v4 v8 r1003 = some sy1 := hsy1
    unfold scripts_runs_string_L0 at hsy1
    refine avc_sq2 ?_
    refine avc_sq ?_
    refine sqa (a_lss (lq rfl) rfl rfl) ?_
    refine sq_nil ?_
    refine avc_sq2 ?_
    refine avc_if rfl ⟨fun c1 => ?_, fun c1 => ?_⟩
    · replace hsy1 := cT c1 hsy1
      refine avc_skip ?_
      refine avc_sq2 ?_
      obtain ⟨y2, hy2, hsy1'⟩ := bE hsy1; clear hsy1
      refine avc_tail (e := .normal) (S2 := ⟨[(0, .d (dsl eS a0)), (3, .row 1003), (4, .d (di y2.1)), (7, .d (di (a0.length : Int))), (8, .d (di v8))], [(1003, .row 38 eRange.size false (eRange.all y2.2))]⟩) ?_ ?_
      ·
        refine avc_block ?_
        refine avc_sq2 ?_
        refine avc_sq ?_
        refine sqa (a_move_d (lq rfl) rfl) ?_
        refine sqa (a_assign_d (lq rfl) rfl) ?_
        refine sq_nil ?_
        refine avc_sq2 ?_
        refine avc_drawA MX rfl ?_
        refine daa (a_move_d (lq rfl) rfl) ?_
        refine daa (m_add (lq rfl) rfl rfl) ?_
        refine daa (a_move_d (lq rfl) rfl) ?_
        refine daa (m_len (en := eS) (l := a0) (lq rfl) S22 rfl) ?_
        refine daa (a_eql (lq rfl) rfl rfl) ?_
        obtain ⟨b16, hb16, hy2'⟩ := bE hy2; clear hy2
        refine daa ((a_move_d (lq rfl) rfl).bool (Option.some.inj hb16)) ?_
        refine da_g (x := .d (dsl eS a0)) rfl rfl rfl (lq rfl) (lq rfl) rfl (fun hb => by obtain rfl := gF hb; exact a_move_d (lq rfl) rfl) ?_
        refine da_g (x := .d (di v8)) rfl rfl rfl (lq rfl) (lq rfl) rfl (fun hb => by obtain rfl := gF hb; exact a_move_d (lq rfl) rfl) ?_
        refine da_g (x := .d (di (wi (v8 + 1)))) rfl rfl rfl (lq rfl) (lq rfl) rfl (fun hb => by obtain rfl := gF hb; exact m_add (lq rfl) rfl rfl) ?_
        obtain ⟨t20, ht20, hy2⟩ := bE hy2'; clear hy2'
        refine da_g (x := .ip (eS.all a0) ((wi (v8 + 1)).toNat * eS.size)) rfl rfl rfl (lq rfl) (lq rfl) rfl (fun hb => by obtain rfl := gF hb; exact m_index (en := eS) (lq rfl) S22 rfl rfl ht20) ?_
        refine da_g (x := .d (ds t20)) rfl rfl rfl (lq rfl) (lq rfl) rfl (fun hb => by obtain rfl := gF hb; exact m_loadE (en := eS) (l := a0) (i := (wi (v8 + 1))) (v := t20) (off := 0) (lq rfl) O9 rfl ht20 rfl) ?_
        refine da_g (x := .d (dsl eS a0)) rfl rfl rfl (lq rfl) (lq rfl) rfl (fun hb => by obtain rfl := gF hb; exact a_move_d (lq rfl) rfl) ?_
        refine da_g (x := .d (di v8)) rfl rfl rfl (lq rfl) (lq rfl) rfl (fun hb => by obtain rfl := gF hb; exact a_move_d (lq rfl) rfl) ?_
        obtain ⟨t24, ht24, hy2'⟩ := bE hy2; clear hy2
        refine da_g (x := .ip (eS.all a0) (v8.toNat * eS.size)) rfl rfl rfl (lq rfl) (lq rfl) rfl (fun hb => by obtain rfl := gF hb; exact m_index (en := eS) (lq rfl) S22 rfl rfl ht24) ?_
        refine da_g (x := .d (ds t24)) rfl rfl rfl (lq rfl) (lq rfl) rfl (fun hb => by obtain rfl := gF hb; exact m_loadE (en := eS) (l := a0) (i := v8) (v := t24) (off := 0) (lq rfl) O9 rfl ht24 rfl) ?_
        refine da_g (x := .d (db (!(t20 == t24)))) rfl rfl rfl (lq rfl) (lq rfl) rfl (fun hb => by obtain rfl := gF hb; exact m_sneq (a := t20) (b := t24) (lq rfl) rfl rfl) ?_
        refine daa (a_pick_or (lq rfl) rfl rfl) ?_
        refine da_nil ?_
        refine avc_if rfl ⟨fun c2 => ?_, fun c2 => ?_⟩
        · replace hy2' := cT c2 hy2'
          refine avc_sq2 ?_
          refine avc_sq ?_
          refine sqa (a_move_row (lq rfl) rfl) ?_
          refine sqa (a_move_d (lq rfl) rfl) ?_
          refine sqa (a_move_d (lq rfl) rfl) ?_
          refine sqa (m_add (lq rfl) rfl rfl) ?_
          refine sqa (m_build (lq rfl) B38 rfl rfl) ?_
          refine sqa (a_lit (lq rfl) S32 rfl rfl rfl rfl (by decide) rfl) ?_
          obtain ⟨r1003_3, hr1003_3, hy2⟩ := bE hy2'; clear hy2'
          refine sq_b rfl (m_append (en := eRange) (l := r1003) (m := [({ Lo := v4, Hi := wi (v8 + 1) } : Range)]) (lq rfl) S32 rfl rfl rfl hr1003_3 (by decide) (by decide) rfl rfl) ?_
          refine sqa (a_assign_row (lq rfl) rfl) ?_
          refine sq_nil ?_
          refine avc_sq ?_
          refine sqa (a_move_d (lq rfl) rfl) ?_
          refine sqa (m_add (lq rfl) rfl rfl) ?_
          refine sqa (a_assign_d (lq rfl) rfl) ?_
          refine sq_nil ?_
          cases hy2
          exact out_mk (weak_cov ⟨rfl, rfl, rfl, rfl, rfl, trivial⟩ ⟨rfl, trivial⟩)
        · replace hy2' := cF c2 hy2'
          refine avc_skip ?_
          cases hy2'
          exact out_mk (weak_cov ⟨rfl, rfl, rfl, rfl, rfl, trivial⟩ ⟨rfl, trivial⟩)
      ·
        refine avc_sq ?_
        refine sqa (m_add (lq rfl) rfl rfl) ?_
        refine sqa (a_move_d (lq rfl) rfl) ?_
        refine sq_nil ?_
        cases hsy1'
        exact weak_cov ⟨rfl, rfl, rfl, rfl, rfl, trivial⟩ ⟨rfl, trivial⟩
    · replace hsy1 := cF c1 hsy1
      refine avc_exit ?_
      cases hsy1
      intro q; cases q
      exact out_mk (weak_cov ⟨rfl, trivial⟩ ⟨rfl, trivial⟩)
  ·
    refine avc_sq2 ?_
    refine avc_sq ?_
    refine sqa (a_move_row (lq rfl) rfl) ?_
    refine sqa (a_assign_row (lq rfl) rfl) ?_
    refine sq_nil ?_
    cases h'
    refine avc_ret ?_
    exact ret_1 rfl

theorem scripts_Runs_c  {a0 : Property} {a1 : (List Int)}  {r : (List Range)} (h : scripts_Runs a0 a1 = some r) : Contract Try.prog 18 [(eProperty.dv a0), (dsl eI a1)] [(dsl eRange r)] := by
  refine contract_of Try.func18 (by kernel_rfl) rfl (lq rfl) (lq rfl) fun w0 I0 => ?_
  unfold scripts_Runs at h
  refine avc_sq2 ?_
  refine avc_sq ?_
  refine sqa (m_box (size := 2) (lq rfl) rfl rfl) ?_
  refine sqa (a_assign_d (lq rfl) rfl) ?_
  refine sq_nil ?_
  refine avc_sq2 ?_
  refine avc_sq ?_
  refine sqa (m_loadPt (lq rfl) G25 rfl rfl) ?_
  refine sqa (a_move_d (lq rfl) rfl) ?_
  obtain ⟨t7, ht7, h'⟩ := bE h; clear h
  refine sqa (a_call (lq rfl) rfl (scripts_resolved_c ht7)) ?_
  obtain ⟨t8, ht8, h⟩ := bE h'; clear h'
  refine sqa (a_call (lq rfl) rfl (scripts_runs_string_c ht8)) ?_
  refine sqa (a_assign_d (lq rfl) rfl) ?_
  refine sq_nil ?_
  cases h
  refine avc_ret ?_
  exact ret_1 rfl

theorem ref30_SameRanges_c  {a0 : (List Range)} {a1 : (List Range)}  {r : Bool} (h : ref30_SameRanges a0 a1 = some r) : Contract Try.prog 17 [(dsl eRange a0), (dsl eRange a1)] [(db r)] := by
  refine contract_of Try.func17 (by kernel_rfl) rfl (lq rfl) (lq rfl) fun w0 I0 => ?_
  unfold ref30_SameRanges at h
  refine avc_sq2 ?_
  refine avc_sq ?_
  refine sqa (a_assign_d (lq rfl) rfl) ?_
  refine sq_nil ?_
  refine avc_sq2 ?_
  refine avc_sq2 ?_
  refine avc_sq ?_
  refine sqa (a_move_d (lq rfl) rfl) ?_
  refine sqa (m_len (en := eRange) (l := a0) (lq rfl) S32 rfl) ?_
  refine sqa (a_move_d (lq rfl) rfl) ?_
  refine sqa (m_len (en := eRange) (l := a1) (lq rfl) S32 rfl) ?_
  refine sqa (a_neq (lq rfl) rfl rfl) ?_
  refine sq_nil ?_
  refine avc_if rfl ⟨fun c1 => ?_, fun c1 => ?_⟩
  · replace h := cT c1 h
    refine avc_sq2 ?_
    refine avc_sq ?_
    refine sqa (a_assign_d (lq rfl) rfl) ?_
    refine sq_nil ?_
    cases h
    refine avc_ret ?_
    exact ret_1 rfl
  · replace h := cF c1 h
    refine avc_skip ?_
    refine avc_sq2 ?_
    refine avc_sq2 ?_
    refine avc_sq ?_
    refine sqa (a_assign_d (lq rfl) rfl) ?_
    refine sq_nil ?_
    refine avc_block ?_
    obtain ⟨y1, hy1, h'⟩ := bE h; clear h
    rcases y1 with y1 | y1
    ·
      replace h' := eL h'
      refine avc_tail (e := .exit 0) (S2 := ⟨[], []⟩) ?_ ?_
      ·
        refine avc_loopM (fun x => ⟨[(0, .d (dsl eRange a0)), (1, .d (dsl eRange a1)), (5, .d (di x))], []⟩) hy1 (weak_cov ⟨rfl, rfl, rfl, trivial⟩ trivial) ?_
        rintro v5 sy1 hsy1
        replace hsy1 : ref30_SameRanges_L0 a0 a1 v5 = some sy1 := hsy1
        unfold ref30_SameRanges_L0 at hsy1
        refine avc_sq2 ?_
        refine avc_sq2 ?_
        refine avc_sq ?_
        refine sqa (a_move_d (lq rfl) rfl) ?_
        refine sqa (a_move_d (lq rfl) rfl) ?_
        refine sqa (m_len (en := eRange) (l := a0) (lq rfl) S32 rfl) ?_
        refine sqa (a_lss (lq rfl) rfl rfl) ?_
        refine sq_nil ?_
        refine avc_if rfl ⟨fun c2 => ?_, fun c2 => ?_⟩
        · replace hsy1 := cT c2 hsy1
          refine avc_skip ?_
          refine avc_sq2 ?_
          refine avc_block ?_
          refine avc_sq2 ?_
          refine avc_drawA MX rfl ?_
          refine daa (a_move_d (lq rfl) rfl) ?_
          refine daa (a_move_d (lq rfl) rfl) ?_
          obtain ⟨t19, ht19, hsy1'⟩ := bE hsy1; clear hsy1
          refine daa (m_index (en := eRange) (lq rfl) S32 rfl rfl ht19) ?_
          refine daa (m_loadEA (en := eRange) (l := a0) (i := v5) (v := t19) (off := 0) (lq rfl) G38 rfl ht19 rfl rfl (by decide)) ?_
          refine daa (a_move_d (lq rfl) rfl) ?_
          refine daa (a_move_d (lq rfl) rfl) ?_
          obtain ⟨t23, ht23, hsy1⟩ := bE hsy1'; clear hsy1'
          refine daa (m_index (en := eRange) (lq rfl) S32 rfl rfl ht23) ?_
          refine daa (m_loadEA (en := eRange) (l := a1) (i := v5) (v := t23) (off := 0) (lq rfl) G38 rfl ht23 rfl rfl (by decide)) ?_
          refine daa (m_stneq (en := eRange) (a := t19) (b := t23) (lq rfl) E38 rfl rfl) ?_
          refine da_nil ?_
          refine avc_if rfl ⟨fun c3 => ?_, fun c3 => ?_⟩
          · replace hsy1 := cT c3 hsy1
            refine avc_sq2 ?_
            refine avc_sq ?_
            refine sqa (a_assign_d (lq rfl) rfl) ?_
            refine sq_nil ?_
            refine avc_ret ?_
            cases hsy1
            intro q; cases q
          · replace hsy1 := cF c3 hsy1
            refine avc_skip ?_
            refine avc_sq ?_
            refine sqa (a_move_d (lq rfl) rfl) ?_
            refine sqa (m_add (lq rfl) rfl rfl) ?_
            refine sqa (a_assign_d (lq rfl) rfl) ?_
            refine sq_nil ?_
            cases hsy1
            exact weak_cov ⟨rfl, rfl, rfl, trivial⟩ trivial
        · replace hsy1 := cF c2 hsy1
          refine avc_exit ?_
          cases hsy1
          intro q; cases q
          exact out_mk (weak_cov trivial trivial)
      ·
        refine avc_sq2 ?_
        refine avc_sq ?_
        refine sqa (a_assign_d (lq rfl) rfl) ?_
        refine sq_nil ?_
        cases h'
        refine avc_ret ?_
        exact ret_1 rfl
    ·
      replace h' := eR h'
      refine avc_tail (e := .ret) (S2 := ⟨[(4, .d (db y1))], []⟩) ?_ ?_
      ·
        refine avc_loopM (fun x => ⟨[(0, .d (dsl eRange a0)), (1, .d (dsl eRange a1)), (5, .d (di x))], []⟩) hy1 (weak_cov ⟨rfl, rfl, rfl, trivial⟩ trivial) ?_
        rintro v5 sy1 hsy1
        replace hsy1 : ref30_SameRanges_L0 a0 a1 v5 = some sy1 := hsy1
        unfold ref30_SameRanges_L0 at hsy1
        refine avc_sq2 ?_
        refine avc_sq2 ?_
        refine avc_sq ?_
        refine sqa (a_move_d (lq rfl) rfl) ?_
        refine sqa (a_move_d (lq rfl) rfl) ?_
        refine sqa (m_len (en := eRange) (l := a0) (lq rfl) S32 rfl) ?_
        refine sqa (a_lss (lq rfl) rfl rfl) ?_
        refine sq_nil ?_
        refine avc_if rfl ⟨fun c2 => ?_, fun c2 => ?_⟩
        · replace hsy1 := cT c2 hsy1
          refine avc_skip ?_
          refine avc_sq2 ?_
          refine avc_block ?_
          refine avc_sq2 ?_
          refine avc_drawA MX rfl ?_
          refine daa (a_move_d (lq rfl) rfl) ?_
          refine daa (a_move_d (lq rfl) rfl) ?_
          obtain ⟨t19, ht19, hsy1'⟩ := bE hsy1; clear hsy1
          refine daa (m_index (en := eRange) (lq rfl) S32 rfl rfl ht19) ?_
          refine daa (m_loadEA (en := eRange) (l := a0) (i := v5) (v := t19) (off := 0) (lq rfl) G38 rfl ht19 rfl rfl (by decide)) ?_
          refine daa (a_move_d (lq rfl) rfl) ?_
          refine daa (a_move_d (lq rfl) rfl) ?_
          obtain ⟨t23, ht23, hsy1⟩ := bE hsy1'; clear hsy1'
          refine daa (m_index (en := eRange) (lq rfl) S32 rfl rfl ht23) ?_
          refine daa (m_loadEA (en := eRange) (l := a1) (i := v5) (v := t23) (off := 0) (lq rfl) G38 rfl ht23 rfl rfl (by decide)) ?_
          refine daa (m_stneq (en := eRange) (a := t19) (b := t23) (lq rfl) E38 rfl rfl) ?_
          refine da_nil ?_
          refine avc_if rfl ⟨fun c3 => ?_, fun c3 => ?_⟩
          · replace hsy1 := cT c3 hsy1
            refine avc_sq2 ?_
            refine avc_sq ?_
            refine sqa (a_assign_d (lq rfl) rfl) ?_
            refine sq_nil ?_
            refine avc_ret ?_
            cases hsy1
            intro q; cases q
            exact out_mk (weak_cov ⟨rfl, trivial⟩ trivial)
          · replace hsy1 := cF c3 hsy1
            refine avc_skip ?_
            refine avc_sq ?_
            refine sqa (a_move_d (lq rfl) rfl) ?_
            refine sqa (m_add (lq rfl) rfl rfl) ?_
            refine sqa (a_assign_d (lq rfl) rfl) ?_
            refine sq_nil ?_
            cases hsy1
            exact weak_cov ⟨rfl, rfl, rfl, trivial⟩ trivial
        · replace hsy1 := cF c2 hsy1
          refine avc_exit ?_
          cases hsy1
          intro q; cases q
      ·
        cases h'
        exact ret_1 rfl

theorem scripts_Of_c  {a0 : Property} {a1 : (List Int)}  {r : (List Str)} (h : scripts_Of a0 a1 = some r) : Contract Try.prog 13 [(eProperty.dv a0), (dsl eI a1)] [(dsl eS r)] := by
  refine contract_of Try.func13 (by kernel_rfl) rfl (lq rfl) (lq rfl) fun w0 I0 => ?_
  unfold scripts_Of at h
  refine avc_sq2 ?_
  refine avc_sq ?_
  refine sqa (m_box (size := 2) (lq rfl) rfl rfl) ?_
  refine sqa (a_assign_d (lq rfl) rfl) ?_
  refine sq_nil ?_
  refine avc_sq2 ?_
  refine avc_sq ?_
  refine sq_b rfl (m_makeMap (lq rfl) rfl) ?_
  refine sqa (a_assign_row (lq rfl) rfl) ?_
  refine sq_nil ?_
  refine avc_sq2 ?_
  refine avc_sq ?_
  refine sqa (a_assign_d (lq rfl) rfl) ?_
  refine sq_nil ?_
  refine avc_weak (weak_nil (t := 6) 1006 9 eS.size (lq rfl) (lq rfl) rfl rfl) ?_
  refine avc_sq2 ?_
  refine avc_sq2 ?_
  refine avc_sq ?_
  refine sqa (m_loadPt (lq rfl) G25 rfl rfl) ?_
  refine sqa (a_move_d (lq rfl) rfl) ?_
  obtain ⟨t12, ht12, h'⟩ := bE h; clear h
  refine sq_b rfl (g_call [(14, 2512)] (scripts_realScripts_g ht12) (lq rfl) (by decide) ⟨rfl, rfl, trivial⟩ rfl rfl trivial rfl rfl rfl (fun _ => rfl) rfl) ?_
  refine sqa (m_lenR (en := eS) (l := t12) (lq rfl) S22 rfl rfl) ?_
  refine sqa (a_move_d (lq rfl) rfl) ?_
  refine sq_nil ?_
  refine avc_block ?_
  obtain ⟨y1, hy1, h⟩ := bE h'; clear h'
  refine avc_tail (e := .exit 0) (S2 := ⟨[(6, .row 1006)], [(1006, .row 9 eS.size false (eS.all y1))]⟩) ?_ ?_
  ·
    refine avc_loopM (fun x => ⟨[(5, .row 9), (6, .row 1006), (12, .row 2512), (13, .d (di (t12.length : Int))), (14, .d (di x.1))], [(9, .map (mapE kS eB x.2.1)), (1006, .row 9 eS.size false (eS.all x.2.2)), (2512, .row 9 eS.size false (eS.all t12))]⟩) hy1 (weak_cov ⟨rfl, rfl, rfl, rfl, rfl, trivial⟩ ⟨rfl, rfl, rfl, trivial⟩) ?_
    rintro ⟨v14, r9, r1006⟩ sy1 hsy1
    replace hsy1 : scripts_Of_L0 t12 v14 r9 r1006 = some sy1 := hsy1
    unfold scripts_Of_L0 at hsy1
    refine avc_sq2 ?_
    refine avc_sq ?_
    refine sqa (a_lss (lq rfl) rfl rfl) ?_
    refine sq_nil ?_
    refine avc_sq2 ?_
    refine avc_if rfl ⟨fun c1 => ?_, fun c1 => ?_⟩
    · replace hsy1 := cT c1 hsy1
      refine avc_skip ?_
      refine avc_sq2 ?_
      obtain ⟨y2, hy2, hsy1'⟩ := bE hsy1; clear hsy1
      refine avc_tail (e := .normal) (S2 := ⟨[(5, .row 9), (6, .row 1006), (12, .row 2512), (13, .d (di (t12.length : Int))), (14, .d (di v14))], [(9, .map (mapE kS eB y2.1)), (1006, .row 9 eS.size false (eS.all y2.2)), (2512, .row 9 eS.size false (eS.all t12))]⟩) ?_ ?_
      ·
        refine avc_block ?_
        refine avc_sq2 ?_
        refine avc_sq ?_
        obtain ⟨t16, ht16, hy2'⟩ := bE hy2; clear hy2
        refine sqa (m_indexR (en := eS) (l := t12) (lq rfl) S22 rfl rfl rfl ht16) ?_
        refine sqa (m_loadER (en := eS) (l := t12) (i := v14) (v := t16) (off := 0) (lq rfl) O9 rfl rfl ht16 rfl) ?_
        refine sqa (a_assign_d (lq rfl) rfl) ?_
        refine sq_nil ?_
        refine avc_sq2 ?_
        refine avc_sq ?_
        refine sqa (a_move_d (lq rfl) rfl) ?_
        refine sqa (m_sneq (a := t16) (b := []) (lq rfl) rfl rfl) ?_
        obtain ⟨b20, hb20, hy2⟩ := bE hy2'; clear hy2'
        refine sqa ((a_move_d (lq rfl) rfl).bool (Option.some.inj hb20)) ?_
        refine sq_g (x := .row 9) rfl rfl rfl (lq rfl) (lq rfl) rfl (fun hb => by obtain rfl : b20 = true := hb; exact a_move_row (lq rfl) rfl) ?_
        refine sq_g (x := .d (ds t16)) rfl rfl rfl (lq rfl) (lq rfl) rfl (fun hb => by obtain rfl : b20 = true := hb; exact a_move_d (lq rfl) rfl) ?_
        refine sq_g (x := .d (db (mgetD r9 t16 false))) rfl rfl rfl (lq rfl) (lq rfl) rfl (fun hb => by obtain rfl : b20 = true := hb; exact m_lookup (kv := kS) (ev := eB) (mp := r9) (k := t16) (zero := false) (lq rfl) M46 K9 rfl rfl rfl (fun _ _ => .v _)) ?_
        refine sq_g (x := .d (db (!(mgetD r9 t16 false)))) rfl rfl rfl (lq rfl) (lq rfl) rfl (fun hb => by obtain rfl : b20 = true := hb; exact a_not (lq rfl) rfl) ?_
        refine sqa (a_pick_and (lq rfl) rfl rfl) ?_
        refine sq_nil ?_
        refine avc_if rfl ⟨fun c2 => ?_, fun c2 => ?_⟩
        · replace hy2 := cT c2 hy2
          refine avc_sq2 ?_
          refine avc_sq ?_
          refine sqa (a_move_row (lq rfl) rfl) ?_
          refine sqa (a_move_d (lq rfl) rfl) ?_
          refine sq_b rfl (m_mapUpdate (kv := kS) (ev := eB) (mp := r9) (k := t16) (v := true) M46 K9 rfl rfl rfl rfl rfl rfl) ?_
          refine sq_nil ?_
          refine avc_sq ?_
          refine sqa (a_move_row (lq rfl) rfl) ?_
          refine sqa (a_move_d (lq rfl) rfl) ?_
          refine sqa (a_lit (lq rfl) S22 rfl rfl rfl rfl (by decide) rfl) ?_
          obtain ⟨r1006_3, hr1006_3, hy2'⟩ := bE hy2; clear hy2
          refine sq_b rfl (m_append (en := eS) (l := r1006) (m := [t16]) (lq rfl) S22 rfl rfl rfl hr1006_3 (by decide) (by decide) rfl rfl) ?_
          refine sqa (a_assign_row (lq rfl) rfl) ?_
          refine sq_nil ?_
          cases hy2'
          exact out_mk (weak_cov ⟨rfl, rfl, rfl, rfl, rfl, trivial⟩ ⟨rfl, rfl, rfl, trivial⟩)
        · replace hy2 := cF c2 hy2
          refine avc_skip ?_
          cases hy2
          exact out_mk (weak_cov ⟨rfl, rfl, rfl, rfl, rfl, trivial⟩ ⟨rfl, rfl, rfl, trivial⟩)
      ·
        refine avc_sq ?_
        refine sqa (m_add (lq rfl) rfl rfl) ?_
        refine sqa (a_move_d (lq rfl) rfl) ?_
        refine sq_nil ?_
        cases hsy1'
        exact weak_cov ⟨rfl, rfl, rfl, rfl, rfl, trivial⟩ ⟨rfl, rfl, rfl, trivial⟩
    · replace hsy1 := cF c1 hsy1
      refine avc_exit ?_
      cases hsy1
      intro q; cases q
      exact out_mk (weak_cov ⟨rfl, trivial⟩ ⟨rfl, trivial⟩)
  ·
    refine avc_sq2 ?_
    refine avc_sq ?_
    refine sqa (a_move_row (lq rfl) rfl) ?_
    refine sq_weak (weak_row_win (id := 1006) rfl) ?_ (by simp)
    obtain ⟨r1006_4, hr1006_4, h'⟩ := bE h; clear h
    refine sq_b rfl (g_call [(0, 1006)] (sortS_g hr1006_4) (lq rfl) (by decide) ⟨rfl, trivial⟩ rfl rfl ⟨rfl, trivial⟩ rfl rfl rfl (fun _ => rfl) rfl) ?_
    refine sq_nil ?_
    refine avc_weak (weak_win_d (t := 6) (lq rfl) rfl rfl) ?_
    refine avc_sq2 ?_
    refine avc_sq ?_
    refine sqa (a_move_d (lq rfl) rfl) ?_
    refine sqa (a_assign_d (lq rfl) rfl) ?_
    refine sq_nil ?_
    cases h'
    refine avc_ret ?_
    exact ret_1 rfl

theorem scripts_Mixed_c  {a0 : Property} {a1 : (List Int)}  {r : Bool} (h : scripts_Mixed a0 a1 = some r) : Contract Try.prog 15 [(eProperty.dv a0), (dsl eI a1)] [(db r)] := by
  refine contract_of Try.func15 (by kernel_rfl) rfl (lq rfl) (lq rfl) fun w0 I0 => ?_
  unfold scripts_Mixed at h
  refine avc_sq2 ?_
  refine avc_sq ?_
  refine sqa (m_box (size := 2) (lq rfl) rfl rfl) ?_
  refine sqa (a_assign_d (lq rfl) rfl) ?_
  refine sq_nil ?_
  refine avc_sq2 ?_
  refine avc_sq ?_
  refine sqa (m_loadPt (lq rfl) G25 rfl rfl) ?_
  refine sqa (a_move_d (lq rfl) rfl) ?_
  obtain ⟨t7, ht7, h'⟩ := bE h; clear h
  refine sqa (a_call (lq rfl) rfl (scripts_Of_c ht7)) ?_
  refine sqa (m_len (en := eS) (l := t7) (lq rfl) S22 rfl) ?_
  refine sqa (a_gtr (lq rfl) rfl rfl) ?_
  refine sqa (a_assign_d (lq rfl) rfl) ?_
  refine sq_nil ?_
  cases h'
  refine avc_ret ?_
  exact ret_1 rfl

theorem ref09_Strings_c  {a0 : (List Str)} {a1 : (List Str)}  {r : Bool} (h : ref09_Strings a0 a1 = some r) : Contract Try.prog 12 [(dsl eS a0), (dsl eS a1)] [(db r)] := by
  refine contract_of Try.func12 (by kernel_rfl) rfl (lq rfl) (lq rfl) fun w0 I0 => ?_
  unfold ref09_Strings at h
  refine avc_sq2 ?_
  refine avc_sq ?_
  refine sqa (a_assign_d (lq rfl) rfl) ?_
  refine sq_nil ?_
  refine avc_sq2 ?_
  refine avc_sq2 ?_
  refine avc_sq ?_
  refine sqa (a_move_d (lq rfl) rfl) ?_
  refine sqa (m_len (en := eS) (l := a0) (lq rfl) S22 rfl) ?_
  refine sqa (a_move_d (lq rfl) rfl) ?_
  refine sqa (m_len (en := eS) (l := a1) (lq rfl) S22 rfl) ?_
  refine sqa (a_neq (lq rfl) rfl rfl) ?_
  refine sq_nil ?_
  refine avc_if rfl ⟨fun c1 => ?_, fun c1 => ?_⟩
  · replace h := cT c1 h
    refine avc_sq2 ?_
    refine avc_sq ?_
    refine sqa (a_assign_d (lq rfl) rfl) ?_
    refine sq_nil ?_
    cases h
    refine avc_ret ?_
    exact ret_1 rfl
  · replace h := cF c1 h
    refine avc_skip ?_
    refine avc_sq2 ?_
    refine avc_sq2 ?_
    refine avc_sq ?_
    refine sqa (a_assign_d (lq rfl) rfl) ?_
    refine sq_nil ?_
    refine avc_block ?_
    obtain ⟨y1, hy1, h'⟩ := bE h; clear h
    rcases y1 with y1 | y1
    ·
      replace h' := eL h'
      refine avc_tail (e := .exit 0) (S2 := ⟨[], []⟩) ?_ ?_
      ·
        refine avc_loopM (fun x => ⟨[(0, .d (dsl eS a0)), (1, .d (dsl eS a1)), (5, .d (di x))], []⟩) hy1 (weak_cov ⟨rfl, rfl, rfl, trivial⟩ trivial) ?_
        rintro v5 sy1 hsy1
        replace hsy1 : ref09_Strings_L0 a0 a1 v5 = some sy1 := hsy1
        unfold ref09_Strings_L0 at hsy1
        refine avc_sq2 ?_
        refine avc_sq2 ?_
        refine avc_sq ?_
        refine sqa (a_move_d (lq rfl) rfl) ?_
        refine sqa (a_move_d (lq rfl) rfl) ?_
        refine sqa (m_len (en := eS) (l := a0) (lq rfl) S22 rfl) ?_
        refine sqa (a_lss (lq rfl) rfl rfl) ?_
        refine sq_nil ?_
        refine avc_if rfl ⟨fun c2 => ?_, fun c2 => ?_⟩
        · replace hsy1 := cT c2 hsy1
          refine avc_skip ?_
          refine avc_sq2 ?_
          refine avc_block ?_
          refine avc_sq2 ?_
          refine avc_drawA MX rfl ?_
          refine daa (a_move_d (lq rfl) rfl) ?_
          refine daa (a_move_d (lq rfl) rfl) ?_
          obtain ⟨t19, ht19, hsy1'⟩ := bE hsy1; clear hsy1
          refine daa (m_index (en := eS) (lq rfl) S22 rfl rfl ht19) ?_
          refine daa (m_loadE (en := eS) (l := a0) (i := v5) (v := t19) (off := 0) (lq rfl) O9 rfl ht19 rfl) ?_
          refine daa (a_move_d (lq rfl) rfl) ?_
          refine daa (a_move_d (lq rfl) rfl) ?_
          obtain ⟨t23, ht23, hsy1⟩ := bE hsy1'; clear hsy1'
          refine daa (m_index (en := eS) (lq rfl) S22 rfl rfl ht23) ?_
          refine daa (m_loadE (en := eS) (l := a1) (i := v5) (v := t23) (off := 0) (lq rfl) O9 rfl ht23 rfl) ?_
          refine daa (m_sneq (a := t19) (b := t23) (lq rfl) rfl rfl) ?_
          refine da_nil ?_
          refine avc_if rfl ⟨fun c3 => ?_, fun c3 => ?_⟩
          · replace hsy1 := cT c3 hsy1
            refine avc_sq2 ?_
            refine avc_sq ?_
            refine sqa (a_assign_d (lq rfl) rfl) ?_
            refine sq_nil ?_
            refine avc_ret ?_
            cases hsy1
            intro q; cases q
          · replace hsy1 := cF c3 hsy1
            refine avc_skip ?_
            refine avc_sq ?_
            refine sqa (a_move_d (lq rfl) rfl) ?_
            refine sqa (m_add (lq rfl) rfl rfl) ?_
            refine sqa (a_assign_d (lq rfl) rfl) ?_
            refine sq_nil ?_
            cases hsy1
            exact weak_cov ⟨rfl, rfl, rfl, trivial⟩ trivial
        · replace hsy1 := cF c2 hsy1
          refine avc_exit ?_
          cases hsy1
          intro q; cases q
          exact out_mk (weak_cov trivial trivial)
      ·
        refine avc_sq2 ?_
        refine avc_sq ?_
        refine sqa (a_assign_d (lq rfl) rfl) ?_
        refine sq_nil ?_
        cases h'
        refine avc_ret ?_
        exact ret_1 rfl
    ·
      replace h' := eR h'
      refine avc_tail (e := .ret) (S2 := ⟨[(4, .d (db y1))], []⟩) ?_ ?_
      ·
        refine avc_loopM (fun x => ⟨[(0, .d (dsl eS a0)), (1, .d (dsl eS a1)), (5, .d (di x))], []⟩) hy1 (weak_cov ⟨rfl, rfl, rfl, trivial⟩ trivial) ?_
        rintro v5 sy1 hsy1
        replace hsy1 : ref09_Strings_L0 a0 a1 v5 = some sy1 := hsy1
        unfold ref09_Strings_L0 at hsy1
        refine avc_sq2 ?_
        refine avc_sq2 ?_
        refine avc_sq ?_
        refine sqa (a_move_d (lq rfl) rfl) ?_
        refine sqa (a_move_d (lq rfl) rfl) ?_
        refine sqa (m_len (en := eS) (l := a0) (lq rfl) S22 rfl) ?_
        refine sqa (a_lss (lq rfl) rfl rfl) ?_
        refine sq_nil ?_
        refine avc_if rfl ⟨fun c2 => ?_, fun c2 => ?_⟩
        · replace hsy1 := cT c2 hsy1
          refine avc_skip ?_
          refine avc_sq2 ?_
          refine avc_block ?_
          refine avc_sq2 ?_
          refine avc_drawA MX rfl ?_
          refine daa (a_move_d (lq rfl) rfl) ?_
          refine daa (a_move_d (lq rfl) rfl) ?_
          obtain ⟨t19, ht19, hsy1'⟩ := bE hsy1; clear hsy1
          refine daa (m_index (en := eS) (lq rfl) S22 rfl rfl ht19) ?_
          refine daa (m_loadE (en := eS) (l := a0) (i := v5) (v := t19) (off := 0) (lq rfl) O9 rfl ht19 rfl) ?_
          refine daa (a_move_d (lq rfl) rfl) ?_
          refine daa (a_move_d (lq rfl) rfl) ?_
          obtain ⟨t23, ht23, hsy1⟩ := bE hsy1'; clear hsy1'
          refine daa (m_index (en := eS) (lq rfl) S22 rfl rfl ht23) ?_
          refine daa (m_loadE (en := eS) (l := a1) (i := v5) (v := t23) (off := 0) (lq rfl) O9 rfl ht23 rfl) ?_
          refine daa (m_sneq (a := t19) (b := t23) (lq rfl) rfl rfl) ?_
          refine da_nil ?_
          refine avc_if rfl ⟨fun c3 => ?_, fun c3 => ?_⟩
          · replace hsy1 := cT c3 hsy1
            refine avc_sq2 ?_
            refine avc_sq ?_
            refine sqa (a_assign_d (lq rfl) rfl) ?_
            refine sq_nil ?_
            refine avc_ret ?_
            cases hsy1
            intro q; cases q
            exact out_mk (weak_cov ⟨rfl, trivial⟩ trivial)
          · replace hsy1 := cF c3 hsy1
            refine avc_skip ?_
            refine avc_sq ?_
            refine sqa (a_move_d (lq rfl) rfl) ?_
            refine sqa (m_add (lq rfl) rfl rfl) ?_
            refine sqa (a_assign_d (lq rfl) rfl) ?_
            refine sq_nil ?_
            cases hsy1
            exact weak_cov ⟨rfl, rfl, rfl, trivial⟩ trivial
        · replace hsy1 := cF c2 hsy1
          refine avc_exit ?_
          cases hsy1
          intro q; cases q
      ·
        cases h'
        exact ret_1 rfl

theorem slices_IndexFunc_int_int_c {fv1 : DV} {a0 : (List Int)} {a1 : Int → Option (Bool)} (hf1 : ∀ x0 y, a1 x0 = some y → FnC Try.prog fv1 [(di x0)] [(db y)]) {r : Int} (h : slices_IndexFunc_int_int a0 a1 = some r) : Contract Try.prog 45 [(dsl eI a0), fv1] [(di r)] := by
  refine contract_of Try.func45 (by kernel_rfl) rfl (lq rfl) (lq rfl) fun w0 I0 => ?_
  unfold slices_IndexFunc_int_int at h
  refine avc_sq2 ?_
  refine avc_sq ?_
  refine sqa (a_assign_d (lq rfl) rfl) ?_
  refine sq_nil ?_
  refine avc_sq2 ?_
  refine avc_sq2 ?_
  refine avc_sq ?_
  refine sqa (a_move_d (lq rfl) rfl) ?_
  refine sqa (m_len (en := eI) (l := a0) (lq rfl) S26 rfl) ?_
  refine sqa (a_move_d (lq rfl) rfl) ?_
  refine sq_nil ?_
  refine avc_block ?_
  obtain ⟨y1, hy1, h'⟩ := bE h; clear h
  rcases y1 with y1 | y1
  ·
    replace h' := eL h'
    refine avc_tail (e := .exit 0) (S2 := ⟨[], []⟩) ?_ ?_
    ·
      refine avc_loopM (fun x => ⟨[(0, .d (dsl eI a0)), (1, .d fv1), (7, .d (di (a0.length : Int))), (8, .d (di x))], []⟩) hy1 (weak_cov ⟨rfl, rfl, rfl, rfl, trivial⟩ trivial) ?_
      rintro v8 sy1 hsy1
      replace hsy1 : slices_IndexFunc_int_int_L0 a0 a1 v8 = some sy1 := hsy1
      unfold slices_IndexFunc_int_int_L0 at hsy1
      refine avc_sq2 ?_
      refine avc_sq ?_
      refine sqa (a_lss (lq rfl) rfl rfl) ?_
      refine sq_nil ?_
      refine avc_sq2 ?_
      refine avc_if rfl ⟨fun c1 => ?_, fun c1 => ?_⟩
      · replace hsy1 := cT c1 hsy1
        refine avc_skip ?_
        refine avc_sq2 ?_
        refine avc_block ?_
        refine avc_sq2 ?_
        refine avc_sq ?_
        refine sqa (a_move_d (lq rfl) rfl) ?_
        refine sqa (a_assign_d (lq rfl) rfl) ?_
        refine sq_nil ?_
        refine avc_sq2 ?_
        refine avc_sq ?_
        refine sqa (a_move_d (lq rfl) rfl) ?_
        refine sqa (a_move_d (lq rfl) rfl) ?_
        refine sqa (a_move_d (lq rfl) rfl) ?_
        obtain ⟨t14, ht14, hsy1'⟩ := bE hsy1; clear hsy1
        refine sqa (m_index (en := eI) (lq rfl) S26 rfl rfl ht14) ?_
        refine sqa (m_loadE (en := eI) (l := a0) (i := v8) (v := t14) (off := 0) (lq rfl) O3 rfl ht14 rfl) ?_
        obtain ⟨t16, ht16, hsy1⟩ := bE hsy1'; clear hsy1'
        refine sqa (a_callF (lq rfl) rfl rfl (hf1 _ _ ht16)) ?_
        refine sq_nil ?_
        refine avc_if rfl ⟨fun c2 => ?_, fun c2 => ?_⟩
        · replace hsy1 := cT c2 hsy1
          refine avc_sq2 ?_
          refine avc_sq ?_
          refine sqa (a_move_d (lq rfl) rfl) ?_
          refine sqa (a_assign_d (lq rfl) rfl) ?_
          refine sq_nil ?_
          refine avc_ret ?_
          cases hsy1
          intro q; cases q
        · replace hsy1 := cF c2 hsy1
          refine avc_skip ?_
          refine avc_sq ?_
          refine sqa (m_add (lq rfl) rfl rfl) ?_
          refine sqa (a_move_d (lq rfl) rfl) ?_
          refine sq_nil ?_
          cases hsy1
          exact weak_cov ⟨rfl, rfl, rfl, rfl, trivial⟩ trivial
      · replace hsy1 := cF c1 hsy1
        refine avc_exit ?_
        cases hsy1
        intro q; cases q
        exact out_mk (weak_cov trivial trivial)
    ·
      refine avc_sq2 ?_
      refine avc_sq ?_
      refine sqa (a_assign_d (lq rfl) rfl) ?_
      refine sq_nil ?_
      cases h'
      refine avc_ret ?_
      exact ret_1 rfl
  ·
    replace h' := eR h'
    refine avc_tail (e := .ret) (S2 := ⟨[(4, .d (di y1))], []⟩) ?_ ?_
    ·
      refine avc_loopM (fun x => ⟨[(0, .d (dsl eI a0)), (1, .d fv1), (7, .d (di (a0.length : Int))), (8, .d (di x))], []⟩) hy1 (weak_cov ⟨rfl, rfl, rfl, rfl, trivial⟩ trivial) ?_
      rintro v8 sy1 hsy1
      replace hsy1 : slices_IndexFunc_int_int_L0 a0 a1 v8 = some sy1 := hsy1
      unfold slices_IndexFunc_int_int_L0 at hsy1
      refine avc_sq2 ?_
      refine avc_sq ?_
      refine sqa (a_lss (lq rfl) rfl rfl) ?_
      refine sq_nil ?_
      refine avc_sq2 ?_
      refine avc_if rfl ⟨fun c1 => ?_, fun c1 => ?_⟩
      · replace hsy1 := cT c1 hsy1
        refine avc_skip ?_
        refine avc_sq2 ?_
        refine avc_block ?_
        refine avc_sq2 ?_
        refine avc_sq ?_
        refine sqa (a_move_d (lq rfl) rfl) ?_
        refine sqa (a_assign_d (lq rfl) rfl) ?_
        refine sq_nil ?_
        refine avc_sq2 ?_
        refine avc_sq ?_
        refine sqa (a_move_d (lq rfl) rfl) ?_
        refine sqa (a_move_d (lq rfl) rfl) ?_
        refine sqa (a_move_d (lq rfl) rfl) ?_
        obtain ⟨t14, ht14, hsy1'⟩ := bE hsy1; clear hsy1
        refine sqa (m_index (en := eI) (lq rfl) S26 rfl rfl ht14) ?_
        refine sqa (m_loadE (en := eI) (l := a0) (i := v8) (v := t14) (off := 0) (lq rfl) O3 rfl ht14 rfl) ?_
        obtain ⟨t16, ht16, hsy1⟩ := bE hsy1'; clear hsy1'
        refine sqa (a_callF (lq rfl) rfl rfl (hf1 _ _ ht16)) ?_
        refine sq_nil ?_
        refine avc_if rfl ⟨fun c2 => ?_, fun c2 => ?_⟩
        · replace hsy1 := cT c2 hsy1
          refine avc_sq2 ?_
          refine avc_sq ?_
          refine sqa (a_move_d (lq rfl) rfl) ?_
          refine sqa (a_assign_d (lq rfl) rfl) ?_
          refine sq_nil ?_
          refine avc_ret ?_
          cases hsy1
          intro q; cases q
          exact out_mk (weak_cov ⟨rfl, trivial⟩ trivial)
        · replace hsy1 := cF c2 hsy1
          refine avc_skip ?_
          refine avc_sq ?_
          refine sqa (m_add (lq rfl) rfl rfl) ?_
          refine sqa (a_move_d (lq rfl) rfl) ?_
          refine sq_nil ?_
          cases hsy1
          exact weak_cov ⟨rfl, rfl, rfl, rfl, trivial⟩ trivial
      · replace hsy1 := cF c1 hsy1
        refine avc_exit ?_
        cases hsy1
        intro q; cases q
    ·
      cases h'
      exact ret_1 rfl

theorem slices_ContainsFunc_int_int_c {fv1 : DV} {a0 : (List Int)} {a1 : Int → Option (Bool)} (hf1 : ∀ x0 y, a1 x0 = some y → FnC Try.prog fv1 [(di x0)] [(db y)]) {r : Bool} (h : slices_ContainsFunc_int_int a0 a1 = some r) : Contract Try.prog 34 [(dsl eI a0), fv1] [(db r)] := by
  refine contract_of Try.func34 (by kernel_rfl) rfl (lq rfl) (lq rfl) fun w0 I0 => ?_
  unfold slices_ContainsFunc_int_int at h
  refine avc_sq2 ?_
  refine avc_sq ?_
  refine sqa (a_assign_d (lq rfl) rfl) ?_
  refine sq_nil ?_
  refine avc_sq2 ?_
  refine avc_sq ?_
  refine sqa (a_move_d (lq rfl) rfl) ?_
  refine sqa (a_move_d (lq rfl) rfl) ?_
  obtain ⟨t7, ht7, h'⟩ := bE h; clear h
  refine sqa (a_call (lq rfl) rfl (slices_IndexFunc_int_int_c hf1 ht7)) ?_
  refine sqa (a_geq (lq rfl) rfl rfl) ?_
  refine sqa (a_assign_d (lq rfl) rfl) ?_
  refine sq_nil ?_
  cases h'
  refine avc_ret ?_
  exact ret_1 rfl

theorem scripts_Level_1_c  {a0 : Int}  {r : Bool} (h : scripts_Level_1 a0 = some r) : Contract Try.prog 35 [(di a0)] [(db r)] := by
  refine contract_of Try.func35 (by kernel_rfl) rfl (lq rfl) (lq rfl) fun w0 I0 => ?_
  unfold scripts_Level_1 at h
  refine avc_sq2 ?_
  refine avc_sq ?_
  refine sqa (a_assign_d (lq rfl) rfl) ?_
  refine sq_nil ?_
  refine avc_sq2 ?_
  refine avc_sq ?_
  refine sqa (a_move_d (lq rfl) rfl) ?_
  refine sqa (a_lss (lq rfl) rfl rfl) ?_
  obtain ⟨b5, hb5, h'⟩ := bE h; clear h
  refine sqa ((a_move_d (lq rfl) rfl).bool (Option.some.inj hb5)) ?_
  refine sq_g (x := .d (di a0)) rfl rfl rfl (lq rfl) (lq rfl) rfl (fun hb => by obtain rfl := gF hb; exact a_move_d (lq rfl) rfl) ?_
  refine sq_g (x := .d (db (decide (127 < a0)))) rfl rfl rfl (lq rfl) (lq rfl) rfl (fun hb => by obtain rfl := gF hb; exact a_gtr (lq rfl) rfl rfl) ?_
  refine sqa (a_pick_or (lq rfl) rfl rfl) ?_
  refine sqa (a_assign_d (lq rfl) rfl) ?_
  refine sq_nil ?_
  cases h'
  refine avc_ret ?_
  exact ret_1 rfl

theorem slices_Index_string_string_c  {a0 : (List Str)} {a1 : Str}  {r : Int} (h : slices_Index_string_string a0 a1 = some r) : Contract Try.prog 47 [(dsl eS a0), (ds a1)] [(di r)] := by
  refine contract_of Try.func47 (by kernel_rfl) rfl (lq rfl) (lq rfl) fun w0 I0 => ?_
  unfold slices_Index_string_string at h
  refine avc_sq2 ?_
  refine avc_sq ?_
  refine sqa (a_assign_d (lq rfl) rfl) ?_
  refine sq_nil ?_
  refine avc_sq2 ?_
  refine avc_sq2 ?_
  refine avc_sq ?_
  refine sqa (a_move_d (lq rfl) rfl) ?_
  refine sqa (m_len (en := eS) (l := a0) (lq rfl) S22 rfl) ?_
  refine sqa (a_move_d (lq rfl) rfl) ?_
  refine sq_nil ?_
  refine avc_block ?_
  obtain ⟨y1, hy1, h'⟩ := bE h; clear h
  rcases y1 with y1 | y1
  ·
    replace h' := eL h'
    refine avc_tail (e := .exit 0) (S2 := ⟨[], []⟩) ?_ ?_
    ·
      refine avc_loopM (fun x => ⟨[(0, .d (dsl eS a0)), (1, .d (ds a1)), (7, .d (di (a0.length : Int))), (8, .d (di x))], []⟩) hy1 (weak_cov ⟨rfl, rfl, rfl, rfl, trivial⟩ trivial) ?_
      rintro v8 sy1 hsy1
      replace hsy1 : slices_Index_string_string_L0 a0 a1 v8 = some sy1 := hsy1
      unfold slices_Index_string_string_L0 at hsy1
      refine avc_sq2 ?_
      refine avc_sq ?_
      refine sqa (a_lss (lq rfl) rfl rfl) ?_
      refine sq_nil ?_
      refine avc_sq2 ?_
      refine avc_if rfl ⟨fun c1 => ?_, fun c1 => ?_⟩
      · replace hsy1 := cT c1 hsy1
        refine avc_skip ?_
        refine avc_sq2 ?_
        refine avc_block ?_
        refine avc_sq2 ?_
        refine avc_sq ?_
        refine sqa (a_move_d (lq rfl) rfl) ?_
        refine sqa (a_assign_d (lq rfl) rfl) ?_
        refine sq_nil ?_
        refine avc_sq2 ?_
        refine avc_sq ?_
        refine sqa (a_move_d (lq rfl) rfl) ?_
        refine sqa (a_move_d (lq rfl) rfl) ?_
        refine sqa (a_move_d (lq rfl) rfl) ?_
        obtain ⟨t14, ht14, hsy1'⟩ := bE hsy1; clear hsy1
        refine sqa (m_index (en := eS) (lq rfl) S22 rfl rfl ht14) ?_
        refine sqa (m_loadE (en := eS) (l := a0) (i := v8) (v := t14) (off := 0) (lq rfl) O9 rfl ht14 rfl) ?_
        refine sqa (m_seql (a := a1) (b := t14) (lq rfl) rfl rfl) ?_
        refine sq_nil ?_
        refine avc_if rfl ⟨fun c2 => ?_, fun c2 => ?_⟩
        · replace hsy1' := cT c2 hsy1'
          refine avc_sq2 ?_
          refine avc_sq ?_
          refine sqa (a_move_d (lq rfl) rfl) ?_
          refine sqa (a_assign_d (lq rfl) rfl) ?_
          refine sq_nil ?_
          refine avc_ret ?_
          cases hsy1'
          intro q; cases q
        · replace hsy1' := cF c2 hsy1'
          refine avc_skip ?_
          refine avc_sq ?_
          refine sqa (m_add (lq rfl) rfl rfl) ?_
          refine sqa (a_move_d (lq rfl) rfl) ?_
          refine sq_nil ?_
          cases hsy1'
          exact weak_cov ⟨rfl, rfl, rfl, rfl, trivial⟩ trivial
      · replace hsy1 := cF c1 hsy1
        refine avc_exit ?_
        cases hsy1
        intro q; cases q
        exact out_mk (weak_cov trivial trivial)
    ·
      refine avc_sq2 ?_
      refine avc_sq ?_
      refine sqa (a_assign_d (lq rfl) rfl) ?_
      refine sq_nil ?_
      cases h'
      refine avc_ret ?_
      exact ret_1 rfl
  ·
    replace h' := eR h'
    refine avc_tail (e := .ret) (S2 := ⟨[(4, .d (di y1))], []⟩) ?_ ?_
    ·
      refine avc_loopM (fun x => ⟨[(0, .d (dsl eS a0)), (1, .d (ds a1)), (7, .d (di (a0.length : Int))), (8, .d (di x))], []⟩) hy1 (weak_cov ⟨rfl, rfl, rfl, rfl, trivial⟩ trivial) ?_
      rintro v8 sy1 hsy1
      replace hsy1 : slices_Index_string_string_L0 a0 a1 v8 = some sy1 := hsy1
      unfold slices_Index_string_string_L0 at hsy1
      refine avc_sq2 ?_
      refine avc_sq ?_
      refine sqa (a_lss (lq rfl) rfl rfl) ?_
      refine sq_nil ?_
      refine avc_sq2 ?_
      refine avc_if rfl ⟨fun c1 => ?_, fun c1 => ?_⟩
      · replace hsy1 := cT c1 hsy1
        refine avc_skip ?_
        refine avc_sq2 ?_
        refine avc_block ?_
        refine avc_sq2 ?_
        refine avc_sq ?_
        refine sqa (a_move_d (lq rfl) rfl) ?_
        refine sqa (a_assign_d (lq rfl) rfl) ?_
        refine sq_nil ?_
        refine avc_sq2 ?_
        refine avc_sq ?_
        refine sqa (a_move_d (lq rfl) rfl) ?_
        refine sqa (a_move_d (lq rfl) rfl) ?_
        refine sqa (a_move_d (lq rfl) rfl) ?_
        obtain ⟨t14, ht14, hsy1'⟩ := bE hsy1; clear hsy1
        refine sqa (m_index (en := eS) (lq rfl) S22 rfl rfl ht14) ?_
        refine sqa (m_loadE (en := eS) (l := a0) (i := v8) (v := t14) (off := 0) (lq rfl) O9 rfl ht14 rfl) ?_
        refine sqa (m_seql (a := a1) (b := t14) (lq rfl) rfl rfl) ?_
        refine sq_nil ?_
        refine avc_if rfl ⟨fun c2 => ?_, fun c2 => ?_⟩
        · replace hsy1' := cT c2 hsy1'
          refine avc_sq2 ?_
          refine avc_sq ?_
          refine sqa (a_move_d (lq rfl) rfl) ?_
          refine sqa (a_assign_d (lq rfl) rfl) ?_
          refine sq_nil ?_
          refine avc_ret ?_
          cases hsy1'
          intro q; cases q
          exact out_mk (weak_cov ⟨rfl, trivial⟩ trivial)
        · replace hsy1' := cF c2 hsy1'
          refine avc_skip ?_
          refine avc_sq ?_
          refine sqa (m_add (lq rfl) rfl rfl) ?_
          refine sqa (a_move_d (lq rfl) rfl) ?_
          refine sq_nil ?_
          cases hsy1'
          exact weak_cov ⟨rfl, rfl, rfl, rfl, trivial⟩ trivial
      · replace hsy1 := cF c1 hsy1
        refine avc_exit ?_
        cases hsy1
        intro q; cases q
    ·
      cases h'
      exact ret_1 rfl

theorem slices_Contains_string_string_c  {a0 : (List Str)} {a1 : Str}  {r : Bool} (h : slices_Contains_string_string a0 a1 = some r) : Contract Try.prog 38 [(dsl eS a0), (ds a1)] [(db r)] := by
  refine contract_of Try.func38 (by kernel_rfl) rfl (lq rfl) (lq rfl) fun w0 I0 => ?_
  unfold slices_Contains_string_string at h
  refine avc_sq2 ?_
  refine avc_sq ?_
  refine sqa (a_assign_d (lq rfl) rfl) ?_
  refine sq_nil ?_
  refine avc_sq2 ?_
  refine avc_sq ?_
  refine sqa (a_move_d (lq rfl) rfl) ?_
  refine sqa (a_move_d (lq rfl) rfl) ?_
  obtain ⟨t7, ht7, h'⟩ := bE h; clear h
  refine sqa (a_call (lq rfl) rfl (slices_Index_string_string_c ht7)) ?_
  refine sqa (a_geq (lq rfl) rfl rfl) ?_
  refine sqa (a_assign_d (lq rfl) rfl) ?_
  refine sq_nil ?_
  cases h'
  refine avc_ret ?_
  exact ret_1 rfl

theorem scripts_Level_2_c  {a0 : Str} {a1 : (List Str)}  {r : Bool} (h : scripts_Level_2 a0 a1 = some r) : Contract Try.prog 37 [(ds a0), (.pt [(dsl eS a1)])] [(db r)] := by
  refine contract_of Try.func37 (by kernel_rfl) rfl (lq rfl) (lq rfl) fun w0 I0 => ?_
  unfold scripts_Level_2 at h
  refine avc_sq2 ?_
  refine avc_sq ?_
  refine sqa (a_assign_d (lq rfl) rfl) ?_
  refine sq_nil ?_
  refine avc_sq2 ?_
  refine avc_sq ?_
  refine sqa (m_loadPt1 (lq rfl) O22 rfl) ?_
  refine sqa (a_move_d (lq rfl) rfl) ?_
  obtain ⟨t6, ht6, h'⟩ := bE h; clear h
  refine sqa (a_call (lq rfl) rfl (slices_Contains_string_string_c ht6)) ?_
  refine sqa (a_not (lq rfl) rfl) ?_
  refine sqa (a_assign_d (lq rfl) rfl) ?_
  refine sq_nil ?_
  cases h'
  refine avc_ret ?_
  exact ret_1 rfl

theorem slices_IndexFunc_string_string_c {fv1 : DV} {a0 : (List Str)} {a1 : Str → Option (Bool)} (hf1 : ∀ x0 y, a1 x0 = some y → FnC Try.prog fv1 [(ds x0)] [(db y)]) {r : Int} (h : slices_IndexFunc_string_string a0 a1 = some r) : Contract Try.prog 46 [(dsl eS a0), fv1] [(di r)] := by
  refine contract_of Try.func46 (by kernel_rfl) rfl (lq rfl) (lq rfl) fun w0 I0 => ?_
  unfold slices_IndexFunc_string_string at h
  refine avc_sq2 ?_
  refine avc_sq ?_
  refine sqa (a_assign_d (lq rfl) rfl) ?_
  refine sq_nil ?_
  refine avc_sq2 ?_
  refine avc_sq2 ?_
  refine avc_sq ?_
  refine sqa (a_move_d (lq rfl) rfl) ?_
  refine sqa (m_len (en := eS) (l := a0) (lq rfl) S22 rfl) ?_
  refine sqa (a_move_d (lq rfl) rfl) ?_
  refine sq_nil ?_
  refine avc_block ?_
  obtain ⟨y1, hy1, h'⟩ := bE h; clear h
  rcases y1 with y1 | y1
  ·
    replace h' := eL h'
    refine avc_tail (e := .exit 0) (S2 := ⟨[], []⟩) ?_ ?_
    ·
      refine avc_loopM (fun x => ⟨[(0, .d (dsl eS a0)), (1, .d fv1), (7, .d (di (a0.length : Int))), (8, .d (di x))], []⟩) hy1 (weak_cov ⟨rfl, rfl, rfl, rfl, trivial⟩ trivial) ?_
      rintro v8 sy1 hsy1
      replace hsy1 : slices_IndexFunc_string_string_L0 a0 a1 v8 = some sy1 := hsy1
      unfold slices_IndexFunc_string_string_L0 at hsy1
      refine avc_sq2 ?_
      refine avc_sq ?_
      refine sqa (a_lss (lq rfl) rfl rfl) ?_
      refine sq_nil ?_
      refine avc_sq2 ?_
      refine avc_if rfl ⟨fun c1 => ?_, fun c1 => ?_⟩
      · replace hsy1 := cT c1 hsy1
        refine avc_skip ?_
        refine avc_sq2 ?_
        refine avc_block ?_
        refine avc_sq2 ?_
        refine avc_sq ?_
        refine sqa (a_move_d (lq rfl) rfl) ?_
        refine sqa (a_assign_d (lq rfl) rfl) ?_
        refine sq_nil ?_
        refine avc_sq2 ?_
        refine avc_sq ?_
        refine sqa (a_move_d (lq rfl) rfl) ?_
        refine sqa (a_move_d (lq rfl) rfl) ?_
        refine sqa (a_move_d (lq rfl) rfl) ?_
        obtain ⟨t14, ht14, hsy1'⟩ := bE hsy1; clear hsy1
        refine sqa (m_index (en := eS) (lq rfl) S22 rfl rfl ht14) ?_
        refine sqa (m_loadE (en := eS) (l := a0) (i := v8) (v := t14) (off := 0) (lq rfl) O9 rfl ht14 rfl) ?_
        obtain ⟨t16, ht16, hsy1⟩ := bE hsy1'; clear hsy1'
        refine sqa (a_callF (lq rfl) rfl rfl (hf1 _ _ ht16)) ?_
        refine sq_nil ?_
        refine avc_if rfl ⟨fun c2 => ?_, fun c2 => ?_⟩
        · replace hsy1 := cT c2 hsy1
          refine avc_sq2 ?_
          refine avc_sq ?_
          refine sqa (a_move_d (lq rfl) rfl) ?_
          refine sqa (a_assign_d (lq rfl) rfl) ?_
          refine sq_nil ?_
          refine avc_ret ?_
          cases hsy1
          intro q; cases q
        · replace hsy1 := cF c2 hsy1
          refine avc_skip ?_
          refine avc_sq ?_
          refine sqa (m_add (lq rfl) rfl rfl) ?_
          refine sqa (a_move_d (lq rfl) rfl) ?_
          refine sq_nil ?_
          cases hsy1
          exact weak_cov ⟨rfl, rfl, rfl, rfl, trivial⟩ trivial
      · replace hsy1 := cF c1 hsy1
        refine avc_exit ?_
        cases hsy1
        intro q; cases q
        exact out_mk (weak_cov trivial trivial)
    ·
      refine avc_sq2 ?_
      refine avc_sq ?_
      refine sqa (a_assign_d (lq rfl) rfl) ?_
      refine sq_nil ?_
      cases h'
      refine avc_ret ?_
      exact ret_1 rfl
  ·
    replace h' := eR h'
    refine avc_tail (e := .ret) (S2 := ⟨[(4, .d (di y1))], []⟩) ?_ ?_
    ·
      refine avc_loopM (fun x => ⟨[(0, .d (dsl eS a0)), (1, .d fv1), (7, .d (di (a0.length : Int))), (8, .d (di x))], []⟩) hy1 (weak_cov ⟨rfl, rfl, rfl, rfl, trivial⟩ trivial) ?_
      rintro v8 sy1 hsy1
      replace hsy1 : slices_IndexFunc_string_string_L0 a0 a1 v8 = some sy1 := hsy1
      unfold slices_IndexFunc_string_string_L0 at hsy1
      refine avc_sq2 ?_
      refine avc_sq ?_
      refine sqa (a_lss (lq rfl) rfl rfl) ?_
      refine sq_nil ?_
      refine avc_sq2 ?_
      refine avc_if rfl ⟨fun c1 => ?_, fun c1 => ?_⟩
      · replace hsy1 := cT c1 hsy1
        refine avc_skip ?_
        refine avc_sq2 ?_
        refine avc_block ?_
        refine avc_sq2 ?_
        refine avc_sq ?_
        refine sqa (a_move_d (lq rfl) rfl) ?_
        refine sqa (a_assign_d (lq rfl) rfl) ?_
        refine sq_nil ?_
        refine avc_sq2 ?_
        refine avc_sq ?_
        refine sqa (a_move_d (lq rfl) rfl) ?_
        refine sqa (a_move_d (lq rfl) rfl) ?_
        refine sqa (a_move_d (lq rfl) rfl) ?_
        obtain ⟨t14, ht14, hsy1'⟩ := bE hsy1; clear hsy1
        refine sqa (m_index (en := eS) (lq rfl) S22 rfl rfl ht14) ?_
        refine sqa (m_loadE (en := eS) (l := a0) (i := v8) (v := t14) (off := 0) (lq rfl) O9 rfl ht14 rfl) ?_
        obtain ⟨t16, ht16, hsy1⟩ := bE hsy1'; clear hsy1'
        refine sqa (a_callF (lq rfl) rfl rfl (hf1 _ _ ht16)) ?_
        refine sq_nil ?_
        refine avc_if rfl ⟨fun c2 => ?_, fun c2 => ?_⟩
        · replace hsy1 := cT c2 hsy1
          refine avc_sq2 ?_
          refine avc_sq ?_
          refine sqa (a_move_d (lq rfl) rfl) ?_
          refine sqa (a_assign_d (lq rfl) rfl) ?_
          refine sq_nil ?_
          refine avc_ret ?_
          cases hsy1
          intro q; cases q
          exact out_mk (weak_cov ⟨rfl, trivial⟩ trivial)
        · replace hsy1 := cF c2 hsy1
          refine avc_skip ?_
          refine avc_sq ?_
          refine sqa (m_add (lq rfl) rfl rfl) ?_
          refine sqa (a_move_d (lq rfl) rfl) ?_
          refine sq_nil ?_
          cases hsy1
          exact weak_cov ⟨rfl, rfl, rfl, rfl, trivial⟩ trivial
      · replace hsy1 := cF c1 hsy1
        refine avc_exit ?_
        cases hsy1
        intro q; cases q
    ·
      cases h'
      exact ret_1 rfl

theorem slices_ContainsFunc_string_string_c {fv1 : DV} {a0 : (List Str)} {a1 : Str → Option (Bool)} (hf1 : ∀ x0 y, a1 x0 = some y → FnC Try.prog fv1 [(ds x0)] [(db y)]) {r : Bool} (h : slices_ContainsFunc_string_string a0 a1 = some r) : Contract Try.prog 36 [(dsl eS a0), fv1] [(db r)] := by
  refine contract_of Try.func36 (by kernel_rfl) rfl (lq rfl) (lq rfl) fun w0 I0 => ?_
  unfold slices_ContainsFunc_string_string at h
  refine avc_sq2 ?_
  refine avc_sq ?_
  refine sqa (a_assign_d (lq rfl) rfl) ?_
  refine sq_nil ?_
  refine avc_sq2 ?_
  refine avc_sq ?_
  refine sqa (a_move_d (lq rfl) rfl) ?_
  refine sqa (a_move_d (lq rfl) rfl) ?_
  obtain ⟨t7, ht7, h'⟩ := bE h; clear h
  refine sqa (a_call (lq rfl) rfl (slices_IndexFunc_string_string_c hf1 ht7)) ?_
  refine sqa (a_geq (lq rfl) rfl rfl) ?_
  refine sqa (a_assign_d (lq rfl) rfl) ?_
  refine sq_nil ?_
  cases h'
  refine avc_ret ?_
  exact ret_1 rfl

theorem scripts_Level_c  {a0 : Property} {a1 : (List (List Str))} {a2 : (List Int)}  {r : Int} (h : scripts_Level a0 a1 a2 = some r) : Contract Try.prog 20 [(eProperty.dv a0), (dsl (eL eS) a1), (dsl eI a2)] [(di r)] := by
  refine contract_of Try.func20 (by kernel_rfl) rfl (lq rfl) (lq rfl) fun w0 I0 => ?_
  unfold scripts_Level at h
  refine avc_sq2 ?_
  refine avc_sq ?_
  refine sqa (m_box (size := 2) (lq rfl) rfl rfl) ?_
  refine sqa (a_assign_d (lq rfl) rfl) ?_
  refine sq_nil ?_
  refine avc_sq2 ?_
  refine avc_sq2 ?_
  refine avc_sq ?_
  refine sqa (a_move_d (lq rfl) rfl) ?_
  obtain ⟨t11, ht11, h'⟩ := bE h; clear h
  refine sqa (a_call (lq rfl) rfl (slices_ContainsFunc_int_int_c (fun _ _ q => .inr ⟨_, rfl, scripts_Level_1_c q⟩) ht11)) ?_
  refine sqa (a_not (lq rfl) rfl) ?_
  refine sq_nil ?_
  refine avc_if rfl ⟨fun c1 => ?_, fun c1 => ?_⟩
  · replace h' := cT c1 h'
    refine avc_sq2 ?_
    refine avc_sq ?_
    refine sqa (a_assign_d (lq rfl) rfl) ?_
    refine sq_nil ?_
    cases h'
    refine avc_ret ?_
    exact ret_1 rfl
  · replace h' := cF c1 h'
    refine avc_skip ?_
    refine avc_sq2 ?_
    refine avc_sq ?_
    refine sqa (m_loadPt (lq rfl) G25 rfl rfl) ?_
    refine sqa (a_move_d (lq rfl) rfl) ?_
    obtain ⟨t15, ht15, h⟩ := bE h'; clear h'
    refine sqa (a_call (lq rfl) rfl (scripts_Of_c ht15)) ?_
    refine sqa (a_assign_d (lq rfl) rfl) ?_
    refine sq_nil ?_
    refine avc_sq2 ?_
    refine avc_sq2 ?_
    refine avc_sq ?_
    refine sqa (a_move_d (lq rfl) rfl) ?_
    refine sqa (m_len (en := eS) (l := t15) (lq rfl) S22 rfl) ?_
    refine sqa (a_leq (lq rfl) rfl rfl) ?_
    refine sq_nil ?_
    refine avc_if rfl ⟨fun c2 => ?_, fun c2 => ?_⟩
    · replace h := cT c2 h
      refine avc_sq2 ?_
      refine avc_sq ?_
      refine sqa (a_assign_d (lq rfl) rfl) ?_
      refine sq_nil ?_
      cases h
      refine avc_ret ?_
      exact ret_1 rfl
    · replace h := cF c2 h
      refine avc_skip ?_
      refine avc_sq2 ?_
      refine avc_sq2 ?_
      refine avc_sq ?_
      refine sqa (a_move_d (lq rfl) rfl) ?_
      refine sqa (m_len (en := (eL eS)) (l := a1) (lq rfl) S34 rfl) ?_
      refine sqa (a_move_d (lq rfl) rfl) ?_
      refine sq_nil ?_
      refine avc_block ?_
      obtain ⟨y1, hy1, h'⟩ := bE h; clear h
      rcases y1 with y1 | y1
      ·
        replace h' := eL h'
        refine avc_tail (e := .exit 0) (S2 := ⟨[], []⟩) ?_ ?_
        ·
          refine avc_loopM (fun x => ⟨[(7, .d (dsl eS t15)), (19, .d (dsl (eL eS) a1)), (20, .d (di (a1.length : Int))), (21, .d (di x))], []⟩) hy1 (weak_cov ⟨rfl, rfl, rfl, rfl, trivial⟩ trivial) ?_
          rintro v21 sy1 hsy1
          replace hsy1 : scripts_Level_L0 a1 t15 v21 = some sy1 := hsy1
          unfold scripts_Level_L0 at hsy1
          refine avc_sq2 ?_
          refine avc_sq ?_
          refine sqa (a_lss (lq rfl) rfl rfl) ?_
          refine sq_nil ?_
          refine avc_sq2 ?_
          refine avc_if rfl ⟨fun c3 => ?_, fun c3 => ?_⟩
          · replace hsy1 := cT c3 hsy1
            refine avc_skip ?_
            refine avc_sq2 ?_
            refine avc_block ?_
            refine avc_sq2 ?_
            refine avc_sq ?_
            obtain ⟨t23, ht23, hsy1'⟩ := bE hsy1; clear hsy1
            refine sqa (m_index (en := (eL eS)) (lq rfl) S34 rfl rfl ht23) ?_
            refine sqa (m_loadE (en := (eL eS)) (l := a1) (i := v21) (v := t23) (off := 0) (lq rfl) O22 rfl ht23 rfl) ?_
            refine sq_b rfl (step_alloc (zs := [(.slice none 0 0)]) (lq rfl) (by kernel_rfl) rfl rfl) ?_
            refine sq_b rfl (s_store_box_d O22 rfl rfl (lq rfl) rfl rfl rfl) ?_
            refine sq_nil ?_
            refine avc_weak (weak_freeze (t := 9) (lq rfl) rfl rfl rfl) ?_
            refine avc_sq2 ?_
            refine avc_sq ?_
            refine sqa (a_move_d (lq rfl) rfl) ?_
            refine sqa (a_makeFunc (lq rfl) rfl) ?_
            obtain ⟨t27, ht27, hsy1⟩ := bE hsy1'; clear hsy1'
            refine sqa (a_call (lq rfl) rfl (slices_ContainsFunc_string_string_c (fun _ _ q => .inl ⟨_, _, rfl, scripts_Level_2_c q⟩) ht27)) ?_
            refine sqa (a_not (lq rfl) rfl) ?_
            refine sq_nil ?_
            refine avc_if rfl ⟨fun c4 => ?_, fun c4 => ?_⟩
            · replace hsy1 := cT c4 hsy1
              refine avc_sq2 ?_
              refine avc_sq ?_
              refine sqa (a_assign_d (lq rfl) rfl) ?_
              refine sq_nil ?_
              refine avc_ret ?_
              cases hsy1
              intro q; cases q
            · replace hsy1 := cF c4 hsy1
              refine avc_skip ?_
              refine avc_sq ?_
              refine sqa (m_add (lq rfl) rfl rfl) ?_
              refine sqa (a_move_d (lq rfl) rfl) ?_
              refine sq_nil ?_
              cases hsy1
              exact weak_cov ⟨rfl, rfl, rfl, rfl, trivial⟩ trivial
          · replace hsy1 := cF c3 hsy1
            refine avc_exit ?_
            cases hsy1
            intro q; cases q
            exact out_mk (weak_cov trivial trivial)
        ·
          refine avc_sq2 ?_
          refine avc_sq ?_
          refine sqa (a_assign_d (lq rfl) rfl) ?_
          refine sq_nil ?_
          cases h'
          refine avc_ret ?_
          exact ret_1 rfl
      ·
        replace h' := eR h'
        refine avc_tail (e := .ret) (S2 := ⟨[(6, .d (di y1))], []⟩) ?_ ?_
        ·
          refine avc_loopM (fun x => ⟨[(7, .d (dsl eS t15)), (19, .d (dsl (eL eS) a1)), (20, .d (di (a1.length : Int))), (21, .d (di x))], []⟩) hy1 (weak_cov ⟨rfl, rfl, rfl, rfl, trivial⟩ trivial) ?_
          rintro v21 sy1 hsy1
          replace hsy1 : scripts_Level_L0 a1 t15 v21 = some sy1 := hsy1
          unfold scripts_Level_L0 at hsy1
          refine avc_sq2 ?_
          refine avc_sq ?_
          refine sqa (a_lss (lq rfl) rfl rfl) ?_
          refine sq_nil ?_
          refine avc_sq2 ?_
          refine avc_if rfl ⟨fun c3 => ?_, fun c3 => ?_⟩
          · replace hsy1 := cT c3 hsy1
            refine avc_skip ?_
            refine avc_sq2 ?_
            refine avc_block ?_
            refine avc_sq2 ?_
            refine avc_sq ?_
            obtain ⟨t23, ht23, hsy1'⟩ := bE hsy1; clear hsy1
            refine sqa (m_index (en := (eL eS)) (lq rfl) S34 rfl rfl ht23) ?_
            refine sqa (m_loadE (en := (eL eS)) (l := a1) (i := v21) (v := t23) (off := 0) (lq rfl) O22 rfl ht23 rfl) ?_
            refine sq_b rfl (step_alloc (zs := [(.slice none 0 0)]) (lq rfl) (by kernel_rfl) rfl rfl) ?_
            refine sq_b rfl (s_store_box_d O22 rfl rfl (lq rfl) rfl rfl rfl) ?_
            refine sq_nil ?_
            refine avc_weak (weak_freeze (t := 9) (lq rfl) rfl rfl rfl) ?_
            refine avc_sq2 ?_
            refine avc_sq ?_
            refine sqa (a_move_d (lq rfl) rfl) ?_
            refine sqa (a_makeFunc (lq rfl) rfl) ?_
            obtain ⟨t27, ht27, hsy1⟩ := bE hsy1'; clear hsy1'
            refine sqa (a_call (lq rfl) rfl (slices_ContainsFunc_string_string_c (fun _ _ q => .inl ⟨_, _, rfl, scripts_Level_2_c q⟩) ht27)) ?_
            refine sqa (a_not (lq rfl) rfl) ?_
            refine sq_nil ?_
            refine avc_if rfl ⟨fun c4 => ?_, fun c4 => ?_⟩
            · replace hsy1 := cT c4 hsy1
              refine avc_sq2 ?_
              refine avc_sq ?_
              refine sqa (a_assign_d (lq rfl) rfl) ?_
              refine sq_nil ?_
              refine avc_ret ?_
              cases hsy1
              intro q; cases q
              exact out_mk (weak_cov ⟨rfl, trivial⟩ trivial)
            · replace hsy1 := cF c4 hsy1
              refine avc_skip ?_
              refine avc_sq ?_
              refine sqa (m_add (lq rfl) rfl rfl) ?_
              refine sqa (a_move_d (lq rfl) rfl) ?_
              refine sq_nil ?_
              cases hsy1
              exact weak_cov ⟨rfl, rfl, rfl, rfl, trivial⟩ trivial
          · replace hsy1 := cF c3 hsy1
            refine avc_exit ?_
            cases hsy1
            intro q; cases q
        ·
          cases h'
          exact ret_1 rfl

theorem law40_alive_c    {r : Bool} (h : law40_alive  = some r) : Contract Try.prog 11 [] [(db r)] := by
  refine contract_of Try.func11 (by kernel_rfl) rfl (lq rfl) (lq rfl) fun w0 I0 => ?_
  unfold law40_alive at h
  refine avc_sq2 ?_
  refine avc_sq ?_
  refine sqa (a_assign_d (lq rfl) rfl) ?_
  refine sq_nil ?_
  refine avc_sq2 ?_
  refine avc_sq ?_
  refine sqa (a_lit (lq rfl) S22 rfl rfl rfl rfl (by decide) rfl) ?_
  refine sqa (m_build (lq rfl) B45 rfl rfl) ?_
  refine sqa (m_build (lq rfl) B45 rfl rfl) ?_
  refine sqa (a_lit (lq rfl) S23 rfl rfl rfl rfl (by decide) rfl) ?_
  refine sqa (m_build (lq rfl) B25 rfl rfl) ?_
  refine sq_b rfl (step_alloc (zs := [(.slice none 0 0), (.slice none 0 0)]) (lq rfl) (by kernel_rfl) rfl rfl) ?_
  refine sq_b rfl (s_store_boxA G25 rfl rfl rfl rfl rfl rfl) ?_
  refine sq_nil ?_
  refine avc_weak (weak_freeze (t := 1) (lq rfl) rfl rfl rfl) ?_
  refine avc_sq2 ?_
  refine avc_sq ?_
  refine sqa (a_lit (lq rfl) S26 rfl rfl rfl rfl (by decide) rfl) ?_
  refine sqa (a_assign_d (lq rfl) rfl) ?_
  refine sq_nil ?_
  refine avc_sq2 ?_
  refine avc_sq ?_
  refine sqa (m_loadPt (lq rfl) G25 rfl rfl) ?_
  refine sqa (a_move_d (lq rfl) rfl) ?_
  obtain ⟨t11, ht11, h'⟩ := bE h; clear h
  refine sqa (a_call (lq rfl) rfl (scripts_Runs_c ht11)) ?_
  refine sqa (m_build (lq rfl) B38 rfl rfl) ?_
  refine sqa (m_build (lq rfl) B38 rfl rfl) ?_
  refine sqa (a_lit (lq rfl) S32 rfl rfl rfl rfl (by decide) rfl) ?_
  obtain ⟨t15, ht15, h⟩ := bE h'; clear h'
  refine sqa (a_call (lq rfl) rfl (ref30_SameRanges_c ht15)) ?_
  obtain ⟨b16, hb16, h'⟩ := bE h; clear h
  refine sqa ((a_move_d (lq rfl) rfl).bool (Option.some.inj hb16)) ?_
  refine sq_g (x := .d (eProperty.dv ({ Names := [[67, 111, 109, 109, 111, 110], [76, 97, 116, 105, 110], [71, 114, 101, 101, 107]], Spans := [({ Lo := 97, Hi := 122, Value := 1 } : Span), ({ Lo := 945, Hi := 969, Value := 2 } : Span)] } : Property))) rfl rfl rfl (lq rfl) (lq rfl) rfl (fun hb => by obtain rfl : b16 = true := hb; exact m_loadPt (lq rfl) G25 rfl rfl) ?_
  refine sq_g (x := .d (dsl eI [97, 49, 946])) rfl rfl rfl (lq rfl) (lq rfl) rfl (fun hb => by obtain rfl : b16 = true := hb; exact a_move_d (lq rfl) rfl) ?_
  obtain ⟨t19, ht19, h⟩ := bE h'; clear h'
  refine sq_g (x := .d (db t19)) rfl rfl rfl (lq rfl) (lq rfl) rfl (fun hb => by obtain rfl : b16 = true := hb; exact a_call (lq rfl) rfl (scripts_Mixed_c ht19)) ?_
  refine sqa (a_pick_and (lq rfl) rfl rfl) ?_
  obtain ⟨b21, hb21, h'⟩ := bE h; clear h
  refine sqa ((a_move_d (lq rfl) rfl).bool (Option.some.inj hb21)) ?_
  refine sq_g (x := .d (eProperty.dv ({ Names := [[67, 111, 109, 109, 111, 110], [76, 97, 116, 105, 110], [71, 114, 101, 101, 107]], Spans := [({ Lo := 97, Hi := 122, Value := 1 } : Span), ({ Lo := 945, Hi := 969, Value := 2 } : Span)] } : Property))) rfl rfl rfl (lq rfl) (lq rfl) rfl (fun hb => by obtain rfl : b21 = true := hb; exact m_loadPt (lq rfl) G25 rfl rfl) ?_
  refine sq_g (x := .d (dsl eI [97, 49, 946])) rfl rfl rfl (lq rfl) (lq rfl) rfl (fun hb => by obtain rfl : b21 = true := hb; exact a_move_d (lq rfl) rfl) ?_
  obtain ⟨t24, ht24, h⟩ := bE h'; clear h'
  refine sq_g (x := .d (dsl eS t24)) rfl rfl rfl (lq rfl) (lq rfl) rfl (fun hb => by obtain rfl : b21 = true := hb; exact a_call (lq rfl) rfl (scripts_Of_c ht24)) ?_
  refine sq_g (x := .d (dsl eS ([[71, 114, 101, 101, 107], [76, 97, 116, 105, 110]]))) rfl rfl rfl (lq rfl) (lq rfl) rfl (fun hb => by obtain rfl : b21 = true := hb; exact a_lit (lq rfl) S22 rfl rfl rfl rfl (by decide) rfl) ?_
  obtain ⟨t26, ht26, h'⟩ := bE h; clear h
  refine sq_g (x := .d (db t26)) rfl rfl rfl (lq rfl) (lq rfl) rfl (fun hb => by obtain rfl : b21 = true := hb; exact a_call (lq rfl) rfl (ref09_Strings_c ht26)) ?_
  refine sqa (a_pick_and (lq rfl) rfl rfl) ?_
  obtain ⟨b28, hb28, h⟩ := bE h'; clear h'
  refine sqa ((a_move_d (lq rfl) rfl).bool (Option.some.inj hb28)) ?_
  refine sq_g (x := .d (eProperty.dv ({ Names := [[67, 111, 109, 109, 111, 110], [76, 97, 116, 105, 110], [71, 114, 101, 101, 107]], Spans := [({ Lo := 97, Hi := 122, Value := 1 } : Span), ({ Lo := 945, Hi := 969, Value := 2 } : Span)] } : Property))) rfl rfl rfl (lq rfl) (lq rfl) rfl (fun hb => by obtain rfl : b28 = true := hb; exact m_loadPt (lq rfl) G25 rfl rfl) ?_
  refine sq_g (x := .d (dsl eI [97, 49, 946])) rfl rfl rfl (lq rfl) (lq rfl) rfl (fun hb => by obtain rfl : b28 = true := hb; exact a_move_d (lq rfl) rfl) ?_
  obtain ⟨t31, ht31, h'⟩ := bE h; clear h
  refine sq_g (x := .d (di t31)) rfl rfl rfl (lq rfl) (lq rfl) rfl (fun hb => by obtain rfl : b28 = true := hb; exact a_call (lq rfl) rfl (con_nil (scripts_Level_c ht31) (nlE (nlN (nlE nl0))))) ?_
  refine sq_g (x := .d (db (decide (t31 = 4)))) rfl rfl rfl (lq rfl) (lq rfl) rfl (fun hb => by obtain rfl : b28 = true := hb; exact a_eql (lq rfl) rfl rfl) ?_
  refine sqa (a_pick_and (lq rfl) rfl rfl) ?_
  refine sqa (a_assign_d (lq rfl) rfl) ?_
  refine sq_nil ?_
  cases h'
  refine avc_ret ?_
  exact ret_1 rfl

theorem ref10_Named_c  {a0 : Str}  {r : Bool} (h : ref10_Named a0 = some r) : Contract Try.prog 72 [(ds a0)] [(db r)] := by
  refine contract_of Try.func72 (by kernel_rfl) rfl (lq rfl) (lq rfl) fun w0 I0 => ?_
  unfold ref10_Named at h
  refine avc_sq2 ?_
  refine avc_sq ?_
  refine sqa (a_assign_d (lq rfl) rfl) ?_
  refine sq_nil ?_
  refine avc_sq2 ?_
  refine avc_sq2 ?_
  refine avc_sq ?_
  refine sqa (a_move_d (lq rfl) rfl) ?_
  refine sqa (m_slen (s := a0) (lq rfl) Try.underlying9 rfl) ?_
  refine sqa (a_lss (lq rfl) rfl rfl) ?_
  obtain ⟨b8, hb8, h'⟩ := bE h; clear h
  refine sqa ((a_move_d (lq rfl) rfl).bool (Option.some.inj hb8)) ?_
  refine sq_g (x := .d (ds a0)) rfl rfl rfl (lq rfl) (lq rfl) rfl (fun hb => by obtain rfl := gF hb; exact a_move_d (lq rfl) rfl) ?_
  refine sq_g (x := .d (di (a0.length : Int))) rfl rfl rfl (lq rfl) (lq rfl) rfl (fun hb => by obtain rfl := gF hb; exact m_slen (s := a0) (lq rfl) Try.underlying9 rfl) ?_
  refine sq_g (x := .d (db (decide (32 < (a0.length : Int))))) rfl rfl rfl (lq rfl) (lq rfl) rfl (fun hb => by obtain rfl := gF hb; exact a_gtr (lq rfl) rfl rfl) ?_
  refine sqa (a_pick_or (lq rfl) rfl rfl) ?_
  refine sq_nil ?_
  refine avc_if rfl ⟨fun c1 => ?_, fun c1 => ?_⟩
  · replace h' := cT c1 h'
    refine avc_sq2 ?_
    refine avc_sq ?_
    refine sqa (a_assign_d (lq rfl) rfl) ?_
    refine sq_nil ?_
    cases h'
    refine avc_ret ?_
    exact ret_1 rfl
  · replace h' := cF c1 h'
    refine avc_skip ?_
    refine avc_sq2 ?_
    refine avc_sq2 ?_
    refine avc_sq ?_
    refine sqa (a_assign_d (lq rfl) rfl) ?_
    refine sq_nil ?_
    refine avc_block ?_
    obtain ⟨y1, hy1, h⟩ := bE h'; clear h'
    rcases y1 with y1 | y1
    ·
      replace h := eL h
      refine avc_tail (e := .exit 0) (S2 := ⟨[], []⟩) ?_ ?_
      ·
        refine avc_loopM (fun x => ⟨[(0, .d (ds a0)), (3, .d (di x))], []⟩) hy1 (weak_cov ⟨rfl, rfl, trivial⟩ trivial) ?_
        rintro v3 sy1 hsy1
        replace hsy1 : ref10_Named_L0 a0 v3 = some sy1 := hsy1
        unfold ref10_Named_L0 at hsy1
        refine avc_sq2 ?_
        refine avc_sq2 ?_
        refine avc_sq ?_
        refine sqa (a_move_d (lq rfl) rfl) ?_
        refine sqa (a_move_d (lq rfl) rfl) ?_
        refine sqa (m_slen (s := a0) (lq rfl) Try.underlying9 rfl) ?_
        refine sqa (a_lss (lq rfl) rfl rfl) ?_
        refine sq_nil ?_
        refine avc_if rfl ⟨fun c2 => ?_, fun c2 => ?_⟩
        · replace hsy1 := cT c2 hsy1
          refine avc_skip ?_
          refine avc_sq2 ?_
          refine avc_block ?_
          refine avc_sq2 ?_
          refine avc_sq ?_
          refine sqa (a_move_d (lq rfl) rfl) ?_
          refine sqa (a_move_d (lq rfl) rfl) ?_
          obtain ⟨t21, ht21, hsy1'⟩ := bE hsy1; clear hsy1
          refine sqa (m_sindex (s := a0) (lq rfl) Try.underlying9 rfl rfl ht21) ?_
          refine sqa (a_assign_d (lq rfl) rfl) ?_
          refine sq_nil ?_
          refine avc_sq2 ?_
          refine avc_sq ?_
          refine sqa (a_move_d (lq rfl) rfl) ?_
          refine sqa (a_geq (lq rfl) rfl rfl) ?_
          obtain ⟨b24, hb24, hsy1⟩ := bE hsy1'; clear hsy1'
          refine sqa ((a_move_d (lq rfl) rfl).bool (Option.some.inj hb24)) ?_
          refine sq_g (x := .d (dby t21)) rfl rfl rfl (lq rfl) (lq rfl) rfl (fun hb => by obtain rfl : b24 = true := hb; exact a_move_d (lq rfl) rfl) ?_
          refine sq_g (x := .d (db (decide (t21 ≤ 90)))) rfl rfl rfl (lq rfl) (lq rfl) rfl (fun hb => by obtain rfl : b24 = true := hb; exact a_leq (lq rfl) rfl rfl) ?_
          refine sqa (a_pick_and (lq rfl) rfl rfl) ?_
          obtain ⟨b28, hb28, hsy1'⟩ := bE hsy1; clear hsy1
          refine sqa ((a_move_d (lq rfl) rfl).bool (Option.some.inj hb28)) ?_
          refine sq_g (x := .d (dby t21)) rfl rfl rfl (lq rfl) (lq rfl) rfl (fun hb => by obtain rfl := gF hb; exact a_move_d (lq rfl) rfl) ?_
          refine sq_g (x := .d (db (decide (97 ≤ t21)))) rfl rfl rfl (lq rfl) (lq rfl) rfl (fun hb => by obtain rfl := gF hb; exact a_geq (lq rfl) rfl rfl) ?_
          obtain ⟨b31, hb31, hsy1⟩ := bE hsy1'; clear hsy1'
          refine sq_g (x := .d (db b31)) rfl rfl rfl (lq rfl) (lq rfl) rfl (fun hb => by obtain rfl := gF hb; exact (a_move_d (lq rfl) rfl).bool (Option.some.inj hb31)) ?_
          refine sq_g2 (x := .d (dby t21)) rfl rfl rfl (lq rfl) (lq rfl) rfl (fun hb => by obtain ⟨hb, hb1⟩ := and_split hb; obtain rfl := gF hb; obtain rfl : b31 = true := hb1; exact a_move_d (lq rfl) rfl) ?_
          refine sq_g2 (x := .d (db (decide (t21 ≤ 122)))) rfl rfl rfl (lq rfl) (lq rfl) rfl (fun hb => by obtain ⟨hb, hb1⟩ := and_split hb; obtain rfl := gF hb; obtain rfl : b31 = true := hb1; exact a_leq (lq rfl) rfl rfl) ?_
          refine sq_g (x := .d (db (b31 && (decide (t21 ≤ 122))))) rfl rfl rfl (lq rfl) (lq rfl) rfl (fun hb => by obtain rfl := gF hb; exact a_pick_and (lq rfl) rfl rfl) ?_
          refine sqa (a_pick_or (lq rfl) rfl rfl) ?_
          obtain ⟨b36, hb36, hsy1'⟩ := bE hsy1; clear hsy1
          refine sqa ((a_move_d (lq rfl) rfl).bool (Option.some.inj hb36)) ?_
          refine sq_g (x := .d (dby t21)) rfl rfl rfl (lq rfl) (lq rfl) rfl (fun hb => by obtain rfl := gF hb; exact a_move_d (lq rfl) rfl) ?_
          refine sq_g (x := .d (db (decide (48 ≤ t21)))) rfl rfl rfl (lq rfl) (lq rfl) rfl (fun hb => by obtain rfl := gF hb; exact a_geq (lq rfl) rfl rfl) ?_
          obtain ⟨b39, hb39, hsy1⟩ := bE hsy1'; clear hsy1'
          refine sq_g (x := .d (db b39)) rfl rfl rfl (lq rfl) (lq rfl) rfl (fun hb => by obtain rfl := gF hb; exact (a_move_d (lq rfl) rfl).bool (Option.some.inj hb39)) ?_
          refine sq_g2 (x := .d (dby t21)) rfl rfl rfl (lq rfl) (lq rfl) rfl (fun hb => by obtain ⟨hb, hb1⟩ := and_split hb; obtain rfl := gF hb; obtain rfl : b39 = true := hb1; exact a_move_d (lq rfl) rfl) ?_
          refine sq_g2 (x := .d (db (decide (t21 ≤ 57)))) rfl rfl rfl (lq rfl) (lq rfl) rfl (fun hb => by obtain ⟨hb, hb1⟩ := and_split hb; obtain rfl := gF hb; obtain rfl : b39 = true := hb1; exact a_leq (lq rfl) rfl rfl) ?_
          refine sq_g (x := .d (db (b39 && (decide (t21 ≤ 57))))) rfl rfl rfl (lq rfl) (lq rfl) rfl (fun hb => by obtain rfl := gF hb; exact a_pick_and (lq rfl) rfl rfl) ?_
          refine sqa (a_pick_or (lq rfl) rfl rfl) ?_
          obtain ⟨b44, hb44, hsy1'⟩ := bE hsy1; clear hsy1
          refine sqa ((a_move_d (lq rfl) rfl).bool (Option.some.inj hb44)) ?_
          refine sq_g (x := .d (dby t21)) rfl rfl rfl (lq rfl) (lq rfl) rfl (fun hb => by obtain rfl := gF hb; exact a_move_d (lq rfl) rfl) ?_
          refine sq_g (x := .d (db (decide (t21 = 95)))) rfl rfl rfl (lq rfl) (lq rfl) rfl (fun hb => by obtain rfl := gF hb; exact a_eql (lq rfl) rfl rfl) ?_
          refine sqa (a_pick_or (lq rfl) rfl rfl) ?_
          refine sqa (a_not (lq rfl) rfl) ?_
          refine sq_nil ?_
          refine avc_if rfl ⟨fun c3 => ?_, fun c3 => ?_⟩
          · replace hsy1' := cT c3 hsy1'
            refine avc_sq2 ?_
            refine avc_sq ?_
            refine sqa (a_assign_d (lq rfl) rfl) ?_
            refine sq_nil ?_
            refine avc_ret ?_
            cases hsy1'
            intro q; cases q
          · replace hsy1' := cF c3 hsy1'
            refine avc_skip ?_
            refine avc_sq ?_
            refine sqa (a_move_d (lq rfl) rfl) ?_
            refine sqa (m_add (lq rfl) rfl rfl) ?_
            refine sqa (a_assign_d (lq rfl) rfl) ?_
            refine sq_nil ?_
            cases hsy1'
            exact weak_cov ⟨rfl, rfl, trivial⟩ trivial
        · replace hsy1 := cF c2 hsy1
          refine avc_exit ?_
          cases hsy1
          intro q; cases q
          exact out_mk (weak_cov trivial trivial)
      ·
        refine avc_sq2 ?_
        refine avc_sq ?_
        refine sqa (a_assign_d (lq rfl) rfl) ?_
        refine sq_nil ?_
        cases h
        refine avc_ret ?_
        exact ret_1 rfl
    ·
      replace h := eR h
      refine avc_tail (e := .ret) (S2 := ⟨[(2, .d (db y1))], []⟩) ?_ ?_
      ·
        refine avc_loopM (fun x => ⟨[(0, .d (ds a0)), (3, .d (di x))], []⟩) hy1 (weak_cov ⟨rfl, rfl, trivial⟩ trivial) ?_
        rintro v3 sy1 hsy1
        replace hsy1 : ref10_Named_L0 a0 v3 = some sy1 := hsy1
        unfold ref10_Named_L0 at hsy1
        refine avc_sq2 ?_
        refine avc_sq2 ?_
        refine avc_sq ?_
        refine sqa (a_move_d (lq rfl) rfl) ?_
        refine sqa (a_move_d (lq rfl) rfl) ?_
        refine sqa (m_slen (s := a0) (lq rfl) Try.underlying9 rfl) ?_
        refine sqa (a_lss (lq rfl) rfl rfl) ?_
        refine sq_nil ?_
        refine avc_if rfl ⟨fun c2 => ?_, fun c2 => ?_⟩
        · replace hsy1 := cT c2 hsy1
          refine avc_skip ?_
          refine avc_sq2 ?_
          refine avc_block ?_
          refine avc_sq2 ?_
          refine avc_sq ?_
          refine sqa (a_move_d (lq rfl) rfl) ?_
          refine sqa (a_move_d (lq rfl) rfl) ?_
          obtain ⟨t21, ht21, hsy1'⟩ := bE hsy1; clear hsy1
          refine sqa (m_sindex (s := a0) (lq rfl) Try.underlying9 rfl rfl ht21) ?_
          refine sqa (a_assign_d (lq rfl) rfl) ?_
          refine sq_nil ?_
          refine avc_sq2 ?_
          refine avc_sq ?_
          refine sqa (a_move_d (lq rfl) rfl) ?_
          refine sqa (a_geq (lq rfl) rfl rfl) ?_
          obtain ⟨b24, hb24, hsy1⟩ := bE hsy1'; clear hsy1'
          refine sqa ((a_move_d (lq rfl) rfl).bool (Option.some.inj hb24)) ?_
          refine sq_g (x := .d (dby t21)) rfl rfl rfl (lq rfl) (lq rfl) rfl (fun hb => by obtain rfl : b24 = true := hb; exact a_move_d (lq rfl) rfl) ?_
          refine sq_g (x := .d (db (decide (t21 ≤ 90)))) rfl rfl rfl (lq rfl) (lq rfl) rfl (fun hb => by obtain rfl : b24 = true := hb; exact a_leq (lq rfl) rfl rfl) ?_
          refine sqa (a_pick_and (lq rfl) rfl rfl) ?_
          obtain ⟨b28, hb28, hsy1'⟩ := bE hsy1; clear hsy1
          refine sqa ((a_move_d (lq rfl) rfl).bool (Option.some.inj hb28)) ?_
          refine sq_g (x := .d (dby t21)) rfl rfl rfl (lq rfl) (lq rfl) rfl (fun hb => by obtain rfl := gF hb; exact a_move_d (lq rfl) rfl) ?_
          refine sq_g (x := .d (db (decide (97 ≤ t21)))) rfl rfl rfl (lq rfl) (lq rfl) rfl (fun hb => by obtain rfl := gF hb; exact a_geq (lq rfl) rfl rfl) ?_
          obtain ⟨b31, hb31, hsy1⟩ := bE hsy1'; clear hsy1'
          refine sq_g (x := .d (db b31)) rfl rfl rfl (lq rfl) (lq rfl) rfl (fun hb => by obtain rfl := gF hb; exact (a_move_d (lq rfl) rfl).bool (Option.some.inj hb31)) ?_
          refine sq_g2 (x := .d (dby t21)) rfl rfl rfl (lq rfl) (lq rfl) rfl (fun hb => by obtain ⟨hb, hb1⟩ := and_split hb; obtain rfl := gF hb; obtain rfl : b31 = true := hb1; exact a_move_d (lq rfl) rfl) ?_
          refine sq_g2 (x := .d (db (decide (t21 ≤ 122)))) rfl rfl rfl (lq rfl) (lq rfl) rfl (fun hb => by obtain ⟨hb, hb1⟩ := and_split hb; obtain rfl := gF hb; obtain rfl : b31 = true := hb1; exact a_leq (lq rfl) rfl rfl) ?_
          refine sq_g (x := .d (db (b31 && (decide (t21 ≤ 122))))) rfl rfl rfl (lq rfl) (lq rfl) rfl (fun hb => by obtain rfl := gF hb; exact a_pick_and (lq rfl) rfl rfl) ?_
          refine sqa (a_pick_or (lq rfl) rfl rfl) ?_
          obtain ⟨b36, hb36, hsy1'⟩ := bE hsy1; clear hsy1
          refine sqa ((a_move_d (lq rfl) rfl).bool (Option.some.inj hb36)) ?_
          refine sq_g (x := .d (dby t21)) rfl rfl rfl (lq rfl) (lq rfl) rfl (fun hb => by obtain rfl := gF hb; exact a_move_d (lq rfl) rfl) ?_
          refine sq_g (x := .d (db (decide (48 ≤ t21)))) rfl rfl rfl (lq rfl) (lq rfl) rfl (fun hb => by obtain rfl := gF hb; exact a_geq (lq rfl) rfl rfl) ?_
          obtain ⟨b39, hb39, hsy1⟩ := bE hsy1'; clear hsy1'
          refine sq_g (x := .d (db b39)) rfl rfl rfl (lq rfl) (lq rfl) rfl (fun hb => by obtain rfl := gF hb; exact (a_move_d (lq rfl) rfl).bool (Option.some.inj hb39)) ?_
          refine sq_g2 (x := .d (dby t21)) rfl rfl rfl (lq rfl) (lq rfl) rfl (fun hb => by obtain ⟨hb, hb1⟩ := and_split hb; obtain rfl := gF hb; obtain rfl : b39 = true := hb1; exact a_move_d (lq rfl) rfl) ?_
          refine sq_g2 (x := .d (db (decide (t21 ≤ 57)))) rfl rfl rfl (lq rfl) (lq rfl) rfl (fun hb => by obtain ⟨hb, hb1⟩ := and_split hb; obtain rfl := gF hb; obtain rfl : b39 = true := hb1; exact a_leq (lq rfl) rfl rfl) ?_
          refine sq_g (x := .d (db (b39 && (decide (t21 ≤ 57))))) rfl rfl rfl (lq rfl) (lq rfl) rfl (fun hb => by obtain rfl := gF hb; exact a_pick_and (lq rfl) rfl rfl) ?_
          refine sqa (a_pick_or (lq rfl) rfl rfl) ?_
          obtain ⟨b44, hb44, hsy1'⟩ := bE hsy1; clear hsy1
          refine sqa ((a_move_d (lq rfl) rfl).bool (Option.some.inj hb44)) ?_
          refine sq_g (x := .d (dby t21)) rfl rfl rfl (lq rfl) (lq rfl) rfl (fun hb => by obtain rfl := gF hb; exact a_move_d (lq rfl) rfl) ?_
          refine sq_g (x := .d (db (decide (t21 = 95)))) rfl rfl rfl (lq rfl) (lq rfl) rfl (fun hb => by obtain rfl := gF hb; exact a_eql (lq rfl) rfl rfl) ?_
          refine sqa (a_pick_or (lq rfl) rfl rfl) ?_
          refine sqa (a_not (lq rfl) rfl) ?_
          refine sq_nil ?_
          refine avc_if rfl ⟨fun c3 => ?_, fun c3 => ?_⟩
          · replace hsy1' := cT c3 hsy1'
            refine avc_sq2 ?_
            refine avc_sq ?_
            refine sqa (a_assign_d (lq rfl) rfl) ?_
            refine sq_nil ?_
            refine avc_ret ?_
            cases hsy1'
            intro q; cases q
            exact out_mk (weak_cov ⟨rfl, trivial⟩ trivial)
          · replace hsy1' := cF c3 hsy1'
            refine avc_skip ?_
            refine avc_sq ?_
            refine sqa (a_move_d (lq rfl) rfl) ?_
            refine sqa (m_add (lq rfl) rfl rfl) ?_
            refine sqa (a_assign_d (lq rfl) rfl) ?_
            refine sq_nil ?_
            cases hsy1'
            exact weak_cov ⟨rfl, rfl, trivial⟩ trivial
        · replace hsy1 := cF c2 hsy1
          refine avc_exit ?_
          cases hsy1
          intro q; cases q
      ·
        cases h
        exact ret_1 rfl

theorem ref10_names_c  {a0 : (List Str)}  {r : Bool} (h : ref10_names a0 = some r) : Contract Try.prog 62 [(dsl eS a0)] [(db r)] := by
  refine contract_of Try.func62 (by kernel_rfl) rfl (lq rfl) (lq rfl) fun w0 I0 => ?_
  unfold ref10_names at h
  refine avc_sq2 ?_
  refine avc_sq ?_
  refine sqa (a_assign_d (lq rfl) rfl) ?_
  refine sq_nil ?_
  refine avc_sq2 ?_
  refine avc_sq2 ?_
  refine avc_sq ?_
  refine sqa (a_move_d (lq rfl) rfl) ?_
  refine sqa (m_len (en := eS) (l := a0) (lq rfl) S22 rfl) ?_
  refine sqa (a_lss (lq rfl) rfl rfl) ?_
  obtain ⟨b8, hb8, h'⟩ := bE h; clear h
  refine sqa ((a_move_d (lq rfl) rfl).bool (Option.some.inj hb8)) ?_
  refine sq_g (x := .d (dsl eS a0)) rfl rfl rfl (lq rfl) (lq rfl) rfl (fun hb => by obtain rfl := gF hb; exact a_move_d (lq rfl) rfl) ?_
  refine sq_g (x := .d (di (a0.length : Int))) rfl rfl rfl (lq rfl) (lq rfl) rfl (fun hb => by obtain rfl := gF hb; exact m_len (en := eS) (l := a0) (lq rfl) S22 rfl) ?_
  refine sq_g (x := .d (db (decide (250 < (a0.length : Int))))) rfl rfl rfl (lq rfl) (lq rfl) rfl (fun hb => by obtain rfl := gF hb; exact a_gtr (lq rfl) rfl rfl) ?_
  refine sqa (a_pick_or (lq rfl) rfl rfl) ?_
  refine sq_nil ?_
  refine avc_if rfl ⟨fun c1 => ?_, fun c1 => ?_⟩
  · replace h' := cT c1 h'
    refine avc_sq2 ?_
    refine avc_sq ?_
    refine sqa (a_assign_d (lq rfl) rfl) ?_
    refine sq_nil ?_
    cases h'
    refine avc_ret ?_
    exact ret_1 rfl
  · replace h' := cF c1 h'
    refine avc_skip ?_
    refine avc_sq2 ?_
    refine avc_sq2 ?_
    refine avc_sq ?_
    refine sqa (a_assign_d (lq rfl) rfl) ?_
    refine sq_nil ?_
    refine avc_block ?_
    obtain ⟨y1, hy1, h⟩ := bE h'; clear h'
    rcases y1 with y1 | y1
    ·
      replace h := eL h
      refine avc_tail (e := .exit 0) (S2 := ⟨[], []⟩) ?_ ?_
      ·
        refine avc_loopM (fun x => ⟨[(0, .d (dsl eS a0)), (3, .d (di x))], []⟩) hy1 (weak_cov ⟨rfl, rfl, trivial⟩ trivial) ?_
        rintro v3 sy1 hsy1
        replace hsy1 : ref10_names_L0 a0 v3 = some sy1 := hsy1
        unfold ref10_names_L0 at hsy1
        refine avc_sq2 ?_
        refine avc_sq2 ?_
        refine avc_sq ?_
        refine sqa (a_move_d (lq rfl) rfl) ?_
        refine sqa (a_move_d (lq rfl) rfl) ?_
        refine sqa (m_len (en := eS) (l := a0) (lq rfl) S22 rfl) ?_
        refine sqa (a_lss (lq rfl) rfl rfl) ?_
        refine sq_nil ?_
        refine avc_if rfl ⟨fun c2 => ?_, fun c2 => ?_⟩
        · replace hsy1 := cT c2 hsy1
          refine avc_skip ?_
          refine avc_sq2 ?_
          refine avc_block ?_
          refine avc_sq2 ?_
          refine avc_sq2 ?_
          refine avc_sq ?_
          refine sqa (a_move_d (lq rfl) rfl) ?_
          refine sqa (a_move_d (lq rfl) rfl) ?_
          obtain ⟨t21, ht21, hsy1'⟩ := bE hsy1; clear hsy1
          refine sqa (m_index (en := eS) (lq rfl) S22 rfl rfl ht21) ?_
          refine sqa (m_loadE (en := eS) (l := a0) (i := v3) (v := t21) (off := 0) (lq rfl) O9 rfl ht21 rfl) ?_
          obtain ⟨t23, ht23, hsy1⟩ := bE hsy1'; clear hsy1'
          refine sqa (a_call (lq rfl) rfl (ref10_Named_c ht23)) ?_
          refine sqa (a_not (lq rfl) rfl) ?_
          refine sq_nil ?_
          refine avc_if rfl ⟨fun c3 => ?_, fun c3 => ?_⟩
          · replace hsy1 := cT c3 hsy1
            refine avc_sq2 ?_
            refine avc_sq ?_
            refine sqa (a_assign_d (lq rfl) rfl) ?_
            refine sq_nil ?_
            refine avc_ret ?_
            cases hsy1
            intro q; cases q
          · replace hsy1 := cF c3 hsy1
            refine avc_skip ?_
            refine avc_sq2 ?_
            refine avc_sq ?_
            refine sqa (a_assign_d (lq rfl) rfl) ?_
            refine sq_nil ?_
            refine avc_block ?_
            obtain ⟨y2, hy2, hsy1'⟩ := bE hsy1; clear hsy1
            rcases y2 with y2 | y2
            ·
              replace hsy1' := eL hsy1'
              refine avc_tail (e := .exit 2) (S2 := ⟨[(0, .d (dsl eS a0)), (3, .d (di v3))], []⟩) ?_ ?_
              ·
                refine avc_loopM (fun x => ⟨[(0, .d (dsl eS a0)), (3, .d (di v3)), (4, .d (di x))], []⟩) hy2 (weak_cov ⟨rfl, rfl, rfl, trivial⟩ trivial) ?_
                rintro v4 sy2 hsy2
                replace hsy2 : ref10_names_L1 v3 a0 v4 = some sy2 := hsy2
                unfold ref10_names_L1 at hsy2
                refine avc_sq2 ?_
                refine avc_sq2 ?_
                refine avc_sq ?_
                refine sqa (a_move_d (lq rfl) rfl) ?_
                refine sqa (a_move_d (lq rfl) rfl) ?_
                refine sqa (a_lss (lq rfl) rfl rfl) ?_
                refine sq_nil ?_
                refine avc_if rfl ⟨fun c4 => ?_, fun c4 => ?_⟩
                · replace hsy2 := cT c4 hsy2
                  refine avc_skip ?_
                  refine avc_sq2 ?_
                  refine avc_block ?_
                  refine avc_sq2 ?_
                  refine avc_drawA MX rfl ?_
                  refine daa (a_move_d (lq rfl) rfl) ?_
                  refine daa (a_move_d (lq rfl) rfl) ?_
                  obtain ⟨t32, ht32, hsy2'⟩ := bE hsy2; clear hsy2
                  refine daa (m_index (en := eS) (lq rfl) S22 rfl rfl ht32) ?_
                  refine daa (m_loadE (en := eS) (l := a0) (i := v4) (v := t32) (off := 0) (lq rfl) O9 rfl ht32 rfl) ?_
                  refine daa (a_move_d (lq rfl) rfl) ?_
                  refine daa (a_move_d (lq rfl) rfl) ?_
                  obtain ⟨t36, ht36, hsy2⟩ := bE hsy2'; clear hsy2'
                  refine daa (m_index (en := eS) (lq rfl) S22 rfl rfl ht36) ?_
                  refine daa (m_loadE (en := eS) (l := a0) (i := v3) (v := t36) (off := 0) (lq rfl) O9 rfl ht36 rfl) ?_
                  refine daa (m_seql (a := t32) (b := t36) (lq rfl) rfl rfl) ?_
                  refine da_nil ?_
                  refine avc_if rfl ⟨fun c5 => ?_, fun c5 => ?_⟩
                  · replace hsy2 := cT c5 hsy2
                    refine avc_sq2 ?_
                    refine avc_sq ?_
                    refine sqa (a_assign_d (lq rfl) rfl) ?_
                    refine sq_nil ?_
                    refine avc_ret ?_
                    cases hsy2
                    intro q; cases q
                  · replace hsy2 := cF c5 hsy2
                    refine avc_skip ?_
                    refine avc_sq ?_
                    refine sqa (a_move_d (lq rfl) rfl) ?_
                    refine sqa (m_add (lq rfl) rfl rfl) ?_
                    refine sqa (a_assign_d (lq rfl) rfl) ?_
                    refine sq_nil ?_
                    cases hsy2
                    exact weak_cov ⟨rfl, rfl, rfl, trivial⟩ trivial
                · replace hsy2 := cF c4 hsy2
                  refine avc_exit ?_
                  cases hsy2
                  intro q; cases q
                  exact out_mk (weak_cov ⟨rfl, rfl, trivial⟩ trivial)
              ·
                refine avc_sq ?_
                refine sqa (a_move_d (lq rfl) rfl) ?_
                refine sqa (m_add (lq rfl) rfl rfl) ?_
                refine sqa (a_assign_d (lq rfl) rfl) ?_
                refine sq_nil ?_
                cases hsy1'
                exact weak_cov ⟨rfl, rfl, trivial⟩ trivial
            ·
              replace hsy1' := eR hsy1'
              refine avc_tail (e := .ret) (S2 := ⟨[(2, .d (db y2))], []⟩) ?_ ?_
              ·
                refine avc_loopM (fun x => ⟨[(0, .d (dsl eS a0)), (3, .d (di v3)), (4, .d (di x))], []⟩) hy2 (weak_cov ⟨rfl, rfl, rfl, trivial⟩ trivial) ?_
                rintro v4 sy2 hsy2
                replace hsy2 : ref10_names_L1 v3 a0 v4 = some sy2 := hsy2
                unfold ref10_names_L1 at hsy2
                refine avc_sq2 ?_
                refine avc_sq2 ?_
                refine avc_sq ?_
                refine sqa (a_move_d (lq rfl) rfl) ?_
                refine sqa (a_move_d (lq rfl) rfl) ?_
                refine sqa (a_lss (lq rfl) rfl rfl) ?_
                refine sq_nil ?_
                refine avc_if rfl ⟨fun c4 => ?_, fun c4 => ?_⟩
                · replace hsy2 := cT c4 hsy2
                  refine avc_skip ?_
                  refine avc_sq2 ?_
                  refine avc_block ?_
                  refine avc_sq2 ?_
                  refine avc_drawA MX rfl ?_
                  refine daa (a_move_d (lq rfl) rfl) ?_
                  refine daa (a_move_d (lq rfl) rfl) ?_
                  obtain ⟨t32, ht32, hsy2'⟩ := bE hsy2; clear hsy2
                  refine daa (m_index (en := eS) (lq rfl) S22 rfl rfl ht32) ?_
                  refine daa (m_loadE (en := eS) (l := a0) (i := v4) (v := t32) (off := 0) (lq rfl) O9 rfl ht32 rfl) ?_
                  refine daa (a_move_d (lq rfl) rfl) ?_
                  refine daa (a_move_d (lq rfl) rfl) ?_
                  obtain ⟨t36, ht36, hsy2⟩ := bE hsy2'; clear hsy2'
                  refine daa (m_index (en := eS) (lq rfl) S22 rfl rfl ht36) ?_
                  refine daa (m_loadE (en := eS) (l := a0) (i := v3) (v := t36) (off := 0) (lq rfl) O9 rfl ht36 rfl) ?_
                  refine daa (m_seql (a := t32) (b := t36) (lq rfl) rfl rfl) ?_
                  refine da_nil ?_
                  refine avc_if rfl ⟨fun c5 => ?_, fun c5 => ?_⟩
                  · replace hsy2 := cT c5 hsy2
                    refine avc_sq2 ?_
                    refine avc_sq ?_
                    refine sqa (a_assign_d (lq rfl) rfl) ?_
                    refine sq_nil ?_
                    refine avc_ret ?_
                    cases hsy2
                    intro q; cases q
                    exact out_mk (weak_cov ⟨rfl, trivial⟩ trivial)
                  · replace hsy2 := cF c5 hsy2
                    refine avc_skip ?_
                    refine avc_sq ?_
                    refine sqa (a_move_d (lq rfl) rfl) ?_
                    refine sqa (m_add (lq rfl) rfl rfl) ?_
                    refine sqa (a_assign_d (lq rfl) rfl) ?_
                    refine sq_nil ?_
                    cases hsy2
                    exact weak_cov ⟨rfl, rfl, rfl, trivial⟩ trivial
                · replace hsy2 := cF c4 hsy2
                  refine avc_exit ?_
                  cases hsy2
                  intro q; cases q
              ·
                cases hsy1'
                intro q; cases q
        · replace hsy1 := cF c2 hsy1
          refine avc_exit ?_
          cases hsy1
          intro q; cases q
          exact out_mk (weak_cov trivial trivial)
      ·
        refine avc_sq2 ?_
        refine avc_sq ?_
        refine sqa (a_assign_d (lq rfl) rfl) ?_
        refine sq_nil ?_
        cases h
        refine avc_ret ?_
        exact ret_1 rfl
    ·
      replace h := eR h
      refine avc_tail (e := .ret) (S2 := ⟨[(2, .d (db y1))], []⟩) ?_ ?_
      ·
        refine avc_loopM (fun x => ⟨[(0, .d (dsl eS a0)), (3, .d (di x))], []⟩) hy1 (weak_cov ⟨rfl, rfl, trivial⟩ trivial) ?_
        rintro v3 sy1 hsy1
        replace hsy1 : ref10_names_L0 a0 v3 = some sy1 := hsy1
        unfold ref10_names_L0 at hsy1
        refine avc_sq2 ?_
        refine avc_sq2 ?_
        refine avc_sq ?_
        refine sqa (a_move_d (lq rfl) rfl) ?_
        refine sqa (a_move_d (lq rfl) rfl) ?_
        refine sqa (m_len (en := eS) (l := a0) (lq rfl) S22 rfl) ?_
        refine sqa (a_lss (lq rfl) rfl rfl) ?_
        refine sq_nil ?_
        refine avc_if rfl ⟨fun c2 => ?_, fun c2 => ?_⟩
        · replace hsy1 := cT c2 hsy1
          refine avc_skip ?_
          refine avc_sq2 ?_
          refine avc_block ?_
          refine avc_sq2 ?_
          refine avc_sq2 ?_
          refine avc_sq ?_
          refine sqa (a_move_d (lq rfl) rfl) ?_
          refine sqa (a_move_d (lq rfl) rfl) ?_
          obtain ⟨t21, ht21, hsy1'⟩ := bE hsy1; clear hsy1
          refine sqa (m_index (en := eS) (lq rfl) S22 rfl rfl ht21) ?_
          refine sqa (m_loadE (en := eS) (l := a0) (i := v3) (v := t21) (off := 0) (lq rfl) O9 rfl ht21 rfl) ?_
          obtain ⟨t23, ht23, hsy1⟩ := bE hsy1'; clear hsy1'
          refine sqa (a_call (lq rfl) rfl (ref10_Named_c ht23)) ?_
          refine sqa (a_not (lq rfl) rfl) ?_
          refine sq_nil ?_
          refine avc_if rfl ⟨fun c3 => ?_, fun c3 => ?_⟩
          · replace hsy1 := cT c3 hsy1
            refine avc_sq2 ?_
            refine avc_sq ?_
            refine sqa (a_assign_d (lq rfl) rfl) ?_
            refine sq_nil ?_
            refine avc_ret ?_
            cases hsy1
            intro q; cases q
            exact out_mk (weak_cov ⟨rfl, trivial⟩ trivial)
          · replace hsy1 := cF c3 hsy1
            refine avc_skip ?_
            refine avc_sq2 ?_
            refine avc_sq ?_
            refine sqa (a_assign_d (lq rfl) rfl) ?_
            refine sq_nil ?_
            refine avc_block ?_
            obtain ⟨y2, hy2, hsy1'⟩ := bE hsy1; clear hsy1
            rcases y2 with y2 | y2
            ·
              replace hsy1' := eL hsy1'
              refine avc_tail (e := .exit 2) (S2 := ⟨[(0, .d (dsl eS a0)), (3, .d (di v3))], []⟩) ?_ ?_
              ·
                refine avc_loopM (fun x => ⟨[(0, .d (dsl eS a0)), (3, .d (di v3)), (4, .d (di x))], []⟩) hy2 (weak_cov ⟨rfl, rfl, rfl, trivial⟩ trivial) ?_
                rintro v4 sy2 hsy2
                replace hsy2 : ref10_names_L1 v3 a0 v4 = some sy2 := hsy2
                unfold ref10_names_L1 at hsy2
                refine avc_sq2 ?_
                refine avc_sq2 ?_
                refine avc_sq ?_
                refine sqa (a_move_d (lq rfl) rfl) ?_
                refine sqa (a_move_d (lq rfl) rfl) ?_
                refine sqa (a_lss (lq rfl) rfl rfl) ?_
                refine sq_nil ?_
                refine avc_if rfl ⟨fun c4 => ?_, fun c4 => ?_⟩
                · replace hsy2 := cT c4 hsy2
                  refine avc_skip ?_
                  refine avc_sq2 ?_
                  refine avc_block ?_
                  refine avc_sq2 ?_
                  refine avc_drawA MX rfl ?_
                  refine daa (a_move_d (lq rfl) rfl) ?_
                  refine daa (a_move_d (lq rfl) rfl) ?_
                  obtain ⟨t32, ht32, hsy2'⟩ := bE hsy2; clear hsy2
                  refine daa (m_index (en := eS) (lq rfl) S22 rfl rfl ht32) ?_
                  refine daa (m_loadE (en := eS) (l := a0) (i := v4) (v := t32) (off := 0) (lq rfl) O9 rfl ht32 rfl) ?_
                  refine daa (a_move_d (lq rfl) rfl) ?_
                  refine daa (a_move_d (lq rfl) rfl) ?_
                  obtain ⟨t36, ht36, hsy2⟩ := bE hsy2'; clear hsy2'
                  refine daa (m_index (en := eS) (lq rfl) S22 rfl rfl ht36) ?_
                  refine daa (m_loadE (en := eS) (l := a0) (i := v3) (v := t36) (off := 0) (lq rfl) O9 rfl ht36 rfl) ?_
                  refine daa (m_seql (a := t32) (b := t36) (lq rfl) rfl rfl) ?_
                  refine da_nil ?_
                  refine avc_if rfl ⟨fun c5 => ?_, fun c5 => ?_⟩
                  · replace hsy2 := cT c5 hsy2
                    refine avc_sq2 ?_
                    refine avc_sq ?_
                    refine sqa (a_assign_d (lq rfl) rfl) ?_
                    refine sq_nil ?_
                    refine avc_ret ?_
                    cases hsy2
                    intro q; cases q
                  · replace hsy2 := cF c5 hsy2
                    refine avc_skip ?_
                    refine avc_sq ?_
                    refine sqa (a_move_d (lq rfl) rfl) ?_
                    refine sqa (m_add (lq rfl) rfl rfl) ?_
                    refine sqa (a_assign_d (lq rfl) rfl) ?_
                    refine sq_nil ?_
                    cases hsy2
                    exact weak_cov ⟨rfl, rfl, rfl, trivial⟩ trivial
                · replace hsy2 := cF c4 hsy2
                  refine avc_exit ?_
                  cases hsy2
                  intro q; cases q
                  exact out_mk (weak_cov ⟨rfl, rfl, trivial⟩ trivial)
              ·
                refine avc_sq ?_
                refine sqa (a_move_d (lq rfl) rfl) ?_
                refine sqa (m_add (lq rfl) rfl rfl) ?_
                refine sqa (a_assign_d (lq rfl) rfl) ?_
                refine sq_nil ?_
                cases hsy1'
                exact weak_cov ⟨rfl, rfl, trivial⟩ trivial
            ·
              replace hsy1' := eR hsy1'
              refine avc_tail (e := .ret) (S2 := ⟨[(2, .d (db y2))], []⟩) ?_ ?_
              ·
                refine avc_loopM (fun x => ⟨[(0, .d (dsl eS a0)), (3, .d (di v3)), (4, .d (di x))], []⟩) hy2 (weak_cov ⟨rfl, rfl, rfl, trivial⟩ trivial) ?_
                rintro v4 sy2 hsy2
                replace hsy2 : ref10_names_L1 v3 a0 v4 = some sy2 := hsy2
                unfold ref10_names_L1 at hsy2
                refine avc_sq2 ?_
                refine avc_sq2 ?_
                refine avc_sq ?_
                refine sqa (a_move_d (lq rfl) rfl) ?_
                refine sqa (a_move_d (lq rfl) rfl) ?_
                refine sqa (a_lss (lq rfl) rfl rfl) ?_
                refine sq_nil ?_
                refine avc_if rfl ⟨fun c4 => ?_, fun c4 => ?_⟩
                · replace hsy2 := cT c4 hsy2
                  refine avc_skip ?_
                  refine avc_sq2 ?_
                  refine avc_block ?_
                  refine avc_sq2 ?_
                  refine avc_drawA MX rfl ?_
                  refine daa (a_move_d (lq rfl) rfl) ?_
                  refine daa (a_move_d (lq rfl) rfl) ?_
                  obtain ⟨t32, ht32, hsy2'⟩ := bE hsy2; clear hsy2
                  refine daa (m_index (en := eS) (lq rfl) S22 rfl rfl ht32) ?_
                  refine daa (m_loadE (en := eS) (l := a0) (i := v4) (v := t32) (off := 0) (lq rfl) O9 rfl ht32 rfl) ?_
                  refine daa (a_move_d (lq rfl) rfl) ?_
                  refine daa (a_move_d (lq rfl) rfl) ?_
                  obtain ⟨t36, ht36, hsy2⟩ := bE hsy2'; clear hsy2'
                  refine daa (m_index (en := eS) (lq rfl) S22 rfl rfl ht36) ?_
                  refine daa (m_loadE (en := eS) (l := a0) (i := v3) (v := t36) (off := 0) (lq rfl) O9 rfl ht36 rfl) ?_
                  refine daa (m_seql (a := t32) (b := t36) (lq rfl) rfl rfl) ?_
                  refine da_nil ?_
                  refine avc_if rfl ⟨fun c5 => ?_, fun c5 => ?_⟩
                  · replace hsy2 := cT c5 hsy2
                    refine avc_sq2 ?_
                    refine avc_sq ?_
                    refine sqa (a_assign_d (lq rfl) rfl) ?_
                    refine sq_nil ?_
                    refine avc_ret ?_
                    cases hsy2
                    intro q; cases q
                    exact out_mk (weak_cov ⟨rfl, trivial⟩ trivial)
                  · replace hsy2 := cF c5 hsy2
                    refine avc_skip ?_
                    refine avc_sq ?_
                    refine sqa (a_move_d (lq rfl) rfl) ?_
                    refine sqa (m_add (lq rfl) rfl rfl) ?_
                    refine sqa (a_assign_d (lq rfl) rfl) ?_
                    refine sq_nil ?_
                    cases hsy2
                    exact weak_cov ⟨rfl, rfl, rfl, trivial⟩ trivial
                · replace hsy2 := cF c4 hsy2
                  refine avc_exit ?_
                  cases hsy2
                  intro q; cases q
              ·
                cases hsy1'
                intro q; cases q
                exact out_mk (weak_cov ⟨rfl, trivial⟩ trivial)
        · replace hsy1 := cF c2 hsy1
          refine avc_exit ?_
          cases hsy1
          intro q; cases q
      ·
        cases h
        exact ret_1 rfl

end Go.Proofs.Ythcpioecmdfabaa.Walk

/- Each function of the program answers as its plain counterpart does, where that answers. Conditions: none. -/
import Derived.Test.YtgeaoceiacdadaaDoorMir
import Derived.Test.YtgeaoceiacdadaaDoorProg
import Derived.Test.YtgeaoceiacdadaaDoorShelfD
import Derived.Shelf.SlSortCmp.NoneTotal
set_option linter.unusedSimpArgs false
set_option linter.unusedVariables false
set_option linter.unnecessarySimpa false
namespace Go.Proofs.YtgeaoceiacdadaaDoor.Walk
open Go.AV Go.M Go.RowKit Go.Proofs
theorem A107 : ArTy Tryd.prog 107 3 1 3 [(.int IntKind.i64 (0)), (.int IntKind.i64 (0)), (.int IntKind.i64 (0))] := ArTy.of Tryd.underlying107 (by kernel_rfl) (by decide) (by kernel_rfl) rfl
theorem A123 : ArTy Tryd.prog 123 4 2 104 [(.int IntKind.i64 (0)), (.int IntKind.i64 (0)), (.int IntKind.i64 (0)), (.int IntKind.i64 (0)), (.int IntKind.i64 (0)), (.int IntKind.i64 (0)), (.int IntKind.i64 (0)), (.int IntKind.i64 (0))] := ArTy.of Tryd.underlying123 (by kernel_rfl) (by decide) (by kernel_rfl) rfl
theorem A89 : ArTy Tryd.prog 89 9 1 3 [(.int IntKind.i64 (0)), (.int IntKind.i64 (0)), (.int IntKind.i64 (0)), (.int IntKind.i64 (0)), (.int IntKind.i64 (0)), (.int IntKind.i64 (0)), (.int IntKind.i64 (0)), (.int IntKind.i64 (0)), (.int IntKind.i64 (0))] := ArTy.of Tryd.underlying89 (by kernel_rfl) (by decide) (by kernel_rfl) rfl
theorem B104 : StTy Tryd.prog 104 [(0, 1), (1, 1)] [(.int IntKind.i64 (0)), (.int IntKind.i64 (0))] := StTy.of Tryd.underlying104 (by kernel_rfl) (by kernel_rfl) rfl
theorem B127 : StTy Tryd.prog 127 [(0, 1), (1, 1)] [(.int IntKind.i64 (0)), (.string ⟨#[]⟩)] := StTy.of Tryd.underlying127 (by kernel_rfl) (by kernel_rfl) rfl
theorem B25 : StTy Tryd.prog 25 [(0, 1), (1, 1), (2, 1), (3, 1), (4, 1)] [(.slice none 0 0), (.slice none 0 0), (.int IntKind.i64 (0)), (.int IntKind.i64 (0)), (.int IntKind.i64 (0))] := StTy.of Tryd.underlying25 (by kernel_rfl) (by kernel_rfl) rfl
theorem B41 : StTy Tryd.prog 41 [(0, 1)] [(.slice none 0 0)] := StTy.of Tryd.underlying41 (by kernel_rfl) (by kernel_rfl) rfl
theorem B43 : StTy Tryd.prog 43 [(0, 1), (1, 1), (2, 1)] [(.slice none 0 0), (.slice none 0 0), (.slice none 0 0)] := StTy.of Tryd.underlying43 (by kernel_rfl) (by kernel_rfl) rfl
theorem B55 : StTy Tryd.prog 55 [(0, 1), (1, 1)] [(.slice none 0 0), (.slice none 0 0)] := StTy.of Tryd.underlying55 (by kernel_rfl) (by kernel_rfl) rfl
theorem B61 : StTy Tryd.prog 61 [(0, 1), (1, 1), (2, 1)] [(.int IntKind.i64 (0)), (.int IntKind.i64 (0)), (.int IntKind.i64 (0))] := StTy.of Tryd.underlying61 (by kernel_rfl) (by kernel_rfl) rfl
theorem B63 : StTy Tryd.prog 63 [(0, 1), (1, 1), (2, 1), (3, 1)] [(.int IntKind.i64 (0)), (.int IntKind.i64 (0)), (.int IntKind.i64 (0)), (.bool false)] := StTy.of Tryd.underlying63 (by kernel_rfl) (by kernel_rfl) rfl
theorem B87 : StTy Tryd.prog 87 [(0, 5), (5, 1), (6, 1), (7, 1), (8, 1)] [(.slice none 0 0), (.slice none 0 0), (.int IntKind.i64 (0)), (.int IntKind.i64 (0)), (.int IntKind.i64 (0)), (.map none), (.int IntKind.i64 (0)), (.slice none 0 0), (.int IntKind.i64 (0))] := StTy.of Tryd.underlying87 (by kernel_rfl) (by kernel_rfl) rfl
theorem G104 : AggTy Tryd.prog 104 2 := AggTy.of Tryd.underlying104 rfl (by kernel_rfl)
theorem G107 : AggTy Tryd.prog 107 3 := AggTy.of Tryd.underlying107 rfl (by kernel_rfl)
theorem G109 : AggTy Tryd.prog 109 3 := AggTy.of Tryd.underlying109 rfl (by kernel_rfl)
theorem G123 : AggTy Tryd.prog 123 8 := AggTy.of Tryd.underlying123 rfl (by kernel_rfl)
theorem G127 : AggTy Tryd.prog 127 2 := AggTy.of Tryd.underlying127 rfl (by kernel_rfl)
theorem G25 : AggTy Tryd.prog 25 5 := AggTy.of Tryd.underlying25 rfl (by kernel_rfl)
theorem G41 : AggTy Tryd.prog 41 1 := AggTy.of Tryd.underlying41 rfl (by kernel_rfl)
theorem G43 : AggTy Tryd.prog 43 3 := AggTy.of Tryd.underlying43 rfl (by kernel_rfl)
theorem G55 : AggTy Tryd.prog 55 2 := AggTy.of Tryd.underlying55 rfl (by kernel_rfl)
theorem G61 : AggTy Tryd.prog 61 3 := AggTy.of Tryd.underlying61 rfl (by kernel_rfl)
theorem G63 : AggTy Tryd.prog 63 4 := AggTy.of Tryd.underlying63 rfl (by kernel_rfl)
theorem G80 : AggTy Tryd.prog 80 3 := AggTy.of Tryd.underlying80 rfl (by kernel_rfl)
theorem G89 : AggTy Tryd.prog 89 9 := AggTy.of Tryd.underlying89 rfl (by kernel_rfl)
theorem K9 : KeyTy Tryd.prog 9 kS := keyStr Tryd.underlying9
theorem L104_0 : FldTy Tryd.prog 104 0 0 1 3 := FldTy.of Tryd.underlying104 rfl (by kernel_rfl) (by decide)
theorem L104_1 : FldTy Tryd.prog 104 1 1 1 3 := FldTy.of Tryd.underlying104 rfl (by kernel_rfl) (by decide)
theorem L109_0 : FldTy Tryd.prog 109 0 0 1 3 := FldTy.of Tryd.underlying109 rfl (by kernel_rfl) (by decide)
theorem L109_1 : FldTy Tryd.prog 109 1 1 1 30 := FldTy.of Tryd.underlying109 rfl (by kernel_rfl) (by decide)
theorem L109_2 : FldTy Tryd.prog 109 2 2 1 9 := FldTy.of Tryd.underlying109 rfl (by kernel_rfl) (by decide)
theorem L25_0 : FldTy Tryd.prog 25 0 0 1 22 := FldTy.of Tryd.underlying25 rfl (by kernel_rfl) (by decide)
theorem L25_1 : FldTy Tryd.prog 25 1 1 1 23 := FldTy.of Tryd.underlying25 rfl (by kernel_rfl) (by decide)
theorem L25_2 : FldTy Tryd.prog 25 2 2 1 3 := FldTy.of Tryd.underlying25 rfl (by kernel_rfl) (by decide)
theorem L25_3 : FldTy Tryd.prog 25 3 3 1 3 := FldTy.of Tryd.underlying25 rfl (by kernel_rfl) (by decide)
theorem L25_4 : FldTy Tryd.prog 25 4 4 1 3 := FldTy.of Tryd.underlying25 rfl (by kernel_rfl) (by decide)
theorem L41_0 : FldTy Tryd.prog 41 0 0 1 39 := FldTy.of Tryd.underlying41 rfl (by kernel_rfl) (by decide)
theorem L43_0 : FldTy Tryd.prog 43 0 0 1 37 := FldTy.of Tryd.underlying43 rfl (by kernel_rfl) (by decide)
theorem L43_1 : FldTy Tryd.prog 43 1 1 1 38 := FldTy.of Tryd.underlying43 rfl (by kernel_rfl) (by decide)
theorem L43_2 : FldTy Tryd.prog 43 2 2 1 41 := FldTy.of Tryd.underlying43 rfl (by kernel_rfl) (by decide)
theorem L55_0 : FldTy Tryd.prog 55 0 0 1 30 := FldTy.of Tryd.underlying55 rfl (by kernel_rfl) (by decide)
theorem L55_1 : FldTy Tryd.prog 55 1 1 1 31 := FldTy.of Tryd.underlying55 rfl (by kernel_rfl) (by decide)
theorem L61_0 : FldTy Tryd.prog 61 0 0 1 3 := FldTy.of Tryd.underlying61 rfl (by kernel_rfl) (by decide)
theorem L61_1 : FldTy Tryd.prog 61 1 1 1 3 := FldTy.of Tryd.underlying61 rfl (by kernel_rfl) (by decide)
theorem L61_2 : FldTy Tryd.prog 61 2 2 1 3 := FldTy.of Tryd.underlying61 rfl (by kernel_rfl) (by decide)
theorem L63_0 : FldTy Tryd.prog 63 0 0 1 3 := FldTy.of Tryd.underlying63 rfl (by kernel_rfl) (by decide)
theorem L63_1 : FldTy Tryd.prog 63 1 1 1 3 := FldTy.of Tryd.underlying63 rfl (by kernel_rfl) (by decide)
theorem L63_2 : FldTy Tryd.prog 63 2 2 1 3 := FldTy.of Tryd.underlying63 rfl (by kernel_rfl) (by decide)
theorem L63_3 : FldTy Tryd.prog 63 3 3 1 4 := FldTy.of Tryd.underlying63 rfl (by kernel_rfl) (by decide)
theorem L80_0 : FldTy Tryd.prog 80 0 0 1 9 := FldTy.of Tryd.underlying80 rfl (by kernel_rfl) (by decide)
theorem L80_1 : FldTy Tryd.prog 80 1 1 1 3 := FldTy.of Tryd.underlying80 rfl (by kernel_rfl) (by decide)
theorem L80_2 : FldTy Tryd.prog 80 2 2 1 3 := FldTy.of Tryd.underlying80 rfl (by kernel_rfl) (by decide)
theorem L87_0 : FldTy Tryd.prog 87 0 0 5 25 := FldTy.of Tryd.underlying87 rfl (by kernel_rfl) (by decide)
theorem L87_1 : FldTy Tryd.prog 87 1 5 1 85 := FldTy.of Tryd.underlying87 rfl (by kernel_rfl) (by decide)
theorem L87_2 : FldTy Tryd.prog 87 2 6 1 3 := FldTy.of Tryd.underlying87 rfl (by kernel_rfl) (by decide)
theorem L87_3 : FldTy Tryd.prog 87 3 7 1 37 := FldTy.of Tryd.underlying87 rfl (by kernel_rfl) (by decide)
theorem L87_4 : FldTy Tryd.prog 87 4 8 1 3 := FldTy.of Tryd.underlying87 rfl (by kernel_rfl) (by decide)
theorem M125 : MapTy Tryd.prog 125 127 4 (.bool false) := MapTy.of Tryd.underlying125 (by kernel_rfl)
theorem M82 : MapTy Tryd.prog 82 9 4 (.bool false) := MapTy.of Tryd.underlying82 (by kernel_rfl)
theorem M85 : MapTy Tryd.prog 85 89 31 (.slice none 0 0) := MapTy.of Tryd.underlying85 (by kernel_rfl)
theorem O131 : OneTy Tryd.prog 131 := OneTy.of Tryd.underlying131 rfl (by kernel_rfl)
theorem O22 : OneTy Tryd.prog 22 := OneTy.of Tryd.underlying22 rfl (by kernel_rfl)
theorem O23 : OneTy Tryd.prog 23 := OneTy.of Tryd.underlying23 rfl (by kernel_rfl)
theorem O3 : OneTy Tryd.prog 3 := OneTy.of Tryd.underlying3 rfl (by kernel_rfl)
theorem O30 : OneTy Tryd.prog 30 := OneTy.of Tryd.underlying30 rfl (by kernel_rfl)
theorem O31 : OneTy Tryd.prog 31 := OneTy.of Tryd.underlying31 rfl (by kernel_rfl)
theorem O37 : OneTy Tryd.prog 37 := OneTy.of Tryd.underlying37 rfl (by kernel_rfl)
theorem O38 : OneTy Tryd.prog 38 := OneTy.of Tryd.underlying38 rfl (by kernel_rfl)
theorem O39 : OneTy Tryd.prog 39 := OneTy.of Tryd.underlying39 rfl (by kernel_rfl)
theorem O4 : OneTy Tryd.prog 4 := OneTy.of Tryd.underlying4 rfl (by kernel_rfl)
theorem O64 : OneTy Tryd.prog 64 := OneTy.of Tryd.underlying64 rfl (by kernel_rfl)
theorem O85 : OneTy Tryd.prog 85 := OneTy.of Tryd.underlying85 rfl (by kernel_rfl)
theorem O9 : OneTy Tryd.prog 9 := OneTy.of Tryd.underlying9 rfl (by kernel_rfl)
theorem O95 : OneTy Tryd.prog 95 := OneTy.of Tryd.underlying95 rfl (by kernel_rfl)
theorem S22 : SlTy Tryd.prog 22 55 2 48 (.agg #[(.slice none 0 0), (.slice none 0 0)]) := SlTy.of Tryd.underlying22 (by kernel_rfl) rfl (by decide) rfl
theorem S23 : SlTy Tryd.prog 23 80 3 32 (.agg #[(.string ⟨#[]⟩), (.int IntKind.i64 (0)), (.int IntKind.i64 (0))]) := SlTy.of Tryd.underlying23 (by kernel_rfl) rfl (by decide) rfl
theorem S30 : SlTy Tryd.prog 30 3 1 8 (.int IntKind.i64 (0)) := SlTy.of Tryd.underlying30 (by kernel_rfl) rfl (by decide) rfl
theorem S31 : SlTy Tryd.prog 31 63 4 32 (.agg #[(.int IntKind.i64 (0)), (.int IntKind.i64 (0)), (.int IntKind.i64 (0)), (.bool false)]) := SlTy.of Tryd.underlying31 (by kernel_rfl) rfl (by decide) rfl
theorem S37 : SlTy Tryd.prog 37 61 3 24 (.agg #[(.int IntKind.i64 (0)), (.int IntKind.i64 (0)), (.int IntKind.i64 (0))]) := SlTy.of Tryd.underlying37 (by kernel_rfl) rfl (by decide) rfl
theorem S38 : SlTy Tryd.prog 38 109 3 48 (.agg #[(.int IntKind.i64 (0)), (.slice none 0 0), (.string ⟨#[]⟩)]) := SlTy.of Tryd.underlying38 (by kernel_rfl) rfl (by decide) rfl
theorem S39 : SlTy Tryd.prog 39 104 2 16 (.agg #[(.int IntKind.i64 (0)), (.int IntKind.i64 (0))]) := SlTy.of Tryd.underlying39 (by kernel_rfl) rfl (by decide) rfl
theorem Z0 : gdOf Tryd.prog 0 = some [.int .i64 4352, .int .i64 4370, .int .i64 4449, .int .i64 4469, .int .i64 4520, .int .i64 4546, .int .i64 44032, .int .i64 55203] := by kernel_rfl
set_option maxRecDepth 10000 in
theorem E104 : EqTy Tryd.prog 104 eRange := EqTy.of (vals := fun (x : Range) => [.int IntKind.i64 x.Lo, .int IntKind.i64 x.Hi]) (cs := fun (a b : Range) => [decide (a.Lo = b.Lo), decide (a.Hi = b.Hi)]) Tryd.underlying104 (by kernel_rfl) (by kernel_rfl) (fun _ => rfl) (fun a b w => (eqs_int (d := 9998) rfl O3 (eqs_int (d := 9998) rfl O3 eqs_nil Tryd.underlying3 rfl rfl) Tryd.underlying3 rfl rfl)) (fun a b => by cases a; cases b; simp)
theorem E107 : EqTy Tryd.prog 107 eA3Int := EqTy.ofA (vals := fun (x : A3Int) => [.int IntKind.i64 x.x0, .int IntKind.i64 x.x1, .int IntKind.i64 x.x2]) (cs := fun (a b : A3Int) => [decide (a.x0 = b.x0), decide (a.x1 = b.x1), decide (a.x2 = b.x2)]) A107 O3 (by kernel_rfl) (fun _ => rfl) (fun a b w => (Pw.cons ⟨_, _, rfl, rfl, Go.AV.run_equalIn_int Tryd.underlying3 _ _ _ _⟩ (Pw.cons ⟨_, _, rfl, rfl, Go.AV.run_equalIn_int Tryd.underlying3 _ _ _ _⟩ (Pw.cons ⟨_, _, rfl, rfl, Go.AV.run_equalIn_int Tryd.underlying3 _ _ _ _⟩ Pw.nil)))) (fun a b => by cases a; cases b; simp)
set_option maxRecDepth 10000 in
theorem E127 : EqTy Tryd.prog 127 eMapping_key := EqTy.of (vals := fun (x : Mapping_key) => [.int IntKind.i64 x.from_, .string ⟨x.tag.toArray⟩]) (cs := fun (a b : Mapping_key) => [decide (a.from_ = b.from_), decide (a.tag = b.tag)]) Tryd.underlying127 (by kernel_rfl) (by kernel_rfl) (fun _ => rfl) (fun a b w => (eqs_int (d := 9998) rfl O3 (eqs_str (d := 9998) rfl O9 eqs_nil Tryd.underlying9 rfl rfl) Tryd.underlying3 rfl rfl)) (fun a b => by cases a; cases b; simp)
set_option maxRecDepth 10000 in
theorem E63 : EqTy Tryd.prog 63 eElement := EqTy.of (vals := fun (x : Element) => [.int IntKind.i64 x.Primary, .int IntKind.i64 x.Secondary, .int IntKind.i64 x.Tertiary, .bool x.Variable]) (cs := fun (a b : Element) => [decide (a.Primary = b.Primary), decide (a.Secondary = b.Secondary), decide (a.Tertiary = b.Tertiary), decide (a.Variable = b.Variable)]) Tryd.underlying63 (by kernel_rfl) (by kernel_rfl) (fun _ => rfl) (fun a b w => (eqs_int (d := 9998) rfl O3 (eqs_int (d := 9998) rfl O3 (eqs_int (d := 9998) rfl O3 (eqs_bool (d := 9998) rfl O4 eqs_nil Tryd.underlying4 rfl rfl) Tryd.underlying3 rfl rfl) Tryd.underlying3 rfl rfl) Tryd.underlying3 rfl rfl)) (fun a b => by cases a; cases b; simp)
theorem E89 : EqTy Tryd.prog 89 eA9Int := EqTy.ofA (vals := fun (x : A9Int) => [.int IntKind.i64 x.x0, .int IntKind.i64 x.x1, .int IntKind.i64 x.x2, .int IntKind.i64 x.x3, .int IntKind.i64 x.x4, .int IntKind.i64 x.x5, .int IntKind.i64 x.x6, .int IntKind.i64 x.x7, .int IntKind.i64 x.x8]) (cs := fun (a b : A9Int) => [decide (a.x0 = b.x0), decide (a.x1 = b.x1), decide (a.x2 = b.x2), decide (a.x3 = b.x3), decide (a.x4 = b.x4), decide (a.x5 = b.x5), decide (a.x6 = b.x6), decide (a.x7 = b.x7), decide (a.x8 = b.x8)]) A89 O3 (by kernel_rfl) (fun _ => rfl) (fun a b w => (Pw.cons ⟨_, _, rfl, rfl, Go.AV.run_equalIn_int Tryd.underlying3 _ _ _ _⟩ (Pw.cons ⟨_, _, rfl, rfl, Go.AV.run_equalIn_int Tryd.underlying3 _ _ _ _⟩ (Pw.cons ⟨_, _, rfl, rfl, Go.AV.run_equalIn_int Tryd.underlying3 _ _ _ _⟩ (Pw.cons ⟨_, _, rfl, rfl, Go.AV.run_equalIn_int Tryd.underlying3 _ _ _ _⟩ (Pw.cons ⟨_, _, rfl, rfl, Go.AV.run_equalIn_int Tryd.underlying3 _ _ _ _⟩ (Pw.cons ⟨_, _, rfl, rfl, Go.AV.run_equalIn_int Tryd.underlying3 _ _ _ _⟩ (Pw.cons ⟨_, _, rfl, rfl, Go.AV.run_equalIn_int Tryd.underlying3 _ _ _ _⟩ (Pw.cons ⟨_, _, rfl, rfl, Go.AV.run_equalIn_int Tryd.underlying3 _ _ _ _⟩ (Pw.cons ⟨_, _, rfl, rfl, Go.AV.run_equalIn_int Tryd.underlying3 _ _ _ _⟩ Pw.nil)))))))))) (fun a b => by cases a; cases b; simp)
theorem K127 : KeyTy Tryd.prog 127 kMapping_key := keyAgg (vals := fun (x : Mapping_key) => [.int IntKind.i64 x.from_, .string ⟨x.tag.toArray⟩]) Tryd.underlying127 E127 (fun _ => rfl) (fun _ => rfl) (fun _ => rfl) (fun _ => by simp [Instr.sameBits, ba_beq]) (fun a b w => check_str' Tryd.underlying127 (List.forall_mem_cons.2 ⟨⟨O3, ⟨_, Tryd.underlying3, rfl⟩, lq rfl⟩, (List.forall_mem_cons.2 ⟨⟨O9, ⟨_, Tryd.underlying9, rfl⟩, lq rfl⟩, (fun _ h => by cases h)⟩)⟩) b w)
theorem K89 : KeyTy Tryd.prog 89 kA9Int := keyAgg (vals := fun (x : A9Int) => [.int IntKind.i64 x.x0, .int IntKind.i64 x.x1, .int IntKind.i64 x.x2, .int IntKind.i64 x.x3, .int IntKind.i64 x.x4, .int IntKind.i64 x.x5, .int IntKind.i64 x.x6, .int IntKind.i64 x.x7, .int IntKind.i64 x.x8]) Tryd.underlying89 E89 (fun _ => rfl) (fun _ => rfl) (fun _ => rfl) (fun _ => by simp [Instr.sameBits, ba_beq]) (fun a b w => check_arr A89 O3 Tryd.underlying3 rfl rfl b w)
theorem MX : Tryd.prog.follows .mixedOrders = true := by kernel_rfl
theorem ref43_Small_c  {a0 : Collation}  {r : Bool} (h : ref43_Small a0 = some r) : Contract Tryd.prog 8 [(eCollation.dv a0)] [(db r)] := by
 refine contract_of Tryd.func8 (by kernel_rfl) rfl (lq rfl) (lq rfl) fun w0 I0 hI0 hG0 => ?_
 unfold ref43_Small at h
 refine avc_sq2 <| avc_sq ?_
 refine sqa (m_box (size := 5) (lq rfl) rfl rfl) ?_
 refine sqa (a_assign_d (lq rfl) rfl) ?_
 refine sq_nil <| avc_sq2 <| avc_sq2 <| avc_sq ?_
 refine sqa (m_fieldPt (lq rfl) L25_0 rfl) ?_
 refine sqa (a_load_ip (lq rfl) O22 rfl rfl) ?_
 refine sqa (m_len (en := eEntry) (l := a0.Entries) (lq rfl) S22 rfl) ?_
 refine sqa (a_gtr (lq rfl) rfl rfl) ?_
 obtain ⟨b8, hb8, h'⟩ := bE h; clear h
 refine sqa ((a_move_d (lq rfl) rfl).bool (Option.some.inj hb8)) ?_
 refine sq_g (x := .ip (eCollation.cells a0) (0 + 1)) rfl rfl rfl (lq rfl) (lq rfl) rfl (fun hb => by obtain rfl := gF hb; exact m_fieldPt (lq rfl) L25_1 rfl) ?_
 refine sq_g (x := .d (dsl eGroup a0.Groups)) rfl rfl rfl (lq rfl) (lq rfl) rfl (fun hb => by obtain rfl := gF hb; exact a_load_ip (lq rfl) O23 rfl rfl) ?_
 refine sq_g (x := .d (di (a0.Groups.length : Int))) rfl rfl rfl (lq rfl) (lq rfl) rfl (fun hb => by obtain rfl := gF hb; exact m_len (en := eGroup) (l := a0.Groups) (lq rfl) S23 rfl) ?_
 refine sq_g (x := .d (db (decide (8 < (a0.Groups.length : Int))))) rfl rfl rfl (lq rfl) (lq rfl) rfl (fun hb => by obtain rfl := gF hb; exact a_gtr (lq rfl) rfl rfl) ?_
 refine sqa (a_pick_or (lq rfl) rfl rfl) ?_
 refine sq_nil ?_
 refine avc_if rfl ⟨fun c1 => ?_, fun c1 => ?_⟩
 ·
  replace h' := cT c1 h'
  refine avc_sq2 <| avc_sq ?_
  refine sqa (a_assign_d (lq rfl) rfl) ?_
  refine sq_nil ?_
  cases h'
  refine avc_ret ?_
  exact ret_1 rfl
 ·
  replace h' := cF c1 h'
  refine avc_skip <| avc_sq2 <| avc_sq2 <| avc_sq ?_
  refine sqa (a_assign_d (lq rfl) rfl) ?_
  refine sq_nil <| avc_block ?_
  obtain ⟨y1, hy1, h⟩ := bE h'; clear h'
  rcases y1 with y1 | y1
  ·
   replace h := eL h
   refine avc_tail (e := .exit 0) (S2 := ⟨[], []⟩) ?_ ?_
   ·
    refine avc_loopM (fun x => ⟨[(1, .d (.pt (eCollation.cells a0))), (3, .d (di x))], []⟩) hy1 (weak_cov ⟨rfl, rfl, trivial⟩ trivial) ?_
    rintro v3 sy1 hsy1
    replace hsy1 : ref43_Small_L0 a0 v3 = some sy1 := hsy1
    unfold ref43_Small_L0 at hsy1
    refine avc_sq2 <| avc_sq2 <| avc_sq ?_
    refine sqa (a_move_d (lq rfl) rfl) ?_
    refine sqa (m_fieldPt (lq rfl) L25_0 rfl) ?_
    refine sqa (a_load_ip (lq rfl) O22 rfl rfl) ?_
    refine sqa (m_len (en := eEntry) (l := a0.Entries) (lq rfl) S22 rfl) ?_
    refine sqa (a_lss (lq rfl) rfl rfl) ?_
    refine sq_nil ?_
    refine avc_if rfl ⟨fun c2 => ?_, fun c2 => ?_⟩
    ·
     replace hsy1 := cT c2 hsy1
     refine avc_skip <| avc_sq2 <| avc_block <| avc_sq2 <| avc_sq ?_
     refine sqa (m_fieldPt (lq rfl) L25_0 rfl) ?_
     refine sqa (a_load_ip (lq rfl) O22 rfl rfl) ?_
     refine sqa (a_move_d (lq rfl) rfl) ?_
     obtain ⟨t24, ht24, hsy1'⟩ := bE hsy1; clear hsy1
     refine sqa (m_index (en := eEntry) (lq rfl) S22 rfl rfl ht24) ?_
     refine sqa (a_fieldAddr_ip (lq rfl) L55_0 rfl) ?_
     refine sqa (m_loadE (en := eEntry) (l := a0.Entries) (i := v3) (v := t24) (off := 0) (lq rfl) O30 rfl ht24 rfl) ?_
     refine sqa (m_len (en := eI) (l := t24.Codes) (lq rfl) S30 rfl) ?_
     refine sqa (a_gtr (lq rfl) rfl rfl) ?_
     obtain ⟨b29, hb29, hsy1⟩ := bE hsy1'; clear hsy1'
     refine sqa ((a_move_d (lq rfl) rfl).bool (Option.some.inj hb29)) ?_
     refine sq_g (x := .ip (eCollation.cells a0) (0 + 0)) rfl rfl rfl (lq rfl) (lq rfl) rfl (fun hb => by obtain rfl := gF hb; exact m_fieldPt (lq rfl) L25_0 rfl) ?_
     refine sq_g (x := .d (dsl eEntry a0.Entries)) rfl rfl rfl (lq rfl) (lq rfl) rfl (fun hb => by obtain rfl := gF hb; exact a_load_ip (lq rfl) O22 rfl rfl) ?_
     refine sq_g (x := .d (di v3)) rfl rfl rfl (lq rfl) (lq rfl) rfl (fun hb => by obtain rfl := gF hb; exact a_move_d (lq rfl) rfl) ?_
     obtain ⟨t33, ht33, hsy1'⟩ := bE hsy1; clear hsy1
     refine sq_g (x := .ip (eEntry.all a0.Entries) (v3.toNat * eEntry.size)) rfl rfl rfl (lq rfl) (lq rfl) rfl (fun hb => by obtain rfl := gF hb; exact m_index (en := eEntry) (lq rfl) S22 rfl rfl ht33) ?_
     refine sq_g (x := .ip (eEntry.all a0.Entries) (v3.toNat * eEntry.size + 1)) rfl rfl rfl (lq rfl) (lq rfl) rfl (fun hb => by obtain rfl := gF hb; exact a_fieldAddr_ip (lq rfl) L55_1 rfl) ?_
     refine sq_g (x := .d (dsl eElement t33.Elements)) rfl rfl rfl (lq rfl) (lq rfl) rfl (fun hb => by obtain rfl := gF hb; exact m_loadE (en := eEntry) (l := a0.Entries) (i := v3) (v := t33) (off := 1) (lq rfl) O31 rfl ht33 rfl) ?_
     refine sq_g (x := .d (di (t33.Elements.length : Int))) rfl rfl rfl (lq rfl) (lq rfl) rfl (fun hb => by obtain rfl := gF hb; exact m_len (en := eElement) (l := t33.Elements) (lq rfl) S31 rfl) ?_
     refine sq_g (x := .d (db (decide (20 < (t33.Elements.length : Int))))) rfl rfl rfl (lq rfl) (lq rfl) rfl (fun hb => by obtain rfl := gF hb; exact a_gtr (lq rfl) rfl rfl) ?_
     refine sqa (a_pick_or (lq rfl) rfl rfl) ?_
     refine sq_nil ?_
     refine avc_if rfl ⟨fun c3 => ?_, fun c3 => ?_⟩
     ·
      replace hsy1' := cT c3 hsy1'
      refine avc_sq2 <| avc_sq ?_
      refine sqa (a_assign_d (lq rfl) rfl) ?_
      refine sq_nil ?_
      refine avc_ret ?_
      cases hsy1'
      intro q; cases q
     ·
      replace hsy1' := cF c3 hsy1'
      refine avc_skip <| avc_sq ?_
      refine sqa (a_move_d (lq rfl) rfl) ?_
      refine sqa (m_add (lq rfl) rfl rfl) ?_
      refine sqa (a_assign_d (lq rfl) rfl) ?_
      refine sq_nil ?_
      cases hsy1'
      exact weak_cov ⟨rfl, rfl, trivial⟩ trivial
    ·
     replace hsy1 := cF c2 hsy1
     refine avc_exit ?_
     cases hsy1
     intro q; cases q
     exact out_mk (weak_cov trivial trivial)
   ·
    refine avc_sq2 <| avc_sq ?_
    refine sqa (a_assign_d (lq rfl) rfl) ?_
    refine sq_nil ?_
    cases h
    refine avc_ret ?_
    exact ret_1 rfl
  ·
   replace h := eR h
   refine avc_tail (e := .ret) (S2 := ⟨[(2, .d (db y1))], []⟩) ?_ ?_
   ·
    refine avc_loopM (fun x => ⟨[(1, .d (.pt (eCollation.cells a0))), (3, .d (di x))], []⟩) hy1 (weak_cov ⟨rfl, rfl, trivial⟩ trivial) ?_
    rintro v3 sy1 hsy1
    replace hsy1 : ref43_Small_L0 a0 v3 = some sy1 := hsy1
    unfold ref43_Small_L0 at hsy1
    refine avc_sq2 <| avc_sq2 <| avc_sq ?_
    refine sqa (a_move_d (lq rfl) rfl) ?_
    refine sqa (m_fieldPt (lq rfl) L25_0 rfl) ?_
    refine sqa (a_load_ip (lq rfl) O22 rfl rfl) ?_
    refine sqa (m_len (en := eEntry) (l := a0.Entries) (lq rfl) S22 rfl) ?_
    refine sqa (a_lss (lq rfl) rfl rfl) ?_
    refine sq_nil ?_
    refine avc_if rfl ⟨fun c2 => ?_, fun c2 => ?_⟩
    ·
     replace hsy1 := cT c2 hsy1
     refine avc_skip <| avc_sq2 <| avc_block <| avc_sq2 <| avc_sq ?_
     refine sqa (m_fieldPt (lq rfl) L25_0 rfl) ?_
     refine sqa (a_load_ip (lq rfl) O22 rfl rfl) ?_
     refine sqa (a_move_d (lq rfl) rfl) ?_
     obtain ⟨t24, ht24, hsy1'⟩ := bE hsy1; clear hsy1
     refine sqa (m_index (en := eEntry) (lq rfl) S22 rfl rfl ht24) ?_
     refine sqa (a_fieldAddr_ip (lq rfl) L55_0 rfl) ?_
     refine sqa (m_loadE (en := eEntry) (l := a0.Entries) (i := v3) (v := t24) (off := 0) (lq rfl) O30 rfl ht24 rfl) ?_
     refine sqa (m_len (en := eI) (l := t24.Codes) (lq rfl) S30 rfl) ?_
     refine sqa (a_gtr (lq rfl) rfl rfl) ?_
     obtain ⟨b29, hb29, hsy1⟩ := bE hsy1'; clear hsy1'
     refine sqa ((a_move_d (lq rfl) rfl).bool (Option.some.inj hb29)) ?_
     refine sq_g (x := .ip (eCollation.cells a0) (0 + 0)) rfl rfl rfl (lq rfl) (lq rfl) rfl (fun hb => by obtain rfl := gF hb; exact m_fieldPt (lq rfl) L25_0 rfl) ?_
     refine sq_g (x := .d (dsl eEntry a0.Entries)) rfl rfl rfl (lq rfl) (lq rfl) rfl (fun hb => by obtain rfl := gF hb; exact a_load_ip (lq rfl) O22 rfl rfl) ?_
     refine sq_g (x := .d (di v3)) rfl rfl rfl (lq rfl) (lq rfl) rfl (fun hb => by obtain rfl := gF hb; exact a_move_d (lq rfl) rfl) ?_
     obtain ⟨t33, ht33, hsy1'⟩ := bE hsy1; clear hsy1
     refine sq_g (x := .ip (eEntry.all a0.Entries) (v3.toNat * eEntry.size)) rfl rfl rfl (lq rfl) (lq rfl) rfl (fun hb => by obtain rfl := gF hb; exact m_index (en := eEntry) (lq rfl) S22 rfl rfl ht33) ?_
     refine sq_g (x := .ip (eEntry.all a0.Entries) (v3.toNat * eEntry.size + 1)) rfl rfl rfl (lq rfl) (lq rfl) rfl (fun hb => by obtain rfl := gF hb; exact a_fieldAddr_ip (lq rfl) L55_1 rfl) ?_
     refine sq_g (x := .d (dsl eElement t33.Elements)) rfl rfl rfl (lq rfl) (lq rfl) rfl (fun hb => by obtain rfl := gF hb; exact m_loadE (en := eEntry) (l := a0.Entries) (i := v3) (v := t33) (off := 1) (lq rfl) O31 rfl ht33 rfl) ?_
     refine sq_g (x := .d (di (t33.Elements.length : Int))) rfl rfl rfl (lq rfl) (lq rfl) rfl (fun hb => by obtain rfl := gF hb; exact m_len (en := eElement) (l := t33.Elements) (lq rfl) S31 rfl) ?_
     refine sq_g (x := .d (db (decide (20 < (t33.Elements.length : Int))))) rfl rfl rfl (lq rfl) (lq rfl) rfl (fun hb => by obtain rfl := gF hb; exact a_gtr (lq rfl) rfl rfl) ?_
     refine sqa (a_pick_or (lq rfl) rfl rfl) ?_
     refine sq_nil ?_
     refine avc_if rfl ⟨fun c3 => ?_, fun c3 => ?_⟩
     ·
      replace hsy1' := cT c3 hsy1'
      refine avc_sq2 <| avc_sq ?_
      refine sqa (a_assign_d (lq rfl) rfl) ?_
      refine sq_nil ?_
      refine avc_ret ?_
      cases hsy1'
      intro q; cases q
      exact out_mk (weak_cov ⟨rfl, trivial⟩ trivial)
     ·
      replace hsy1' := cF c3 hsy1'
      refine avc_skip <| avc_sq ?_
      refine sqa (a_move_d (lq rfl) rfl) ?_
      refine sqa (m_add (lq rfl) rfl rfl) ?_
      refine sqa (a_assign_d (lq rfl) rfl) ?_
      refine sq_nil ?_
      cases hsy1'
      exact weak_cov ⟨rfl, rfl, trivial⟩ trivial
    ·
     replace hsy1 := cF c2 hsy1
     refine avc_exit ?_
     cases hsy1
     intro q; cases q
   ·
    cases h
    exact ret_1 rfl

theorem colltable_isWeight_c  {a0 : Int}  {r : Bool} (h : colltable_isWeight a0 = some r) : Contract Tryd.prog 23 [(di a0)] [(db r)] := by
 refine contract_of Tryd.func23 (by kernel_rfl) rfl (lq rfl) (lq rfl) fun w0 I0 hI0 hG0 => ?_
 unfold colltable_isWeight at h
 refine avc_sq2 <| avc_sq ?_
 refine sqa (a_assign_d (lq rfl) rfl) ?_
 refine sq_nil <| avc_sq2 <| avc_sq ?_
 refine sqa (a_move_d (lq rfl) rfl) ?_
 refine sqa (a_geq (lq rfl) rfl rfl) ?_
 obtain ⟨b5, hb5, h'⟩ := bE h; clear h
 refine sqa ((a_move_d (lq rfl) rfl).bool (Option.some.inj hb5)) ?_
 refine sq_g (x := .d (di a0)) rfl rfl rfl (lq rfl) (lq rfl) rfl (fun hb => by obtain rfl : b5 = true := hb; exact a_move_d (lq rfl) rfl) ?_
 refine sq_g (x := .d (db (decide (a0 ≤ 65535)))) rfl rfl rfl (lq rfl) (lq rfl) rfl (fun hb => by obtain rfl : b5 = true := hb; exact a_leq (lq rfl) rfl rfl) ?_
 refine sqa (a_pick_and (lq rfl) rfl rfl) ?_
 refine sqa (a_assign_d (lq rfl) rfl) ?_
 refine sq_nil ?_
 cases h'
 refine avc_ret ?_
 exact ret_1 rfl

theorem colltable_isName_c  {a0 : Str}  {r : Bool} (h : colltable_isName a0 = some r) : Contract Tryd.prog 45 [(ds a0)] [(db r)] := by
 refine contract_of Tryd.func45 (by kernel_rfl) rfl (lq rfl) (lq rfl) fun w0 I0 hI0 hG0 => ?_
 unfold colltable_isName at h
 refine avc_sq2 <| avc_sq ?_
 refine sqa (a_assign_d (lq rfl) rfl) ?_
 refine sq_nil <| avc_sq2 <| avc_sq2 <| avc_sq ?_
 refine sqa (a_move_d (lq rfl) rfl) ?_
 refine sqa (m_slen (s := a0) (lq rfl) Tryd.underlying9 rfl) ?_
 refine sqa (a_move_d (lq rfl) rfl) ?_
 refine sq_nil <| avc_block ?_
 obtain ⟨y1, hy1, h'⟩ := bE h; clear h
 rcases y1 with y1 | y1
 ·
  replace h' := eL h'
  refine avc_tail (e := .exit 0) (S2 := ⟨[(0, .d (ds a0))], []⟩) ?_ ?_
  ·
   refine avc_loopM (fun x => ⟨[(0, .d (ds a0)), (6, .d (di (a0.length : Int))), (7, .d (di x))], []⟩) hy1 (weak_cov ⟨rfl, rfl, rfl, trivial⟩ trivial) ?_
   rintro v7 sy1 hsy1
   replace hsy1 : colltable_isName_L0 a0 v7 = some sy1 := hsy1
   unfold colltable_isName_L0 at hsy1
   refine avc_sq2 <| avc_sq ?_
   refine sqa (a_lss (lq rfl) rfl rfl) ?_
   refine sq_nil <| avc_sq2 ?_
   refine avc_if rfl ⟨fun c1 => ?_, fun c1 => ?_⟩
   ·
    replace hsy1 := cT c1 hsy1
    refine avc_skip <| avc_sq2 <| avc_block <| avc_sq2 <| avc_sq ?_
    refine sqa (a_move_d (lq rfl) rfl) ?_
    refine sqa (a_assign_d (lq rfl) rfl) ?_
    refine sq_nil <| avc_sq2 <| avc_sq ?_
    refine sqa (a_move_d (lq rfl) rfl) ?_
    refine sqa (a_move_d (lq rfl) rfl) ?_
    obtain ⟨t12, ht12, hsy1'⟩ := bE hsy1; clear hsy1
    refine sqa (m_sindex (s := a0) (lq rfl) Tryd.underlying9 rfl rfl ht12) ?_
    refine sqa (a_assign_d (lq rfl) rfl) ?_
    refine sq_nil <| avc_sq2 <| avc_sq ?_
    refine sqa (a_move_d (lq rfl) rfl) ?_
    refine sqa (a_geq (lq rfl) rfl rfl) ?_
    obtain ⟨b15, hb15, hsy1⟩ := bE hsy1'; clear hsy1'
    refine sqa ((a_move_d (lq rfl) rfl).bool (Option.some.inj hb15)) ?_
    refine sq_g (x := .d (dby t12)) rfl rfl rfl (lq rfl) (lq rfl) rfl (fun hb => by obtain rfl : b15 = true := hb; exact a_move_d (lq rfl) rfl) ?_
    refine sq_g (x := .d (db (decide (t12 ≤ 90)))) rfl rfl rfl (lq rfl) (lq rfl) rfl (fun hb => by obtain rfl : b15 = true := hb; exact a_leq (lq rfl) rfl rfl) ?_
    refine sqa (a_pick_and (lq rfl) rfl rfl) ?_
    obtain ⟨b19, hb19, hsy1'⟩ := bE hsy1; clear hsy1
    refine sqa ((a_move_d (lq rfl) rfl).bool (Option.some.inj hb19)) ?_
    refine sq_g (x := .d (dby t12)) rfl rfl rfl (lq rfl) (lq rfl) rfl (fun hb => by obtain rfl := gF hb; exact a_move_d (lq rfl) rfl) ?_
    refine sq_g (x := .d (db (decide (97 ≤ t12)))) rfl rfl rfl (lq rfl) (lq rfl) rfl (fun hb => by obtain rfl := gF hb; exact a_geq (lq rfl) rfl rfl) ?_
    obtain ⟨b22, hb22, hsy1⟩ := bE hsy1'; clear hsy1'
    refine sq_g (x := .d (db b22)) rfl rfl rfl (lq rfl) (lq rfl) rfl (fun hb => by obtain rfl := gF hb; exact (a_move_d (lq rfl) rfl).bool (Option.some.inj hb22)) ?_
    refine sq_g2 (x := .d (dby t12)) rfl rfl rfl (lq rfl) (lq rfl) rfl (fun hb => by obtain ⟨hb, hb1⟩ := and_split hb; obtain rfl := gF hb; obtain rfl : b22 = true := hb1; exact a_move_d (lq rfl) rfl) ?_
    refine sq_g2 (x := .d (db (decide (t12 ≤ 122)))) rfl rfl rfl (lq rfl) (lq rfl) rfl (fun hb => by obtain ⟨hb, hb1⟩ := and_split hb; obtain rfl := gF hb; obtain rfl : b22 = true := hb1; exact a_leq (lq rfl) rfl rfl) ?_
    refine sq_g (x := .d (db (b22 && (decide (t12 ≤ 122))))) rfl rfl rfl (lq rfl) (lq rfl) rfl (fun hb => by obtain rfl := gF hb; exact a_pick_and (lq rfl) rfl rfl) ?_
    refine sqa (a_pick_or (lq rfl) rfl rfl) ?_
    obtain ⟨b27, hb27, hsy1'⟩ := bE hsy1; clear hsy1
    refine sqa ((a_move_d (lq rfl) rfl).bool (Option.some.inj hb27)) ?_
    refine sq_g (x := .d (dby t12)) rfl rfl rfl (lq rfl) (lq rfl) rfl (fun hb => by obtain rfl := gF hb; exact a_move_d (lq rfl) rfl) ?_
    refine sq_g (x := .d (db (decide (48 ≤ t12)))) rfl rfl rfl (lq rfl) (lq rfl) rfl (fun hb => by obtain rfl := gF hb; exact a_geq (lq rfl) rfl rfl) ?_
    obtain ⟨b30, hb30, hsy1⟩ := bE hsy1'; clear hsy1'
    refine sq_g (x := .d (db b30)) rfl rfl rfl (lq rfl) (lq rfl) rfl (fun hb => by obtain rfl := gF hb; exact (a_move_d (lq rfl) rfl).bool (Option.some.inj hb30)) ?_
    refine sq_g2 (x := .d (dby t12)) rfl rfl rfl (lq rfl) (lq rfl) rfl (fun hb => by obtain ⟨hb, hb1⟩ := and_split hb; obtain rfl := gF hb; obtain rfl : b30 = true := hb1; exact a_move_d (lq rfl) rfl) ?_
    refine sq_g2 (x := .d (db (decide (t12 ≤ 57)))) rfl rfl rfl (lq rfl) (lq rfl) rfl (fun hb => by obtain ⟨hb, hb1⟩ := and_split hb; obtain rfl := gF hb; obtain rfl : b30 = true := hb1; exact a_leq (lq rfl) rfl rfl) ?_
    refine sq_g (x := .d (db (b30 && (decide (t12 ≤ 57))))) rfl rfl rfl (lq rfl) (lq rfl) rfl (fun hb => by obtain rfl := gF hb; exact a_pick_and (lq rfl) rfl rfl) ?_
    refine sqa (a_pick_or (lq rfl) rfl rfl) ?_
    obtain ⟨b35, hb35, hsy1'⟩ := bE hsy1; clear hsy1
    refine sqa ((a_move_d (lq rfl) rfl).bool (Option.some.inj hb35)) ?_
    refine sq_g (x := .d (dby t12)) rfl rfl rfl (lq rfl) (lq rfl) rfl (fun hb => by obtain rfl := gF hb; exact a_move_d (lq rfl) rfl) ?_
    refine sq_g (x := .d (db (decide (t12 = 95)))) rfl rfl rfl (lq rfl) (lq rfl) rfl (fun hb => by obtain rfl := gF hb; exact a_eql (lq rfl) rfl rfl) ?_
    refine sqa (a_pick_or (lq rfl) rfl rfl) ?_
    refine sqa (a_not (lq rfl) rfl) ?_
    refine sq_nil ?_
    refine avc_if rfl ⟨fun c2 => ?_, fun c2 => ?_⟩
    ·
     replace hsy1' := cT c2 hsy1'
     refine avc_sq2 <| avc_sq ?_
     refine sqa (a_assign_d (lq rfl) rfl) ?_
     refine sq_nil ?_
     refine avc_ret ?_
     cases hsy1'
     intro q; cases q
    ·
     replace hsy1' := cF c2 hsy1'
     refine avc_skip <| avc_sq ?_
     refine sqa (m_add (lq rfl) rfl rfl) ?_
     refine sqa (a_move_d (lq rfl) rfl) ?_
     refine sq_nil ?_
     cases hsy1'
     exact weak_cov ⟨rfl, rfl, rfl, trivial⟩ trivial
   ·
    replace hsy1 := cF c1 hsy1
    refine avc_exit ?_
    cases hsy1
    intro q; cases q
    exact out_mk (weak_cov ⟨rfl, trivial⟩ trivial)
  ·
   refine avc_sq2 <| avc_sq ?_
   refine sqa (a_move_d (lq rfl) rfl) ?_
   refine sqa (m_sneq (a := a0) (b := []) (lq rfl) rfl rfl) ?_
   obtain ⟨b43, hb43, h⟩ := bE h'; clear h'
   refine sqa ((a_move_d (lq rfl) rfl).bool (Option.some.inj hb43)) ?_
   refine sq_g (x := .d (ds a0)) rfl rfl rfl (lq rfl) (lq rfl) rfl (fun hb => by obtain rfl : b43 = true := hb; exact a_move_d (lq rfl) rfl) ?_
   refine sq_g (x := .d (di (a0.length : Int))) rfl rfl rfl (lq rfl) (lq rfl) rfl (fun hb => by obtain rfl : b43 = true := hb; exact m_slen (s := a0) (lq rfl) Tryd.underlying9 rfl) ?_
   refine sq_g (x := .d (db (decide ((a0.length : Int) ≤ 32)))) rfl rfl rfl (lq rfl) (lq rfl) rfl (fun hb => by obtain rfl : b43 = true := hb; exact a_leq (lq rfl) rfl rfl) ?_
   refine sqa (a_pick_and (lq rfl) rfl rfl) ?_
   refine sqa (a_assign_d (lq rfl) rfl) ?_
   refine sq_nil ?_
   cases h
   refine avc_ret ?_
   exact ret_1 rfl
 ·
  replace h' := eR h'
  refine avc_tail (e := .ret) (S2 := ⟨[(2, .d (db y1))], []⟩) ?_ ?_
  ·
   refine avc_loopM (fun x => ⟨[(0, .d (ds a0)), (6, .d (di (a0.length : Int))), (7, .d (di x))], []⟩) hy1 (weak_cov ⟨rfl, rfl, rfl, trivial⟩ trivial) ?_
   rintro v7 sy1 hsy1
   replace hsy1 : colltable_isName_L0 a0 v7 = some sy1 := hsy1
   unfold colltable_isName_L0 at hsy1
   refine avc_sq2 <| avc_sq ?_
   refine sqa (a_lss (lq rfl) rfl rfl) ?_
   refine sq_nil <| avc_sq2 ?_
   refine avc_if rfl ⟨fun c1 => ?_, fun c1 => ?_⟩
   ·
    replace hsy1 := cT c1 hsy1
    refine avc_skip <| avc_sq2 <| avc_block <| avc_sq2 <| avc_sq ?_
    refine sqa (a_move_d (lq rfl) rfl) ?_
    refine sqa (a_assign_d (lq rfl) rfl) ?_
    refine sq_nil <| avc_sq2 <| avc_sq ?_
    refine sqa (a_move_d (lq rfl) rfl) ?_
    refine sqa (a_move_d (lq rfl) rfl) ?_
    obtain ⟨t12, ht12, hsy1'⟩ := bE hsy1; clear hsy1
    refine sqa (m_sindex (s := a0) (lq rfl) Tryd.underlying9 rfl rfl ht12) ?_
    refine sqa (a_assign_d (lq rfl) rfl) ?_
    refine sq_nil <| avc_sq2 <| avc_sq ?_
    refine sqa (a_move_d (lq rfl) rfl) ?_
    refine sqa (a_geq (lq rfl) rfl rfl) ?_
    obtain ⟨b15, hb15, hsy1⟩ := bE hsy1'; clear hsy1'
    refine sqa ((a_move_d (lq rfl) rfl).bool (Option.some.inj hb15)) ?_
    refine sq_g (x := .d (dby t12)) rfl rfl rfl (lq rfl) (lq rfl) rfl (fun hb => by obtain rfl : b15 = true := hb; exact a_move_d (lq rfl) rfl) ?_
    refine sq_g (x := .d (db (decide (t12 ≤ 90)))) rfl rfl rfl (lq rfl) (lq rfl) rfl (fun hb => by obtain rfl : b15 = true := hb; exact a_leq (lq rfl) rfl rfl) ?_
    refine sqa (a_pick_and (lq rfl) rfl rfl) ?_
    obtain ⟨b19, hb19, hsy1'⟩ := bE hsy1; clear hsy1
    refine sqa ((a_move_d (lq rfl) rfl).bool (Option.some.inj hb19)) ?_
    refine sq_g (x := .d (dby t12)) rfl rfl rfl (lq rfl) (lq rfl) rfl (fun hb => by obtain rfl := gF hb; exact a_move_d (lq rfl) rfl) ?_
    refine sq_g (x := .d (db (decide (97 ≤ t12)))) rfl rfl rfl (lq rfl) (lq rfl) rfl (fun hb => by obtain rfl := gF hb; exact a_geq (lq rfl) rfl rfl) ?_
    obtain ⟨b22, hb22, hsy1⟩ := bE hsy1'; clear hsy1'
    refine sq_g (x := .d (db b22)) rfl rfl rfl (lq rfl) (lq rfl) rfl (fun hb => by obtain rfl := gF hb; exact (a_move_d (lq rfl) rfl).bool (Option.some.inj hb22)) ?_
    refine sq_g2 (x := .d (dby t12)) rfl rfl rfl (lq rfl) (lq rfl) rfl (fun hb => by obtain ⟨hb, hb1⟩ := and_split hb; obtain rfl := gF hb; obtain rfl : b22 = true := hb1; exact a_move_d (lq rfl) rfl) ?_
    refine sq_g2 (x := .d (db (decide (t12 ≤ 122)))) rfl rfl rfl (lq rfl) (lq rfl) rfl (fun hb => by obtain ⟨hb, hb1⟩ := and_split hb; obtain rfl := gF hb; obtain rfl : b22 = true := hb1; exact a_leq (lq rfl) rfl rfl) ?_
    refine sq_g (x := .d (db (b22 && (decide (t12 ≤ 122))))) rfl rfl rfl (lq rfl) (lq rfl) rfl (fun hb => by obtain rfl := gF hb; exact a_pick_and (lq rfl) rfl rfl) ?_
    refine sqa (a_pick_or (lq rfl) rfl rfl) ?_
    obtain ⟨b27, hb27, hsy1'⟩ := bE hsy1; clear hsy1
    refine sqa ((a_move_d (lq rfl) rfl).bool (Option.some.inj hb27)) ?_
    refine sq_g (x := .d (dby t12)) rfl rfl rfl (lq rfl) (lq rfl) rfl (fun hb => by obtain rfl := gF hb; exact a_move_d (lq rfl) rfl) ?_
    refine sq_g (x := .d (db (decide (48 ≤ t12)))) rfl rfl rfl (lq rfl) (lq rfl) rfl (fun hb => by obtain rfl := gF hb; exact a_geq (lq rfl) rfl rfl) ?_
    obtain ⟨b30, hb30, hsy1⟩ := bE hsy1'; clear hsy1'
    refine sq_g (x := .d (db b30)) rfl rfl rfl (lq rfl) (lq rfl) rfl (fun hb => by obtain rfl := gF hb; exact (a_move_d (lq rfl) rfl).bool (Option.some.inj hb30)) ?_
    refine sq_g2 (x := .d (dby t12)) rfl rfl rfl (lq rfl) (lq rfl) rfl (fun hb => by obtain ⟨hb, hb1⟩ := and_split hb; obtain rfl := gF hb; obtain rfl : b30 = true := hb1; exact a_move_d (lq rfl) rfl) ?_
    refine sq_g2 (x := .d (db (decide (t12 ≤ 57)))) rfl rfl rfl (lq rfl) (lq rfl) rfl (fun hb => by obtain ⟨hb, hb1⟩ := and_split hb; obtain rfl := gF hb; obtain rfl : b30 = true := hb1; exact a_leq (lq rfl) rfl rfl) ?_
    refine sq_g (x := .d (db (b30 && (decide (t12 ≤ 57))))) rfl rfl rfl (lq rfl) (lq rfl) rfl (fun hb => by obtain rfl := gF hb; exact a_pick_and (lq rfl) rfl rfl) ?_
    refine sqa (a_pick_or (lq rfl) rfl rfl) ?_
    obtain ⟨b35, hb35, hsy1'⟩ := bE hsy1; clear hsy1
    refine sqa ((a_move_d (lq rfl) rfl).bool (Option.some.inj hb35)) ?_
    refine sq_g (x := .d (dby t12)) rfl rfl rfl (lq rfl) (lq rfl) rfl (fun hb => by obtain rfl := gF hb; exact a_move_d (lq rfl) rfl) ?_
    refine sq_g (x := .d (db (decide (t12 = 95)))) rfl rfl rfl (lq rfl) (lq rfl) rfl (fun hb => by obtain rfl := gF hb; exact a_eql (lq rfl) rfl rfl) ?_
    refine sqa (a_pick_or (lq rfl) rfl rfl) ?_
    refine sqa (a_not (lq rfl) rfl) ?_
    refine sq_nil ?_
    refine avc_if rfl ⟨fun c2 => ?_, fun c2 => ?_⟩
    ·
     replace hsy1' := cT c2 hsy1'
     refine avc_sq2 <| avc_sq ?_
     refine sqa (a_assign_d (lq rfl) rfl) ?_
     refine sq_nil ?_
     refine avc_ret ?_
     cases hsy1'
     intro q; cases q
     exact out_mk (weak_cov ⟨rfl, trivial⟩ trivial)
    ·
     replace hsy1' := cF c2 hsy1'
     refine avc_skip <| avc_sq ?_
     refine sqa (m_add (lq rfl) rfl rfl) ?_
     refine sqa (a_move_d (lq rfl) rfl) ?_
     refine sq_nil ?_
     cases hsy1'
     exact weak_cov ⟨rfl, rfl, rfl, trivial⟩ trivial
   ·
    replace hsy1 := cF c1 hsy1
    refine avc_exit ?_
    cases hsy1
    intro q; cases q
  ·
   cases h'
   exact ret_1 rfl

theorem colltable_checkGroups_c  {a0 : Collation}  {r : Int} (h : colltable_checkGroups a0 = some r) : Contract Tryd.prog 24 [(eCollation.dv a0)] [(di r)] := by
 refine contract_of Tryd.func24 (by kernel_rfl) rfl (lq rfl) (lq rfl) fun w0 I0 hI0 hG0 => ?_
 unfold colltable_checkGroups at h
 refine avc_sq2 <| avc_sq ?_
 refine sqa (m_box (size := 5) (lq rfl) rfl rfl) ?_
 refine sqa (a_assign_d (lq rfl) rfl) ?_
 refine sq_nil <| avc_sq2 <| avc_sq2 <| avc_sq ?_
 refine sqa (m_fieldPt (lq rfl) L25_1 rfl) ?_
 refine sqa (a_load_ip (lq rfl) O23 rfl rfl) ?_
 refine sqa (m_len (en := eGroup) (l := a0.Groups) (lq rfl) S23 rfl) ?_
 refine sqa (a_move_d (lq rfl) rfl) ?_
 refine sq_nil <| avc_block ?_
 obtain ⟨y1, hy1, h'⟩ := bE h; clear h
 rcases y1 with y1 | y1
 ·
  replace h' := eL h'
  refine avc_tail (e := .exit 0) (S2 := ⟨[(1, .d (.pt (eCollation.cells a0)))], []⟩) ?_ ?_
  ·
   refine avc_loopM (fun x => ⟨[(1, .d (.pt (eCollation.cells a0))), (13, .d (dsl eGroup a0.Groups)), (14, .d (di (a0.Groups.length : Int))), (15, .d (di x))], []⟩) hy1 (weak_cov ⟨rfl, rfl, rfl, rfl, trivial⟩ trivial) ?_
   rintro v15 sy1 hsy1
   replace hsy1 : colltable_checkGroups_L0 a0 v15 = some sy1 := hsy1
   unfold colltable_checkGroups_L0 at hsy1
   refine avc_sq2 <| avc_sq ?_
   refine sqa (a_lss (lq rfl) rfl rfl) ?_
   refine sq_nil <| avc_sq2 ?_
   refine avc_if rfl ⟨fun c1 => ?_, fun c1 => ?_⟩
   ·
    replace hsy1 := cT c1 hsy1
    refine avc_skip <| avc_sq2 <| avc_block <| avc_sq2 <| avc_sq ?_
    obtain ⟨t17, ht17, hsy1'⟩ := bE hsy1; clear hsy1
    refine sqa (m_index (en := eGroup) (lq rfl) S23 rfl rfl ht17) ?_
    refine sqa (m_loadEA (en := eGroup) (l := a0.Groups) (i := v15) (v := t17) (off := 0) (lq rfl) G80 rfl ht17 rfl rfl (by decide)) ?_
    refine sq_b rfl (step_alloc (zs := [(.string ⟨#[]⟩), (.int IntKind.i64 (0)), (.int IntKind.i64 (0))]) (lq rfl) (by kernel_rfl) rfl rfl) ?_
    refine sq_b rfl (s_store_boxA G80 rfl rfl rfl rfl rfl rfl) ?_
    refine sq_nil ?_
    refine avc_weak (weak_freeze (t := 4) (lq rfl) rfl rfl rfl) ?_
    refine avc_sq2 <| avc_sq ?_
    refine sqa (m_fieldPt (lq rfl) L80_0 rfl) ?_
    refine sqa (a_load_ip (lq rfl) O9 rfl rfl) ?_
    obtain ⟨t21, ht21, hsy1⟩ := bE hsy1'; clear hsy1'
    refine sqa (a_call (lq rfl) rfl (colltable_isName_c ht21)) ?_
    refine sqa (a_not (lq rfl) rfl) ?_
    refine sq_nil ?_
    refine avc_if rfl ⟨fun c2 => ?_, fun c2 => ?_⟩
    ·
     replace hsy1 := cT c2 hsy1
     refine avc_sq2 <| avc_sq ?_
     refine sqa (a_assign_d (lq rfl) rfl) ?_
     refine sq_nil ?_
     refine avc_ret ?_
     cases hsy1
     intro q; cases q
    ·
     replace hsy1 := cF c2 hsy1
     refine avc_skip <| avc_sq ?_
     refine sqa (m_add (lq rfl) rfl rfl) ?_
     refine sqa (a_move_d (lq rfl) rfl) ?_
     refine sq_nil ?_
     cases hsy1
     exact weak_cov ⟨rfl, rfl, rfl, rfl, trivial⟩ trivial
   ·
    replace hsy1 := cF c1 hsy1
    refine avc_exit ?_
    cases hsy1
    intro q; cases q
    exact out_mk (weak_cov ⟨rfl, trivial⟩ trivial)
  ·
   refine avc_sq2 <| avc_sq ?_
   refine sq_b rfl (m_makeMap (lq rfl) rfl) ?_
   refine sqa (a_assign_row (lq rfl) rfl) ?_
   refine sq_nil <| avc_sq2 <| avc_sq2 <| avc_sq ?_
   refine sqa (m_fieldPt (lq rfl) L25_1 rfl) ?_
   refine sqa (a_load_ip (lq rfl) O23 rfl rfl) ?_
   refine sqa (m_len (en := eGroup) (l := a0.Groups) (lq rfl) S23 rfl) ?_
   refine sqa (a_move_d (lq rfl) rfl) ?_
   refine sq_nil <| avc_block ?_
   obtain ⟨y2, hy2, h⟩ := bE h'; clear h'
   rcases y2 with y2 | y2
   ·
    replace h := eL h
    refine avc_tail (e := .exit 2) (S2 := ⟨[(1, .d (.pt (eCollation.cells a0)))], []⟩) ?_ ?_
    ·
     refine avc_loopM (fun x => ⟨[(1, .d (.pt (eCollation.cells a0))), (5, .row 24), (26, .d (dsl eGroup a0.Groups)), (27, .d (di (a0.Groups.length : Int))), (28, .d (di x.1))], [(24, .map (mapE kS eB x.2))]⟩) hy2 (weak_cov ⟨rfl, rfl, rfl, rfl, rfl, trivial⟩ ⟨rfl, trivial⟩) ?_
     rintro ⟨v28, r24⟩ sy2 hsy2
     replace hsy2 : colltable_checkGroups_L1 a0 v28 r24 = some sy2 := hsy2
     unfold colltable_checkGroups_L1 at hsy2
     refine avc_sq2 <| avc_sq ?_
     refine sqa (a_lss (lq rfl) rfl rfl) ?_
     refine sq_nil <| avc_sq2 ?_
     refine avc_if rfl ⟨fun c3 => ?_, fun c3 => ?_⟩
     ·
      replace hsy2 := cT c3 hsy2
      refine avc_skip <| avc_sq2 <| avc_block <| avc_sq2 <| avc_sq ?_
      obtain ⟨t30, ht30, hsy2'⟩ := bE hsy2; clear hsy2
      refine sqa (m_index (en := eGroup) (lq rfl) S23 rfl rfl ht30) ?_
      refine sqa (m_loadEA (en := eGroup) (l := a0.Groups) (i := v28) (v := t30) (off := 0) (lq rfl) G80 rfl ht30 rfl rfl (by decide)) ?_
      refine sq_b rfl (step_alloc (zs := [(.string ⟨#[]⟩), (.int IntKind.i64 (0)), (.int IntKind.i64 (0))]) (lq rfl) (by kernel_rfl) rfl rfl) ?_
      refine sq_b rfl (s_store_boxA G80 rfl rfl rfl rfl rfl rfl) ?_
      refine sq_nil ?_
      refine avc_weak (weak_freeze (t := 7) (lq rfl) rfl rfl rfl) ?_
      refine avc_sq2 <| avc_sq2 <| avc_sq ?_
      refine sqa (a_move_row (lq rfl) rfl) ?_
      refine sqa (m_fieldPt (lq rfl) L80_0 rfl) ?_
      refine sqa (a_load_ip (lq rfl) O9 rfl rfl) ?_
      refine sqa (m_lookup (kv := kS) (ev := eB) (mp := r24) (k := t30.Name) (zero := false) (lq rfl) M82 K9 rfl rfl rfl (fun _ _ => .v _)) ?_
      refine sq_nil ?_
      refine avc_if rfl ⟨fun c4 => ?_, fun c4 => ?_⟩
      ·
       replace hsy2' := cT c4 hsy2'
       refine avc_sq2 <| avc_sq ?_
       refine sqa (a_assign_d (lq rfl) rfl) ?_
       refine sq_nil ?_
       refine avc_ret ?_
       cases hsy2'
       intro q; cases q
      ·
       replace hsy2' := cF c4 hsy2'
       refine avc_skip <| avc_sq ?_
       refine sqa (a_move_row (lq rfl) rfl) ?_
       refine sqa (m_fieldPt (lq rfl) L80_0 rfl) ?_
       refine sqa (a_load_ip (lq rfl) O9 rfl rfl) ?_
       refine sq_b rfl (m_mapUpdate (kv := kS) (ev := eB) (mp := r24) (k := t30.Name) (v := true) M82 K9 rfl rfl rfl rfl rfl rfl) ?_
       refine sq_nil <| avc_sq ?_
       refine sqa (m_add (lq rfl) rfl rfl) ?_
       refine sqa (a_move_d (lq rfl) rfl) ?_
       refine sq_nil ?_
       cases hsy2'
       exact weak_cov ⟨rfl, rfl, rfl, rfl, rfl, trivial⟩ ⟨rfl, trivial⟩
     ·
      replace hsy2 := cF c3 hsy2
      refine avc_exit ?_
      cases hsy2
      intro q; cases q
      exact out_mk (weak_cov ⟨rfl, trivial⟩ trivial)
    ·
     refine avc_sq2 <| avc_sq2 <| avc_sq ?_
     refine sqa (m_fieldPt (lq rfl) L25_1 rfl) ?_
     refine sqa (a_load_ip (lq rfl) O23 rfl rfl) ?_
     refine sqa (m_len (en := eGroup) (l := a0.Groups) (lq rfl) S23 rfl) ?_
     refine sqa (a_move_d (lq rfl) rfl) ?_
     refine sq_nil <| avc_block ?_
     obtain ⟨y3, hy3, h'⟩ := bE h; clear h
     rcases y3 with y3 | y3
     ·
      replace h' := eL h'
      refine avc_tail (e := .exit 4) (S2 := ⟨[(1, .d (.pt (eCollation.cells a0)))], []⟩) ?_ ?_
      ·
       refine avc_loopM (fun x => ⟨[(1, .d (.pt (eCollation.cells a0))), (41, .d (dsl eGroup a0.Groups)), (42, .d (di (a0.Groups.length : Int))), (43, .d (di x))], []⟩) hy3 (weak_cov ⟨rfl, rfl, rfl, rfl, trivial⟩ trivial) ?_
       rintro v43 sy3 hsy3
       replace hsy3 : colltable_checkGroups_L2 a0 v43 = some sy3 := hsy3
       unfold colltable_checkGroups_L2 at hsy3
       refine avc_sq2 <| avc_sq ?_
       refine sqa (a_lss (lq rfl) rfl rfl) ?_
       refine sq_nil <| avc_sq2 ?_
       refine avc_if rfl ⟨fun c5 => ?_, fun c5 => ?_⟩
       ·
        replace hsy3 := cT c5 hsy3
        refine avc_skip <| avc_sq2 <| avc_block <| avc_sq2 <| avc_sq ?_
        obtain ⟨t45, ht45, hsy3'⟩ := bE hsy3; clear hsy3
        refine sqa (m_index (en := eGroup) (lq rfl) S23 rfl rfl ht45) ?_
        refine sqa (m_loadEA (en := eGroup) (l := a0.Groups) (i := v43) (v := t45) (off := 0) (lq rfl) G80 rfl ht45 rfl rfl (by decide)) ?_
        refine sq_b rfl (step_alloc (zs := [(.string ⟨#[]⟩), (.int IntKind.i64 (0)), (.int IntKind.i64 (0))]) (lq rfl) (by kernel_rfl) rfl rfl) ?_
        refine sq_b rfl (s_store_boxA G80 rfl rfl rfl rfl rfl rfl) ?_
        refine sq_nil ?_
        refine avc_weak (weak_freeze (t := 9) (lq rfl) rfl rfl rfl) ?_
        refine avc_sq2 <| avc_sq ?_
        refine sqa (m_fieldPt (lq rfl) L80_1 rfl) ?_
        refine sqa (a_load_ip (lq rfl) O3 rfl rfl) ?_
        refine sqa (a_lss (lq rfl) rfl rfl) ?_
        obtain ⟨b50, hb50, hsy3⟩ := bE hsy3'; clear hsy3'
        refine sqa ((a_move_d (lq rfl) rfl).bool (Option.some.inj hb50)) ?_
        refine sq_g (x := .ip (eGroup.cells t45) (0 + 2)) rfl rfl rfl (lq rfl) (lq rfl) rfl (fun hb => by obtain rfl := gF hb; exact m_fieldPt (lq rfl) L80_2 rfl) ?_
        refine sq_g (x := .d (di t45.Hi)) rfl rfl rfl (lq rfl) (lq rfl) rfl (fun hb => by obtain rfl := gF hb; exact a_load_ip (lq rfl) O3 rfl rfl) ?_
        refine sq_g (x := .ip (eGroup.cells t45) (0 + 1)) rfl rfl rfl (lq rfl) (lq rfl) rfl (fun hb => by obtain rfl := gF hb; exact m_fieldPt (lq rfl) L80_1 rfl) ?_
        refine sq_g (x := .d (di t45.Lo)) rfl rfl rfl (lq rfl) (lq rfl) rfl (fun hb => by obtain rfl := gF hb; exact a_load_ip (lq rfl) O3 rfl rfl) ?_
        refine sq_g (x := .d (db (decide (t45.Hi < t45.Lo)))) rfl rfl rfl (lq rfl) (lq rfl) rfl (fun hb => by obtain rfl := gF hb; exact a_lss (lq rfl) rfl rfl) ?_
        refine sqa (a_pick_or (lq rfl) rfl rfl) ?_
        obtain ⟨b57, hb57, hsy3'⟩ := bE hsy3; clear hsy3
        refine sqa ((a_move_d (lq rfl) rfl).bool (Option.some.inj hb57)) ?_
        refine sq_g (x := .ip (eGroup.cells t45) (0 + 2)) rfl rfl rfl (lq rfl) (lq rfl) rfl (fun hb => by obtain rfl := gF hb; exact m_fieldPt (lq rfl) L80_2 rfl) ?_
        refine sq_g (x := .d (di t45.Hi)) rfl rfl rfl (lq rfl) (lq rfl) rfl (fun hb => by obtain rfl := gF hb; exact a_load_ip (lq rfl) O3 rfl rfl) ?_
        refine sq_g (x := .ip (eCollation.cells a0) (0 + 2)) rfl rfl rfl (lq rfl) (lq rfl) rfl (fun hb => by obtain rfl := gF hb; exact m_fieldPt (lq rfl) L25_2 rfl) ?_
        refine sq_g (x := .d (di a0.Base)) rfl rfl rfl (lq rfl) (lq rfl) rfl (fun hb => by obtain rfl := gF hb; exact a_load_ip (lq rfl) O3 rfl rfl) ?_
        refine sq_g (x := .d (db (decide (a0.Base ≤ t45.Hi)))) rfl rfl rfl (lq rfl) (lq rfl) rfl (fun hb => by obtain rfl := gF hb; exact a_geq (lq rfl) rfl rfl) ?_
        refine sqa (a_pick_or (lq rfl) rfl rfl) ?_
        refine sq_nil ?_
        refine avc_if rfl ⟨fun c6 => ?_, fun c6 => ?_⟩
        ·
         replace hsy3' := cT c6 hsy3'
         refine avc_sq2 <| avc_sq ?_
         refine sqa (a_assign_d (lq rfl) rfl) ?_
         refine sq_nil ?_
         refine avc_ret ?_
         cases hsy3'
         intro q; cases q
        ·
         replace hsy3' := cF c6 hsy3'
         refine avc_skip <| avc_sq ?_
         refine sqa (m_add (lq rfl) rfl rfl) ?_
         refine sqa (a_move_d (lq rfl) rfl) ?_
         refine sq_nil ?_
         cases hsy3'
         exact weak_cov ⟨rfl, rfl, rfl, rfl, trivial⟩ trivial
       ·
        replace hsy3 := cF c5 hsy3
        refine avc_exit ?_
        cases hsy3
        intro q; cases q
        exact out_mk (weak_cov ⟨rfl, trivial⟩ trivial)
      ·
       refine avc_sq2 <| avc_sq2 <| avc_sq ?_
       refine sqa (m_fieldPt (lq rfl) L25_1 rfl) ?_
       refine sqa (a_load_ip (lq rfl) O23 rfl rfl) ?_
       refine sqa (m_len (en := eGroup) (l := a0.Groups) (lq rfl) S23 rfl) ?_
       refine sqa (a_move_d (lq rfl) rfl) ?_
       refine sq_nil <| avc_block ?_
       obtain ⟨y4, hy4, h⟩ := bE h'; clear h'
       rcases y4 with y4 | y4
       ·
        replace h := eL h
        refine avc_tail (e := .exit 6) (S2 := ⟨[], []⟩) ?_ ?_
        ·
         refine avc_loopM (fun x => ⟨[(1, .d (.pt (eCollation.cells a0))), (66, .d (dsl eGroup a0.Groups)), (67, .d (di (a0.Groups.length : Int))), (68, .d (di x))], []⟩) hy4 (weak_cov ⟨rfl, rfl, rfl, rfl, trivial⟩ trivial) ?_
         rintro v68 sy4 hsy4
         replace hsy4 : colltable_checkGroups_L3 a0 v68 = some sy4 := hsy4
         unfold colltable_checkGroups_L3 at hsy4
         refine avc_sq2 <| avc_sq ?_
         refine sqa (a_lss (lq rfl) rfl rfl) ?_
         refine sq_nil <| avc_sq2 ?_
         refine avc_if rfl ⟨fun c7 => ?_, fun c7 => ?_⟩
         ·
          replace hsy4 := cT c7 hsy4
          refine avc_skip <| avc_sq2 <| avc_block <| avc_sq2 <| avc_sq ?_
          refine sqa (a_move_d (lq rfl) rfl) ?_
          obtain ⟨t71, ht71, hsy4'⟩ := bE hsy4; clear hsy4
          refine sqa (m_index (en := eGroup) (lq rfl) S23 rfl rfl ht71) ?_
          refine sqa (m_loadEA (en := eGroup) (l := a0.Groups) (i := v68) (v := t71) (off := 0) (lq rfl) G80 rfl ht71 rfl rfl (by decide)) ?_
          refine sq_b rfl (step_alloc (zs := [(.string ⟨#[]⟩), (.int IntKind.i64 (0)), (.int IntKind.i64 (0))]) (lq rfl) (by kernel_rfl) rfl rfl) ?_
          refine sqa (a_assign_d (lq rfl) rfl) ?_
          refine sq_b rfl (s_store_boxA G80 rfl rfl rfl rfl rfl rfl) ?_
          refine sq_nil ?_
          refine avc_weak (weak_freeze (t := 11) (lq rfl) rfl rfl rfl) ?_
          refine avc_sq2 ?_
          refine avc_drawA MX rfl ?_
          refine daa (a_move_d (lq rfl) rfl) ?_
          refine daa (a_gtr (lq rfl) rfl rfl) ?_
          obtain ⟨b75, hb75, hsy4⟩ := bE hsy4'; clear hsy4'
          refine daa ((a_move_d (lq rfl) rfl).bool (Option.some.inj hb75)) ?_
          refine da_g (x := .ip (eGroup.cells t71) (0 + 1)) rfl rfl rfl (lq rfl) (lq rfl) rfl (fun hb => by obtain rfl : b75 = true := hb; exact m_fieldPt (lq rfl) L80_1 rfl) ?_
          refine da_g (x := .d (di t71.Lo)) rfl rfl rfl (lq rfl) (lq rfl) rfl (fun hb => by obtain rfl : b75 = true := hb; exact a_load_ip (lq rfl) O3 rfl rfl) ?_
          refine da_g (x := .ip (eCollation.cells a0) (0 + 1)) rfl rfl rfl (lq rfl) (lq rfl) rfl (fun hb => by obtain rfl : b75 = true := hb; exact m_fieldPt (lq rfl) L25_1 rfl) ?_
          refine da_g (x := .d (dsl eGroup a0.Groups)) rfl rfl rfl (lq rfl) (lq rfl) rfl (fun hb => by obtain rfl : b75 = true := hb; exact a_load_ip (lq rfl) O23 rfl rfl) ?_
          refine da_g (x := .d (di v68)) rfl rfl rfl (lq rfl) (lq rfl) rfl (fun hb => by obtain rfl : b75 = true := hb; exact a_move_d (lq rfl) rfl) ?_
          refine da_g (x := .d (di (wi (v68 - 1)))) rfl rfl rfl (lq rfl) (lq rfl) rfl (fun hb => by obtain rfl : b75 = true := hb; exact m_sub (lq rfl) rfl rfl) ?_
          obtain ⟨t82, ht82, hsy4'⟩ := bE hsy4; clear hsy4
          refine da_g (x := .ip (eGroup.all a0.Groups) ((wi (v68 - 1)).toNat * eGroup.size)) rfl rfl rfl (lq rfl) (lq rfl) rfl (fun hb => by obtain rfl : b75 = true := hb; exact m_index (en := eGroup) (lq rfl) S23 rfl rfl ht82) ?_
          refine da_g (x := .ip (eGroup.all a0.Groups) ((wi (v68 - 1)).toNat * eGroup.size + 2)) rfl rfl rfl (lq rfl) (lq rfl) rfl (fun hb => by obtain rfl : b75 = true := hb; exact a_fieldAddr_ip (lq rfl) L80_2 rfl) ?_
          refine da_g (x := .d (di t82.Hi)) rfl rfl rfl (lq rfl) (lq rfl) rfl (fun hb => by obtain rfl : b75 = true := hb; exact m_loadE (en := eGroup) (l := a0.Groups) (i := (wi (v68 - 1))) (v := t82) (off := 2) (lq rfl) O3 rfl ht82 rfl) ?_
          refine da_g (x := .d (di (wi (t82.Hi + 1)))) rfl rfl rfl (lq rfl) (lq rfl) rfl (fun hb => by obtain rfl : b75 = true := hb; exact m_add (lq rfl) rfl rfl) ?_
          refine da_g (x := .d (db (!decide (t71.Lo = (wi (t82.Hi + 1)))))) rfl rfl rfl (lq rfl) (lq rfl) rfl (fun hb => by obtain rfl : b75 = true := hb; exact a_neq (lq rfl) rfl rfl) ?_
          refine daa (a_pick_and (lq rfl) rfl rfl) ?_
          refine da_nil ?_
          refine avc_if rfl ⟨fun c8 => ?_, fun c8 => ?_⟩
          ·
           replace hsy4' := cT c8 hsy4'
           refine avc_sq2 <| avc_sq ?_
           refine sqa (a_assign_d (lq rfl) rfl) ?_
           refine sq_nil ?_
           refine avc_ret ?_
           cases hsy4'
           intro q; cases q
          ·
           replace hsy4' := cF c8 hsy4'
           refine avc_skip <| avc_sq ?_
           refine sqa (m_add (lq rfl) rfl rfl) ?_
           refine sqa (a_move_d (lq rfl) rfl) ?_
           refine sq_nil ?_
           cases hsy4'
           exact weak_cov ⟨rfl, rfl, rfl, rfl, trivial⟩ trivial
         ·
          replace hsy4 := cF c7 hsy4
          refine avc_exit ?_
          cases hsy4
          intro q; cases q
          exact out_mk (weak_cov trivial trivial)
        ·
         refine avc_sq2 <| avc_sq ?_
         refine sqa (a_assign_d (lq rfl) rfl) ?_
         refine sq_nil ?_
         cases h
         refine avc_ret ?_
         exact ret_1 rfl
       ·
        replace h := eR h
        refine avc_tail (e := .ret) (S2 := ⟨[(2, .d (di y4))], []⟩) ?_ ?_
        ·
         refine avc_loopM (fun x => ⟨[(1, .d (.pt (eCollation.cells a0))), (66, .d (dsl eGroup a0.Groups)), (67, .d (di (a0.Groups.length : Int))), (68, .d (di x))], []⟩) hy4 (weak_cov ⟨rfl, rfl, rfl, rfl, trivial⟩ trivial) ?_
         rintro v68 sy4 hsy4
         replace hsy4 : colltable_checkGroups_L3 a0 v68 = some sy4 := hsy4
         unfold colltable_checkGroups_L3 at hsy4
         refine avc_sq2 <| avc_sq ?_
         refine sqa (a_lss (lq rfl) rfl rfl) ?_
         refine sq_nil <| avc_sq2 ?_
         refine avc_if rfl ⟨fun c7 => ?_, fun c7 => ?_⟩
         ·
          replace hsy4 := cT c7 hsy4
          refine avc_skip <| avc_sq2 <| avc_block <| avc_sq2 <| avc_sq ?_
          refine sqa (a_move_d (lq rfl) rfl) ?_
          obtain ⟨t71, ht71, hsy4'⟩ := bE hsy4; clear hsy4
          refine sqa (m_index (en := eGroup) (lq rfl) S23 rfl rfl ht71) ?_
          refine sqa (m_loadEA (en := eGroup) (l := a0.Groups) (i := v68) (v := t71) (off := 0) (lq rfl) G80 rfl ht71 rfl rfl (by decide)) ?_
          refine sq_b rfl (step_alloc (zs := [(.string ⟨#[]⟩), (.int IntKind.i64 (0)), (.int IntKind.i64 (0))]) (lq rfl) (by kernel_rfl) rfl rfl) ?_
          refine sqa (a_assign_d (lq rfl) rfl) ?_
          refine sq_b rfl (s_store_boxA G80 rfl rfl rfl rfl rfl rfl) ?_
          refine sq_nil ?_
          refine avc_weak (weak_freeze (t := 11) (lq rfl) rfl rfl rfl) ?_
          refine avc_sq2 ?_
          refine avc_drawA MX rfl ?_
          refine daa (a_move_d (lq rfl) rfl) ?_
          refine daa (a_gtr (lq rfl) rfl rfl) ?_
          obtain ⟨b75, hb75, hsy4⟩ := bE hsy4'; clear hsy4'
          refine daa ((a_move_d (lq rfl) rfl).bool (Option.some.inj hb75)) ?_
          refine da_g (x := .ip (eGroup.cells t71) (0 + 1)) rfl rfl rfl (lq rfl) (lq rfl) rfl (fun hb => by obtain rfl : b75 = true := hb; exact m_fieldPt (lq rfl) L80_1 rfl) ?_
          refine da_g (x := .d (di t71.Lo)) rfl rfl rfl (lq rfl) (lq rfl) rfl (fun hb => by obtain rfl : b75 = true := hb; exact a_load_ip (lq rfl) O3 rfl rfl) ?_
          refine da_g (x := .ip (eCollation.cells a0) (0 + 1)) rfl rfl rfl (lq rfl) (lq rfl) rfl (fun hb => by obtain rfl : b75 = true := hb; exact m_fieldPt (lq rfl) L25_1 rfl) ?_
          refine da_g (x := .d (dsl eGroup a0.Groups)) rfl rfl rfl (lq rfl) (lq rfl) rfl (fun hb => by obtain rfl : b75 = true := hb; exact a_load_ip (lq rfl) O23 rfl rfl) ?_
          refine da_g (x := .d (di v68)) rfl rfl rfl (lq rfl) (lq rfl) rfl (fun hb => by obtain rfl : b75 = true := hb; exact a_move_d (lq rfl) rfl) ?_
          refine da_g (x := .d (di (wi (v68 - 1)))) rfl rfl rfl (lq rfl) (lq rfl) rfl (fun hb => by obtain rfl : b75 = true := hb; exact m_sub (lq rfl) rfl rfl) ?_
          obtain ⟨t82, ht82, hsy4'⟩ := bE hsy4; clear hsy4
          refine da_g (x := .ip (eGroup.all a0.Groups) ((wi (v68 - 1)).toNat * eGroup.size)) rfl rfl rfl (lq rfl) (lq rfl) rfl (fun hb => by obtain rfl : b75 = true := hb; exact m_index (en := eGroup) (lq rfl) S23 rfl rfl ht82) ?_
          refine da_g (x := .ip (eGroup.all a0.Groups) ((wi (v68 - 1)).toNat * eGroup.size + 2)) rfl rfl rfl (lq rfl) (lq rfl) rfl (fun hb => by obtain rfl : b75 = true := hb; exact a_fieldAddr_ip (lq rfl) L80_2 rfl) ?_
          refine da_g (x := .d (di t82.Hi)) rfl rfl rfl (lq rfl) (lq rfl) rfl (fun hb => by obtain rfl : b75 = true := hb; exact m_loadE (en := eGroup) (l := a0.Groups) (i := (wi (v68 - 1))) (v := t82) (off := 2) (lq rfl) O3 rfl ht82 rfl) ?_
          refine da_g (x := .d (di (wi (t82.Hi + 1)))) rfl rfl rfl (lq rfl) (lq rfl) rfl (fun hb => by obtain rfl : b75 = true := hb; exact m_add (lq rfl) rfl rfl) ?_
          refine da_g (x := .d (db (!decide (t71.Lo = (wi (t82.Hi + 1)))))) rfl rfl rfl (lq rfl) (lq rfl) rfl (fun hb => by obtain rfl : b75 = true := hb; exact a_neq (lq rfl) rfl rfl) ?_
          refine daa (a_pick_and (lq rfl) rfl rfl) ?_
          refine da_nil ?_
          refine avc_if rfl ⟨fun c8 => ?_, fun c8 => ?_⟩
          ·
           replace hsy4' := cT c8 hsy4'
           refine avc_sq2 <| avc_sq ?_
           refine sqa (a_assign_d (lq rfl) rfl) ?_
           refine sq_nil ?_
           refine avc_ret ?_
           cases hsy4'
           intro q; cases q
           exact out_mk (weak_cov ⟨rfl, trivial⟩ trivial)
          ·
           replace hsy4' := cF c8 hsy4'
           refine avc_skip <| avc_sq ?_
           refine sqa (m_add (lq rfl) rfl rfl) ?_
           refine sqa (a_move_d (lq rfl) rfl) ?_
           refine sq_nil ?_
           cases hsy4'
           exact weak_cov ⟨rfl, rfl, rfl, rfl, trivial⟩ trivial
         ·
          replace hsy4 := cF c7 hsy4
          refine avc_exit ?_
          cases hsy4
          intro q; cases q
        ·
         cases h
         exact ret_1 rfl
     ·
      replace h' := eR h'
      refine avc_tail (e := .ret) (S2 := ⟨[(2, .d (di y3))], []⟩) ?_ ?_
      ·
       refine avc_loopM (fun x => ⟨[(1, .d (.pt (eCollation.cells a0))), (41, .d (dsl eGroup a0.Groups)), (42, .d (di (a0.Groups.length : Int))), (43, .d (di x))], []⟩) hy3 (weak_cov ⟨rfl, rfl, rfl, rfl, trivial⟩ trivial) ?_
       rintro v43 sy3 hsy3
       replace hsy3 : colltable_checkGroups_L2 a0 v43 = some sy3 := hsy3
       unfold colltable_checkGroups_L2 at hsy3
       refine avc_sq2 <| avc_sq ?_
       refine sqa (a_lss (lq rfl) rfl rfl) ?_
       refine sq_nil <| avc_sq2 ?_
       refine avc_if rfl ⟨fun c5 => ?_, fun c5 => ?_⟩
       ·
        replace hsy3 := cT c5 hsy3
        refine avc_skip <| avc_sq2 <| avc_block <| avc_sq2 <| avc_sq ?_
        obtain ⟨t45, ht45, hsy3'⟩ := bE hsy3; clear hsy3
        refine sqa (m_index (en := eGroup) (lq rfl) S23 rfl rfl ht45) ?_
        refine sqa (m_loadEA (en := eGroup) (l := a0.Groups) (i := v43) (v := t45) (off := 0) (lq rfl) G80 rfl ht45 rfl rfl (by decide)) ?_
        refine sq_b rfl (step_alloc (zs := [(.string ⟨#[]⟩), (.int IntKind.i64 (0)), (.int IntKind.i64 (0))]) (lq rfl) (by kernel_rfl) rfl rfl) ?_
        refine sq_b rfl (s_store_boxA G80 rfl rfl rfl rfl rfl rfl) ?_
        refine sq_nil ?_
        refine avc_weak (weak_freeze (t := 9) (lq rfl) rfl rfl rfl) ?_
        refine avc_sq2 <| avc_sq ?_
        refine sqa (m_fieldPt (lq rfl) L80_1 rfl) ?_
        refine sqa (a_load_ip (lq rfl) O3 rfl rfl) ?_
        refine sqa (a_lss (lq rfl) rfl rfl) ?_
        obtain ⟨b50, hb50, hsy3⟩ := bE hsy3'; clear hsy3'
        refine sqa ((a_move_d (lq rfl) rfl).bool (Option.some.inj hb50)) ?_
        refine sq_g (x := .ip (eGroup.cells t45) (0 + 2)) rfl rfl rfl (lq rfl) (lq rfl) rfl (fun hb => by obtain rfl := gF hb; exact m_fieldPt (lq rfl) L80_2 rfl) ?_
        refine sq_g (x := .d (di t45.Hi)) rfl rfl rfl (lq rfl) (lq rfl) rfl (fun hb => by obtain rfl := gF hb; exact a_load_ip (lq rfl) O3 rfl rfl) ?_
        refine sq_g (x := .ip (eGroup.cells t45) (0 + 1)) rfl rfl rfl (lq rfl) (lq rfl) rfl (fun hb => by obtain rfl := gF hb; exact m_fieldPt (lq rfl) L80_1 rfl) ?_
        refine sq_g (x := .d (di t45.Lo)) rfl rfl rfl (lq rfl) (lq rfl) rfl (fun hb => by obtain rfl := gF hb; exact a_load_ip (lq rfl) O3 rfl rfl) ?_
        refine sq_g (x := .d (db (decide (t45.Hi < t45.Lo)))) rfl rfl rfl (lq rfl) (lq rfl) rfl (fun hb => by obtain rfl := gF hb; exact a_lss (lq rfl) rfl rfl) ?_
        refine sqa (a_pick_or (lq rfl) rfl rfl) ?_
        obtain ⟨b57, hb57, hsy3'⟩ := bE hsy3; clear hsy3
        refine sqa ((a_move_d (lq rfl) rfl).bool (Option.some.inj hb57)) ?_
        refine sq_g (x := .ip (eGroup.cells t45) (0 + 2)) rfl rfl rfl (lq rfl) (lq rfl) rfl (fun hb => by obtain rfl := gF hb; exact m_fieldPt (lq rfl) L80_2 rfl) ?_
        refine sq_g (x := .d (di t45.Hi)) rfl rfl rfl (lq rfl) (lq rfl) rfl (fun hb => by obtain rfl := gF hb; exact a_load_ip (lq rfl) O3 rfl rfl) ?_
        refine sq_g (x := .ip (eCollation.cells a0) (0 + 2)) rfl rfl rfl (lq rfl) (lq rfl) rfl (fun hb => by obtain rfl := gF hb; exact m_fieldPt (lq rfl) L25_2 rfl) ?_
        refine sq_g (x := .d (di a0.Base)) rfl rfl rfl (lq rfl) (lq rfl) rfl (fun hb => by obtain rfl := gF hb; exact a_load_ip (lq rfl) O3 rfl rfl) ?_
        refine sq_g (x := .d (db (decide (a0.Base ≤ t45.Hi)))) rfl rfl rfl (lq rfl) (lq rfl) rfl (fun hb => by obtain rfl := gF hb; exact a_geq (lq rfl) rfl rfl) ?_
        refine sqa (a_pick_or (lq rfl) rfl rfl) ?_
        refine sq_nil ?_
        refine avc_if rfl ⟨fun c6 => ?_, fun c6 => ?_⟩
        ·
         replace hsy3' := cT c6 hsy3'
         refine avc_sq2 <| avc_sq ?_
         refine sqa (a_assign_d (lq rfl) rfl) ?_
         refine sq_nil ?_
         refine avc_ret ?_
         cases hsy3'
         intro q; cases q
         exact out_mk (weak_cov ⟨rfl, trivial⟩ trivial)
        ·
         replace hsy3' := cF c6 hsy3'
         refine avc_skip <| avc_sq ?_
         refine sqa (m_add (lq rfl) rfl rfl) ?_
         refine sqa (a_move_d (lq rfl) rfl) ?_
         refine sq_nil ?_
         cases hsy3'
         exact weak_cov ⟨rfl, rfl, rfl, rfl, trivial⟩ trivial
       ·
        replace hsy3 := cF c5 hsy3
        refine avc_exit ?_
        cases hsy3
        intro q; cases q
      ·
       cases h'
       exact ret_1 rfl
   ·
    replace h := eR h
    refine avc_tail (e := .ret) (S2 := ⟨[(2, .d (di y2))], []⟩) ?_ ?_
    ·
     refine avc_loopM (fun x => ⟨[(1, .d (.pt (eCollation.cells a0))), (5, .row 24), (26, .d (dsl eGroup a0.Groups)), (27, .d (di (a0.Groups.length : Int))), (28, .d (di x.1))], [(24, .map (mapE kS eB x.2))]⟩) hy2 (weak_cov ⟨rfl, rfl, rfl, rfl, rfl, trivial⟩ ⟨rfl, trivial⟩) ?_
     rintro ⟨v28, r24⟩ sy2 hsy2
     replace hsy2 : colltable_checkGroups_L1 a0 v28 r24 = some sy2 := hsy2
     unfold colltable_checkGroups_L1 at hsy2
     refine avc_sq2 <| avc_sq ?_
     refine sqa (a_lss (lq rfl) rfl rfl) ?_
     refine sq_nil <| avc_sq2 ?_
     refine avc_if rfl ⟨fun c3 => ?_, fun c3 => ?_⟩
     ·
      replace hsy2 := cT c3 hsy2
      refine avc_skip <| avc_sq2 <| avc_block <| avc_sq2 <| avc_sq ?_
      obtain ⟨t30, ht30, hsy2'⟩ := bE hsy2; clear hsy2
      refine sqa (m_index (en := eGroup) (lq rfl) S23 rfl rfl ht30) ?_
      refine sqa (m_loadEA (en := eGroup) (l := a0.Groups) (i := v28) (v := t30) (off := 0) (lq rfl) G80 rfl ht30 rfl rfl (by decide)) ?_
      refine sq_b rfl (step_alloc (zs := [(.string ⟨#[]⟩), (.int IntKind.i64 (0)), (.int IntKind.i64 (0))]) (lq rfl) (by kernel_rfl) rfl rfl) ?_
      refine sq_b rfl (s_store_boxA G80 rfl rfl rfl rfl rfl rfl) ?_
      refine sq_nil ?_
      refine avc_weak (weak_freeze (t := 7) (lq rfl) rfl rfl rfl) ?_
      refine avc_sq2 <| avc_sq2 <| avc_sq ?_
      refine sqa (a_move_row (lq rfl) rfl) ?_
      refine sqa (m_fieldPt (lq rfl) L80_0 rfl) ?_
      refine sqa (a_load_ip (lq rfl) O9 rfl rfl) ?_
      refine sqa (m_lookup (kv := kS) (ev := eB) (mp := r24) (k := t30.Name) (zero := false) (lq rfl) M82 K9 rfl rfl rfl (fun _ _ => .v _)) ?_
      refine sq_nil ?_
      refine avc_if rfl ⟨fun c4 => ?_, fun c4 => ?_⟩
      ·
       replace hsy2' := cT c4 hsy2'
       refine avc_sq2 <| avc_sq ?_
       refine sqa (a_assign_d (lq rfl) rfl) ?_
       refine sq_nil ?_
       refine avc_ret ?_
       cases hsy2'
       intro q; cases q
       exact out_mk (weak_cov ⟨rfl, trivial⟩ trivial)
      ·
       replace hsy2' := cF c4 hsy2'
       refine avc_skip <| avc_sq ?_
       refine sqa (a_move_row (lq rfl) rfl) ?_
       refine sqa (m_fieldPt (lq rfl) L80_0 rfl) ?_
       refine sqa (a_load_ip (lq rfl) O9 rfl rfl) ?_
       refine sq_b rfl (m_mapUpdate (kv := kS) (ev := eB) (mp := r24) (k := t30.Name) (v := true) M82 K9 rfl rfl rfl rfl rfl rfl) ?_
       refine sq_nil <| avc_sq ?_
       refine sqa (m_add (lq rfl) rfl rfl) ?_
       refine sqa (a_move_d (lq rfl) rfl) ?_
       refine sq_nil ?_
       cases hsy2'
       exact weak_cov ⟨rfl, rfl, rfl, rfl, rfl, trivial⟩ ⟨rfl, trivial⟩
     ·
      replace hsy2 := cF c3 hsy2
      refine avc_exit ?_
      cases hsy2
      intro q; cases q
    ·
     cases h
     exact ret_1 rfl
 ·
  replace h' := eR h'
  refine avc_tail (e := .ret) (S2 := ⟨[(2, .d (di y1))], []⟩) ?_ ?_
  ·
   refine avc_loopM (fun x => ⟨[(1, .d (.pt (eCollation.cells a0))), (13, .d (dsl eGroup a0.Groups)), (14, .d (di (a0.Groups.length : Int))), (15, .d (di x))], []⟩) hy1 (weak_cov ⟨rfl, rfl, rfl, rfl, trivial⟩ trivial) ?_
   rintro v15 sy1 hsy1
   replace hsy1 : colltable_checkGroups_L0 a0 v15 = some sy1 := hsy1
   unfold colltable_checkGroups_L0 at hsy1
   refine avc_sq2 <| avc_sq ?_
   refine sqa (a_lss (lq rfl) rfl rfl) ?_
   refine sq_nil <| avc_sq2 ?_
   refine avc_if rfl ⟨fun c1 => ?_, fun c1 => ?_⟩
   ·
    replace hsy1 := cT c1 hsy1
    refine avc_skip <| avc_sq2 <| avc_block <| avc_sq2 <| avc_sq ?_
    obtain ⟨t17, ht17, hsy1'⟩ := bE hsy1; clear hsy1
    refine sqa (m_index (en := eGroup) (lq rfl) S23 rfl rfl ht17) ?_
    refine sqa (m_loadEA (en := eGroup) (l := a0.Groups) (i := v15) (v := t17) (off := 0) (lq rfl) G80 rfl ht17 rfl rfl (by decide)) ?_
    refine sq_b rfl (step_alloc (zs := [(.string ⟨#[]⟩), (.int IntKind.i64 (0)), (.int IntKind.i64 (0))]) (lq rfl) (by kernel_rfl) rfl rfl) ?_
    refine sq_b rfl (s_store_boxA G80 rfl rfl rfl rfl rfl rfl) ?_
    refine sq_nil ?_
    refine avc_weak (weak_freeze (t := 4) (lq rfl) rfl rfl rfl) ?_
    refine avc_sq2 <| avc_sq ?_
    refine sqa (m_fieldPt (lq rfl) L80_0 rfl) ?_
    refine sqa (a_load_ip (lq rfl) O9 rfl rfl) ?_
    obtain ⟨t21, ht21, hsy1⟩ := bE hsy1'; clear hsy1'
    refine sqa (a_call (lq rfl) rfl (colltable_isName_c ht21)) ?_
    refine sqa (a_not (lq rfl) rfl) ?_
    refine sq_nil ?_
    refine avc_if rfl ⟨fun c2 => ?_, fun c2 => ?_⟩
    ·
     replace hsy1 := cT c2 hsy1
     refine avc_sq2 <| avc_sq ?_
     refine sqa (a_assign_d (lq rfl) rfl) ?_
     refine sq_nil ?_
     refine avc_ret ?_
     cases hsy1
     intro q; cases q
     exact out_mk (weak_cov ⟨rfl, trivial⟩ trivial)
    ·
     replace hsy1 := cF c2 hsy1
     refine avc_skip <| avc_sq ?_
     refine sqa (m_add (lq rfl) rfl rfl) ?_
     refine sqa (a_move_d (lq rfl) rfl) ?_
     refine sq_nil ?_
     cases hsy1
     exact weak_cov ⟨rfl, rfl, rfl, rfl, trivial⟩ trivial
   ·
    replace hsy1 := cF c1 hsy1
    refine avc_exit ?_
    cases hsy1
    intro q; cases q
  ·
   cases h'
   exact ret_1 rfl

theorem codepoint_Valid_c  {a0 : Int}  {r : Bool} (h : codepoint_Valid a0 = some r) : Contract Tryd.prog 46 [(di a0)] [(db r)] := by
 refine contract_of Tryd.func46 (by kernel_rfl) rfl (lq rfl) (lq rfl) fun w0 I0 hI0 hG0 => ?_
 unfold codepoint_Valid at h
 refine avc_sq2 <| avc_sq ?_
 refine sqa (a_assign_d (lq rfl) rfl) ?_
 refine sq_nil <| avc_sq2 <| avc_sq ?_
 refine sqa (a_move_d (lq rfl) rfl) ?_
 refine sqa (a_geq (lq rfl) rfl rfl) ?_
 obtain ⟨b5, hb5, h'⟩ := bE h; clear h
 refine sqa ((a_move_d (lq rfl) rfl).bool (Option.some.inj hb5)) ?_
 refine sq_g (x := .d (di a0)) rfl rfl rfl (lq rfl) (lq rfl) rfl (fun hb => by obtain rfl : b5 = true := hb; exact a_move_d (lq rfl) rfl) ?_
 refine sq_g (x := .d (db (decide (a0 ≤ 1114111)))) rfl rfl rfl (lq rfl) (lq rfl) rfl (fun hb => by obtain rfl : b5 = true := hb; exact a_leq (lq rfl) rfl rfl) ?_
 refine sqa (a_pick_and (lq rfl) rfl rfl) ?_
 refine sqa (a_assign_d (lq rfl) rfl) ?_
 refine sq_nil ?_
 cases h'
 refine avc_ret ?_
 exact ret_1 rfl

theorem element_Check_c  {a0 : Element}  {r : Int} (h : element_Check a0 = some r) : Contract Tryd.prog 47 [(eElement.dv a0)] [(di r)] := by
 refine contract_of Tryd.func47 (by kernel_rfl) rfl (lq rfl) (lq rfl) fun w0 I0 hI0 hG0 => ?_
 unfold element_Check at h
 refine avc_sq2 <| avc_sq ?_
 refine sqa (m_box (size := 4) (lq rfl) rfl rfl) ?_
 refine sqa (a_assign_d (lq rfl) rfl) ?_
 refine sq_nil <| avc_sq2 <| avc_sq2 <| avc_sq ?_
 refine sqa (m_fieldPt (lq rfl) L63_0 rfl) ?_
 refine sqa (a_load_ip (lq rfl) O3 rfl rfl) ?_
 refine sqa (m_fieldPt (lq rfl) L63_1 rfl) ?_
 refine sqa (a_load_ip (lq rfl) O3 rfl rfl) ?_
 refine sqa (m_fieldPt (lq rfl) L63_2 rfl) ?_
 refine sqa (a_load_ip (lq rfl) O3 rfl rfl) ?_
 refine sqa (m_abuild (lq rfl) A107 rfl rfl) ?_
 refine sqa (a_move_d (lq rfl) rfl) ?_
 refine sq_nil <| avc_block ?_
 obtain ⟨y1, hy1, h'⟩ := bE h; clear h
 rcases y1 with y1 | y1
 ·
  replace h' := eL h'
  refine avc_tail (e := .exit 0) (S2 := ⟨[(1, .d (.pt (eElement.cells a0)))], []⟩) ?_ ?_
  ·
   refine avc_loopM (fun x => ⟨[(1, .d (.pt (eElement.cells a0))), (11, .d (eA3Int.dv ({ x0 := a0.Primary, x1 := a0.Secondary, x2 := a0.Tertiary } : A3Int))), (12, .d (di x))], []⟩) hy1 (weak_cov ⟨rfl, rfl, rfl, trivial⟩ trivial) ?_
   rintro v12 sy1 hsy1
   replace hsy1 : element_Check_L0 a0 v12 = some sy1 := hsy1
   unfold element_Check_L0 at hsy1
   refine avc_sq2 <| avc_sq ?_
   refine sqa (a_lss (lq rfl) rfl rfl) ?_
   refine sq_nil <| avc_sq2 ?_
   refine avc_if rfl ⟨fun c1 => ?_, fun c1 => ?_⟩
   ·
    replace hsy1 := cT c1 hsy1
    refine avc_skip <| avc_sq2 <| avc_block <| avc_sq2 <| avc_sq ?_
    obtain ⟨t14, ht14, hsy1'⟩ := bE hsy1; clear hsy1
    refine sqa (m_aindex (en := eI) (l := [({ x0 := a0.Primary, x1 := a0.Secondary, x2 := a0.Tertiary } : A3Int).x0, ({ x0 := a0.Primary, x1 := a0.Secondary, x2 := a0.Tertiary } : A3Int).x1, ({ x0 := a0.Primary, x1 := a0.Secondary, x2 := a0.Tertiary } : A3Int).x2]) (lq rfl) A107 O3 (fun _ => rfl) rfl rfl rfl ht14) ?_
    refine sqa (a_assign_d (lq rfl) rfl) ?_
    refine sq_nil <| avc_sq2 <| avc_sq ?_
    refine sqa (a_move_d (lq rfl) rfl) ?_
    refine sqa (a_lss (lq rfl) rfl rfl) ?_
    obtain ⟨b17, hb17, hsy1⟩ := bE hsy1'; clear hsy1'
    refine sqa ((a_move_d (lq rfl) rfl).bool (Option.some.inj hb17)) ?_
    refine sq_g (x := .d (di t14)) rfl rfl rfl (lq rfl) (lq rfl) rfl (fun hb => by obtain rfl := gF hb; exact a_move_d (lq rfl) rfl) ?_
    refine sq_g (x := .d (db (decide (65535 < t14)))) rfl rfl rfl (lq rfl) (lq rfl) rfl (fun hb => by obtain rfl := gF hb; exact a_gtr (lq rfl) rfl rfl) ?_
    refine sqa (a_pick_or (lq rfl) rfl rfl) ?_
    refine sq_nil ?_
    refine avc_if rfl ⟨fun c2 => ?_, fun c2 => ?_⟩
    ·
     replace hsy1 := cT c2 hsy1
     refine avc_sq2 <| avc_sq ?_
     refine sqa (a_assign_d (lq rfl) rfl) ?_
     refine sq_nil ?_
     refine avc_ret ?_
     cases hsy1
     intro q; cases q
    ·
     replace hsy1 := cF c2 hsy1
     refine avc_skip <| avc_sq ?_
     refine sqa (m_add (lq rfl) rfl rfl) ?_
     refine sqa (a_move_d (lq rfl) rfl) ?_
     refine sq_nil ?_
     cases hsy1
     exact weak_cov ⟨rfl, rfl, rfl, trivial⟩ trivial
   ·
    replace hsy1 := cF c1 hsy1
    refine avc_exit ?_
    cases hsy1
    intro q; cases q
    exact out_mk (weak_cov ⟨rfl, trivial⟩ trivial)
  ·
   refine avc_sq2 <| avc_block <| avc_sq2 <| avc_sq ?_
   refine sqa (m_fieldPt (lq rfl) L63_0 rfl) ?_
   refine sqa (a_load_ip (lq rfl) O3 rfl rfl) ?_
   refine sqa (a_neq (lq rfl) rfl rfl) ?_
   obtain ⟨b26, hb26, h⟩ := bE h'; clear h'
   refine sqa ((a_move_d (lq rfl) rfl).bool (Option.some.inj hb26)) ?_
   refine sq_g (x := .ip (eElement.cells a0) (0 + 1)) rfl rfl rfl (lq rfl) (lq rfl) rfl (fun hb => by obtain rfl : b26 = true := hb; exact m_fieldPt (lq rfl) L63_1 rfl) ?_
   refine sq_g (x := .d (di a0.Secondary)) rfl rfl rfl (lq rfl) (lq rfl) rfl (fun hb => by obtain rfl : b26 = true := hb; exact a_load_ip (lq rfl) O3 rfl rfl) ?_
   refine sq_g (x := .d (db (decide (a0.Secondary = 0)))) rfl rfl rfl (lq rfl) (lq rfl) rfl (fun hb => by obtain rfl : b26 = true := hb; exact a_eql (lq rfl) rfl rfl) ?_
   obtain ⟨b30, hb30, h'⟩ := bE h; clear h
   refine sq_g (x := .d (db b30)) rfl rfl rfl (lq rfl) (lq rfl) rfl (fun hb => by obtain rfl : b26 = true := hb; exact (a_move_d (lq rfl) rfl).bool (Option.some.inj hb30)) ?_
   refine sq_g2 (x := .ip (eElement.cells a0) (0 + 2)) rfl rfl rfl (lq rfl) (lq rfl) rfl (fun hb => by obtain ⟨hb, hb1⟩ := and_split hb; obtain rfl : b26 = true := hb; obtain rfl := gF hb1; exact m_fieldPt (lq rfl) L63_2 rfl) ?_
   refine sq_g2 (x := .d (di a0.Tertiary)) rfl rfl rfl (lq rfl) (lq rfl) rfl (fun hb => by obtain ⟨hb, hb1⟩ := and_split hb; obtain rfl : b26 = true := hb; obtain rfl := gF hb1; exact a_load_ip (lq rfl) O3 rfl rfl) ?_
   refine sq_g2 (x := .d (db (decide (a0.Tertiary = 0)))) rfl rfl rfl (lq rfl) (lq rfl) rfl (fun hb => by obtain ⟨hb, hb1⟩ := and_split hb; obtain rfl : b26 = true := hb; obtain rfl := gF hb1; exact a_eql (lq rfl) rfl rfl) ?_
   refine sq_g (x := .d (db (b30 || (decide (a0.Tertiary = 0))))) rfl rfl rfl (lq rfl) (lq rfl) rfl (fun hb => by obtain rfl : b26 = true := hb; exact a_pick_or (lq rfl) rfl rfl) ?_
   refine sqa (a_pick_and (lq rfl) rfl rfl) ?_
   refine sqa (a_assign_d (lq rfl) rfl) ?_
   refine sq_nil ?_
   refine avc_if rfl ⟨fun c3 => ?_, fun c3 => ?_⟩
   ·
    replace h' := cT c3 h'
    refine avc_sq2 <| avc_sq ?_
    refine sqa (a_assign_d (lq rfl) rfl) ?_
    refine sq_nil ?_
    cases h'
    refine avc_ret ?_
    exact ret_1 rfl
   ·
    replace h' := cF c3 h'
    refine avc_sq2 <| avc_sq ?_
    refine sqa (m_fieldPt (lq rfl) L63_1 rfl) ?_
    refine sqa (a_load_ip (lq rfl) O3 rfl rfl) ?_
    refine sqa (a_neq (lq rfl) rfl rfl) ?_
    obtain ⟨b40, hb40, h⟩ := bE h'; clear h'
    refine sqa ((a_move_d (lq rfl) rfl).bool (Option.some.inj hb40)) ?_
    refine sq_g (x := .ip (eElement.cells a0) (0 + 2)) rfl rfl rfl (lq rfl) (lq rfl) rfl (fun hb => by obtain rfl : b40 = true := hb; exact m_fieldPt (lq rfl) L63_2 rfl) ?_
    refine sq_g (x := .d (di a0.Tertiary)) rfl rfl rfl (lq rfl) (lq rfl) rfl (fun hb => by obtain rfl : b40 = true := hb; exact a_load_ip (lq rfl) O3 rfl rfl) ?_
    refine sq_g (x := .d (db (decide (a0.Tertiary = 0)))) rfl rfl rfl (lq rfl) (lq rfl) rfl (fun hb => by obtain rfl : b40 = true := hb; exact a_eql (lq rfl) rfl rfl) ?_
    refine sqa (a_pick_and (lq rfl) rfl rfl) ?_
    refine sqa (a_assign_d (lq rfl) rfl) ?_
    refine sq_nil ?_
    refine avc_if rfl ⟨fun c4 => ?_, fun c4 => ?_⟩
    ·
     replace h := cT c4 h
     refine avc_sq2 <| avc_sq ?_
     refine sqa (a_assign_d (lq rfl) rfl) ?_
     refine sq_nil ?_
     cases h
     refine avc_ret ?_
     exact ret_1 rfl
    ·
     replace h := cF c4 h
     refine avc_sq2 <| avc_sq ?_
     refine sqa (m_fieldPt (lq rfl) L63_3 rfl) ?_
     refine sqa (a_load_ip (lq rfl) O4 rfl rfl) ?_
     obtain ⟨b48, hb48, h'⟩ := bE h; clear h
     refine sqa ((a_move_d (lq rfl) rfl).bool (Option.some.inj hb48)) ?_
     refine sq_g (x := .ip (eElement.cells a0) (0 + 0)) rfl rfl rfl (lq rfl) (lq rfl) rfl (fun hb => by obtain rfl : b48 = true := hb; exact m_fieldPt (lq rfl) L63_0 rfl) ?_
     refine sq_g (x := .d (di a0.Primary)) rfl rfl rfl (lq rfl) (lq rfl) rfl (fun hb => by obtain rfl : b48 = true := hb; exact a_load_ip (lq rfl) O3 rfl rfl) ?_
     refine sq_g (x := .d (db (decide (a0.Primary = 0)))) rfl rfl rfl (lq rfl) (lq rfl) rfl (fun hb => by obtain rfl : b48 = true := hb; exact a_eql (lq rfl) rfl rfl) ?_
     refine sqa (a_pick_and (lq rfl) rfl rfl) ?_
     refine sqa (a_assign_d (lq rfl) rfl) ?_
     refine sq_nil ?_
     refine avc_if rfl ⟨fun c5 => ?_, fun c5 => ?_⟩
     ·
      replace h' := cT c5 h'
      refine avc_sq2 <| avc_sq ?_
      refine sqa (a_assign_d (lq rfl) rfl) ?_
      refine sq_nil ?_
      cases h'
      refine avc_ret ?_
      exact ret_1 rfl
     ·
      replace h' := cF c5 h'
      refine avc_skip <| avc_sq2 <| avc_sq ?_
      refine sqa (a_assign_d (lq rfl) rfl) ?_
      refine sq_nil ?_
      cases h'
      refine avc_ret ?_
      exact ret_1 rfl
 ·
  replace h' := eR h'
  refine avc_tail (e := .ret) (S2 := ⟨[(2, .d (di y1))], []⟩) ?_ ?_
  ·
   refine avc_loopM (fun x => ⟨[(1, .d (.pt (eElement.cells a0))), (11, .d (eA3Int.dv ({ x0 := a0.Primary, x1 := a0.Secondary, x2 := a0.Tertiary } : A3Int))), (12, .d (di x))], []⟩) hy1 (weak_cov ⟨rfl, rfl, rfl, trivial⟩ trivial) ?_
   rintro v12 sy1 hsy1
   replace hsy1 : element_Check_L0 a0 v12 = some sy1 := hsy1
   unfold element_Check_L0 at hsy1
   refine avc_sq2 <| avc_sq ?_
   refine sqa (a_lss (lq rfl) rfl rfl) ?_
   refine sq_nil <| avc_sq2 ?_
   refine avc_if rfl ⟨fun c1 => ?_, fun c1 => ?_⟩
   ·
    replace hsy1 := cT c1 hsy1
    refine avc_skip <| avc_sq2 <| avc_block <| avc_sq2 <| avc_sq ?_
    obtain ⟨t14, ht14, hsy1'⟩ := bE hsy1; clear hsy1
    refine sqa (m_aindex (en := eI) (l := [({ x0 := a0.Primary, x1 := a0.Secondary, x2 := a0.Tertiary } : A3Int).x0, ({ x0 := a0.Primary, x1 := a0.Secondary, x2 := a0.Tertiary } : A3Int).x1, ({ x0 := a0.Primary, x1 := a0.Secondary, x2 := a0.Tertiary } : A3Int).x2]) (lq rfl) A107 O3 (fun _ => rfl) rfl rfl rfl ht14) ?_
    refine sqa (a_assign_d (lq rfl) rfl) ?_
    refine sq_nil <| avc_sq2 <| avc_sq ?_
    refine sqa (a_move_d (lq rfl) rfl) ?_
    refine sqa (a_lss (lq rfl) rfl rfl) ?_
    obtain ⟨b17, hb17, hsy1⟩ := bE hsy1'; clear hsy1'
    refine sqa ((a_move_d (lq rfl) rfl).bool (Option.some.inj hb17)) ?_
    refine sq_g (x := .d (di t14)) rfl rfl rfl (lq rfl) (lq rfl) rfl (fun hb => by obtain rfl := gF hb; exact a_move_d (lq rfl) rfl) ?_
    refine sq_g (x := .d (db (decide (65535 < t14)))) rfl rfl rfl (lq rfl) (lq rfl) rfl (fun hb => by obtain rfl := gF hb; exact a_gtr (lq rfl) rfl rfl) ?_
    refine sqa (a_pick_or (lq rfl) rfl rfl) ?_
    refine sq_nil ?_
    refine avc_if rfl ⟨fun c2 => ?_, fun c2 => ?_⟩
    ·
     replace hsy1 := cT c2 hsy1
     refine avc_sq2 <| avc_sq ?_
     refine sqa (a_assign_d (lq rfl) rfl) ?_
     refine sq_nil ?_
     refine avc_ret ?_
     cases hsy1
     intro q; cases q
     exact out_mk (weak_cov ⟨rfl, trivial⟩ trivial)
    ·
     replace hsy1 := cF c2 hsy1
     refine avc_skip <| avc_sq ?_
     refine sqa (m_add (lq rfl) rfl rfl) ?_
     refine sqa (a_move_d (lq rfl) rfl) ?_
     refine sq_nil ?_
     cases hsy1
     exact weak_cov ⟨rfl, rfl, rfl, trivial⟩ trivial
   ·
    replace hsy1 := cF c1 hsy1
    refine avc_exit ?_
    cases hsy1
    intro q; cases q
  ·
   cases h'
   exact ret_1 rfl

theorem colltable_checkEntry_c  {a0 : Entry} {a1 : Int}  {r : Int} (h : colltable_checkEntry a0 a1 = some r) : Contract Tryd.prog 25 [(eEntry.dv a0), (di a1)] [(di r)] := by
 refine contract_of Tryd.func25 (by kernel_rfl) rfl (lq rfl) (lq rfl) fun w0 I0 hI0 hG0 => ?_
 unfold colltable_checkEntry at h
 refine avc_sq2 <| avc_sq ?_
 refine sqa (m_box (size := 2) (lq rfl) rfl rfl) ?_
 refine sqa (a_assign_d (lq rfl) rfl) ?_
 refine sq_nil <| avc_sq2 <| avc_sq2 <| avc_sq ?_
 refine sqa (m_fieldPt (lq rfl) L55_0 rfl) ?_
 refine sqa (a_load_ip (lq rfl) O30 rfl rfl) ?_
 refine sqa (m_len (en := eI) (l := a0.Codes) (lq rfl) S30 rfl) ?_
 refine sqa (a_lss (lq rfl) rfl rfl) ?_
 obtain ⟨b16, hb16, h'⟩ := bE h; clear h
 refine sqa ((a_move_d (lq rfl) rfl).bool (Option.some.inj hb16)) ?_
 refine sq_g (x := .ip (eEntry.cells a0) (0 + 0)) rfl rfl rfl (lq rfl) (lq rfl) rfl (fun hb => by obtain rfl := gF hb; exact m_fieldPt (lq rfl) L55_0 rfl) ?_
 refine sq_g (x := .d (dsl eI a0.Codes)) rfl rfl rfl (lq rfl) (lq rfl) rfl (fun hb => by obtain rfl := gF hb; exact a_load_ip (lq rfl) O30 rfl rfl) ?_
 refine sq_g (x := .d (di (a0.Codes.length : Int))) rfl rfl rfl (lq rfl) (lq rfl) rfl (fun hb => by obtain rfl := gF hb; exact m_len (en := eI) (l := a0.Codes) (lq rfl) S30 rfl) ?_
 refine sq_g (x := .d (db (decide (8 < (a0.Codes.length : Int))))) rfl rfl rfl (lq rfl) (lq rfl) rfl (fun hb => by obtain rfl := gF hb; exact a_gtr (lq rfl) rfl rfl) ?_
 refine sqa (a_pick_or (lq rfl) rfl rfl) ?_
 obtain ⟨b22, hb22, h⟩ := bE h'; clear h'
 refine sqa ((a_move_d (lq rfl) rfl).bool (Option.some.inj hb22)) ?_
 refine sq_g (x := .ip (eEntry.cells a0) (0 + 1)) rfl rfl rfl (lq rfl) (lq rfl) rfl (fun hb => by obtain rfl := gF hb; exact m_fieldPt (lq rfl) L55_1 rfl) ?_
 refine sq_g (x := .d (dsl eElement a0.Elements)) rfl rfl rfl (lq rfl) (lq rfl) rfl (fun hb => by obtain rfl := gF hb; exact a_load_ip (lq rfl) O31 rfl rfl) ?_
 refine sq_g (x := .d (di (a0.Elements.length : Int))) rfl rfl rfl (lq rfl) (lq rfl) rfl (fun hb => by obtain rfl := gF hb; exact m_len (en := eElement) (l := a0.Elements) (lq rfl) S31 rfl) ?_
 refine sq_g (x := .d (db (decide (16 < (a0.Elements.length : Int))))) rfl rfl rfl (lq rfl) (lq rfl) rfl (fun hb => by obtain rfl := gF hb; exact a_gtr (lq rfl) rfl rfl) ?_
 refine sqa (a_pick_or (lq rfl) rfl rfl) ?_
 refine sq_nil ?_
 refine avc_if rfl ⟨fun c1 => ?_, fun c1 => ?_⟩
 ·
  replace h := cT c1 h
  refine avc_sq2 <| avc_sq ?_
  refine sqa (a_assign_d (lq rfl) rfl) ?_
  refine sq_nil ?_
  cases h
  refine avc_ret ?_
  exact ret_1 rfl
 ·
  replace h := cF c1 h
  refine avc_skip <| avc_sq2 <| avc_sq2 <| avc_sq ?_
  refine sqa (m_fieldPt (lq rfl) L55_0 rfl) ?_
  refine sqa (a_load_ip (lq rfl) O30 rfl rfl) ?_
  refine sqa (m_len (en := eI) (l := a0.Codes) (lq rfl) S30 rfl) ?_
  refine sqa (a_move_d (lq rfl) rfl) ?_
  refine sq_nil <| avc_block ?_
  obtain ⟨y1, hy1, h'⟩ := bE h; clear h
  rcases y1 with y1 | y1
  ·
   replace h' := eL h'
   refine avc_tail (e := .exit 0) (S2 := ⟨[(1, .d (di a1)), (2, .d (.pt (eEntry.cells a0)))], []⟩) ?_ ?_
   ·
    refine avc_loopM (fun x => ⟨[(1, .d (di a1)), (2, .d (.pt (eEntry.cells a0))), (29, .d (dsl eI a0.Codes)), (30, .d (di (a0.Codes.length : Int))), (31, .d (di x))], []⟩) hy1 (weak_cov ⟨rfl, rfl, rfl, rfl, rfl, trivial⟩ trivial) ?_
    rintro v31 sy1 hsy1
    replace hsy1 : colltable_checkEntry_L0 a0 v31 = some sy1 := hsy1
    unfold colltable_checkEntry_L0 at hsy1
    refine avc_sq2 <| avc_sq ?_
    refine sqa (a_lss (lq rfl) rfl rfl) ?_
    refine sq_nil <| avc_sq2 ?_
    refine avc_if rfl ⟨fun c2 => ?_, fun c2 => ?_⟩
    ·
     replace hsy1 := cT c2 hsy1
     refine avc_skip <| avc_sq2 <| avc_block <| avc_sq2 <| avc_sq ?_
     obtain ⟨t33, ht33, hsy1'⟩ := bE hsy1; clear hsy1
     refine sqa (m_index (en := eI) (lq rfl) S30 rfl rfl ht33) ?_
     refine sqa (m_loadE (en := eI) (l := a0.Codes) (i := v31) (v := t33) (off := 0) (lq rfl) O3 rfl ht33 rfl) ?_
     refine sqa (a_assign_d (lq rfl) rfl) ?_
     refine sq_nil <| avc_sq2 <| avc_sq ?_
     refine sqa (a_move_d (lq rfl) rfl) ?_
     obtain ⟨t36, ht36, hsy1⟩ := bE hsy1'; clear hsy1'
     refine sqa (a_call (lq rfl) rfl (codepoint_Valid_c ht36)) ?_
     refine sqa (a_not (lq rfl) rfl) ?_
     refine sq_nil ?_
     refine avc_if rfl ⟨fun c3 => ?_, fun c3 => ?_⟩
     ·
      replace hsy1 := cT c3 hsy1
      refine avc_sq2 <| avc_sq ?_
      refine sqa (a_assign_d (lq rfl) rfl) ?_
      refine sq_nil ?_
      refine avc_ret ?_
      cases hsy1
      intro q; cases q
     ·
      replace hsy1 := cF c3 hsy1
      refine avc_skip <| avc_sq ?_
      refine sqa (m_add (lq rfl) rfl rfl) ?_
      refine sqa (a_move_d (lq rfl) rfl) ?_
      refine sq_nil ?_
      cases hsy1
      exact weak_cov ⟨rfl, rfl, rfl, rfl, rfl, trivial⟩ trivial
    ·
     replace hsy1 := cF c2 hsy1
     refine avc_exit ?_
     cases hsy1
     intro q; cases q
     exact out_mk (weak_cov ⟨rfl, rfl, trivial⟩ trivial)
   ·
    refine avc_sq2 <| avc_sq2 <| avc_sq ?_
    refine sqa (m_fieldPt (lq rfl) L55_1 rfl) ?_
    refine sqa (a_load_ip (lq rfl) O31 rfl rfl) ?_
    refine sqa (m_len (en := eElement) (l := a0.Elements) (lq rfl) S31 rfl) ?_
    refine sqa (a_move_d (lq rfl) rfl) ?_
    refine sq_nil <| avc_block ?_
    obtain ⟨y2, hy2, h⟩ := bE h'; clear h'
    rcases y2 with y2 | y2
    ·
     replace h := eL h
     refine avc_tail (e := .exit 2) (S2 := ⟨[(1, .d (di a1)), (2, .d (.pt (eEntry.cells a0)))], []⟩) ?_ ?_
     ·
      refine avc_loopM (fun x => ⟨[(1, .d (di a1)), (2, .d (.pt (eEntry.cells a0))), (40, .d (dsl eElement a0.Elements)), (41, .d (di (a0.Elements.length : Int))), (42, .d (di x))], []⟩) hy2 (weak_cov ⟨rfl, rfl, rfl, rfl, rfl, trivial⟩ trivial) ?_
      rintro v42 sy2 hsy2
      replace hsy2 : colltable_checkEntry_L1 a0 v42 = some sy2 := hsy2
      unfold colltable_checkEntry_L1 at hsy2
      refine avc_sq2 <| avc_sq ?_
      refine sqa (a_lss (lq rfl) rfl rfl) ?_
      refine sq_nil <| avc_sq2 ?_
      refine avc_if rfl ⟨fun c4 => ?_, fun c4 => ?_⟩
      ·
       replace hsy2 := cT c4 hsy2
       refine avc_skip <| avc_sq2 <| avc_block <| avc_sq2 <| avc_sq ?_
       obtain ⟨t44, ht44, hsy2'⟩ := bE hsy2; clear hsy2
       refine sqa (m_index (en := eElement) (lq rfl) S31 rfl rfl ht44) ?_
       refine sqa (m_loadEA (en := eElement) (l := a0.Elements) (i := v42) (v := t44) (off := 0) (lq rfl) G63 rfl ht44 rfl rfl (by decide)) ?_
       refine sq_b rfl (step_alloc (zs := [(.int IntKind.i64 (0)), (.int IntKind.i64 (0)), (.int IntKind.i64 (0)), (.bool false)]) (lq rfl) (by kernel_rfl) rfl rfl) ?_
       refine sq_b rfl (s_store_boxA G63 rfl rfl rfl rfl rfl rfl) ?_
       refine sq_nil ?_
       refine avc_weak (weak_freeze (t := 8) (lq rfl) rfl rfl rfl) ?_
       refine avc_sq2 <| avc_sq ?_
       refine sqa (m_loadPt (lq rfl) G63 rfl rfl) ?_
       obtain ⟨t47, ht47, hsy2⟩ := bE hsy2'; clear hsy2'
       refine sqa (a_call (lq rfl) rfl (element_Check_c ht47)) ?_
       refine sqa (a_assign_d (lq rfl) rfl) ?_
       refine sq_nil <| avc_sq2 <| avc_sq ?_
       refine sqa (a_move_d (lq rfl) rfl) ?_
       refine sqa (a_neq (lq rfl) rfl rfl) ?_
       refine sq_nil ?_
       refine avc_if rfl ⟨fun c5 => ?_, fun c5 => ?_⟩
       ·
        replace hsy2 := cT c5 hsy2
        refine avc_sq2 <| avc_sq ?_
        refine sqa (a_move_d (lq rfl) rfl) ?_
        refine sqa (a_assign_d (lq rfl) rfl) ?_
        refine sq_nil ?_
        refine avc_ret ?_
        cases hsy2
        intro q; cases q
       ·
        replace hsy2 := cF c5 hsy2
        refine avc_skip <| avc_sq ?_
        refine sqa (m_add (lq rfl) rfl rfl) ?_
        refine sqa (a_move_d (lq rfl) rfl) ?_
        refine sq_nil ?_
        cases hsy2
        exact weak_cov ⟨rfl, rfl, rfl, rfl, rfl, trivial⟩ trivial
      ·
       replace hsy2 := cF c4 hsy2
       refine avc_exit ?_
       cases hsy2
       intro q; cases q
       exact out_mk (weak_cov ⟨rfl, rfl, trivial⟩ trivial)
     ·
      refine avc_sq2 <| avc_sq2 <| avc_sq ?_
      refine sqa (m_fieldPt (lq rfl) L55_1 rfl) ?_
      refine sqa (a_load_ip (lq rfl) O31 rfl rfl) ?_
      refine sqa (m_len (en := eElement) (l := a0.Elements) (lq rfl) S31 rfl) ?_
      refine sqa (a_move_d (lq rfl) rfl) ?_
      refine sq_nil <| avc_block ?_
      obtain ⟨y3, hy3, h'⟩ := bE h; clear h
      rcases y3 with y3 | y3
      ·
       replace h' := eL h'
       refine avc_tail (e := .exit 4) (S2 := ⟨[], []⟩) ?_ ?_
       ·
        refine avc_loopM (fun x => ⟨[(1, .d (di a1)), (53, .d (dsl eElement a0.Elements)), (54, .d (di (a0.Elements.length : Int))), (55, .d (di x))], []⟩) hy3 (weak_cov ⟨rfl, rfl, rfl, rfl, trivial⟩ trivial) ?_
        rintro v55 sy3 hsy3
        replace hsy3 : colltable_checkEntry_L2 a0 a1 v55 = some sy3 := hsy3
        unfold colltable_checkEntry_L2 at hsy3
        refine avc_sq2 <| avc_sq ?_
        refine sqa (a_lss (lq rfl) rfl rfl) ?_
        refine sq_nil <| avc_sq2 ?_
        refine avc_if rfl ⟨fun c6 => ?_, fun c6 => ?_⟩
        ·
         replace hsy3 := cT c6 hsy3
         refine avc_skip <| avc_sq2 <| avc_block <| avc_sq2 <| avc_sq ?_
         obtain ⟨t57, ht57, hsy3'⟩ := bE hsy3; clear hsy3
         refine sqa (m_index (en := eElement) (lq rfl) S31 rfl rfl ht57) ?_
         refine sqa (m_loadEA (en := eElement) (l := a0.Elements) (i := v55) (v := t57) (off := 0) (lq rfl) G63 rfl ht57 rfl rfl (by decide)) ?_
         refine sq_b rfl (step_alloc (zs := [(.int IntKind.i64 (0)), (.int IntKind.i64 (0)), (.int IntKind.i64 (0)), (.bool false)]) (lq rfl) (by kernel_rfl) rfl rfl) ?_
         refine sq_b rfl (s_store_boxA G63 rfl rfl rfl rfl rfl rfl) ?_
         refine sq_nil ?_
         refine avc_weak (weak_freeze (t := 11) (lq rfl) rfl rfl rfl) ?_
         refine avc_sq2 <| avc_sq ?_
         refine sqa (m_fieldPt (lq rfl) L63_0 rfl) ?_
         refine sqa (a_load_ip (lq rfl) O3 rfl rfl) ?_
         refine sqa (a_move_d (lq rfl) rfl) ?_
         refine sqa (a_geq (lq rfl) rfl rfl) ?_
         refine sq_nil ?_
         refine avc_if rfl ⟨fun c7 => ?_, fun c7 => ?_⟩
         ·
          replace hsy3' := cT c7 hsy3'
          refine avc_sq2 <| avc_sq ?_
          refine sqa (a_assign_d (lq rfl) rfl) ?_
          refine sq_nil ?_
          refine avc_ret ?_
          cases hsy3'
          intro q; cases q
         ·
          replace hsy3' := cF c7 hsy3'
          refine avc_skip <| avc_sq ?_
          refine sqa (m_add (lq rfl) rfl rfl) ?_
          refine sqa (a_move_d (lq rfl) rfl) ?_
          refine sq_nil ?_
          cases hsy3'
          exact weak_cov ⟨rfl, rfl, rfl, rfl, trivial⟩ trivial
        ·
         replace hsy3 := cF c6 hsy3
         refine avc_exit ?_
         cases hsy3
         intro q; cases q
         exact out_mk (weak_cov trivial trivial)
       ·
        refine avc_sq2 <| avc_sq ?_
        refine sqa (a_assign_d (lq rfl) rfl) ?_
        refine sq_nil ?_
        cases h'
        refine avc_ret ?_
        exact ret_1 rfl
      ·
       replace h' := eR h'
       refine avc_tail (e := .ret) (S2 := ⟨[(4, .d (di y3))], []⟩) ?_ ?_
       ·
        refine avc_loopM (fun x => ⟨[(1, .d (di a1)), (53, .d (dsl eElement a0.Elements)), (54, .d (di (a0.Elements.length : Int))), (55, .d (di x))], []⟩) hy3 (weak_cov ⟨rfl, rfl, rfl, rfl, trivial⟩ trivial) ?_
        rintro v55 sy3 hsy3
        replace hsy3 : colltable_checkEntry_L2 a0 a1 v55 = some sy3 := hsy3
        unfold colltable_checkEntry_L2 at hsy3
        refine avc_sq2 <| avc_sq ?_
        refine sqa (a_lss (lq rfl) rfl rfl) ?_
        refine sq_nil <| avc_sq2 ?_
        refine avc_if rfl ⟨fun c6 => ?_, fun c6 => ?_⟩
        ·
         replace hsy3 := cT c6 hsy3
         refine avc_skip <| avc_sq2 <| avc_block <| avc_sq2 <| avc_sq ?_
         obtain ⟨t57, ht57, hsy3'⟩ := bE hsy3; clear hsy3
         refine sqa (m_index (en := eElement) (lq rfl) S31 rfl rfl ht57) ?_
         refine sqa (m_loadEA (en := eElement) (l := a0.Elements) (i := v55) (v := t57) (off := 0) (lq rfl) G63 rfl ht57 rfl rfl (by decide)) ?_
         refine sq_b rfl (step_alloc (zs := [(.int IntKind.i64 (0)), (.int IntKind.i64 (0)), (.int IntKind.i64 (0)), (.bool false)]) (lq rfl) (by kernel_rfl) rfl rfl) ?_
         refine sq_b rfl (s_store_boxA G63 rfl rfl rfl rfl rfl rfl) ?_
         refine sq_nil ?_
         refine avc_weak (weak_freeze (t := 11) (lq rfl) rfl rfl rfl) ?_
         refine avc_sq2 <| avc_sq ?_
         refine sqa (m_fieldPt (lq rfl) L63_0 rfl) ?_
         refine sqa (a_load_ip (lq rfl) O3 rfl rfl) ?_
         refine sqa (a_move_d (lq rfl) rfl) ?_
         refine sqa (a_geq (lq rfl) rfl rfl) ?_
         refine sq_nil ?_
         refine avc_if rfl ⟨fun c7 => ?_, fun c7 => ?_⟩
         ·
          replace hsy3' := cT c7 hsy3'
          refine avc_sq2 <| avc_sq ?_
          refine sqa (a_assign_d (lq rfl) rfl) ?_
          refine sq_nil ?_
          refine avc_ret ?_
          cases hsy3'
          intro q; cases q
          exact out_mk (weak_cov ⟨rfl, trivial⟩ trivial)
         ·
          replace hsy3' := cF c7 hsy3'
          refine avc_skip <| avc_sq ?_
          refine sqa (m_add (lq rfl) rfl rfl) ?_
          refine sqa (a_move_d (lq rfl) rfl) ?_
          refine sq_nil ?_
          cases hsy3'
          exact weak_cov ⟨rfl, rfl, rfl, rfl, trivial⟩ trivial
        ·
         replace hsy3 := cF c6 hsy3
         refine avc_exit ?_
         cases hsy3
         intro q; cases q
       ·
        cases h'
        exact ret_1 rfl
    ·
     replace h := eR h
     refine avc_tail (e := .ret) (S2 := ⟨[(4, .d (di y2))], []⟩) ?_ ?_
     ·
      refine avc_loopM (fun x => ⟨[(1, .d (di a1)), (2, .d (.pt (eEntry.cells a0))), (40, .d (dsl eElement a0.Elements)), (41, .d (di (a0.Elements.length : Int))), (42, .d (di x))], []⟩) hy2 (weak_cov ⟨rfl, rfl, rfl, rfl, rfl, trivial⟩ trivial) ?_
      rintro v42 sy2 hsy2
      replace hsy2 : colltable_checkEntry_L1 a0 v42 = some sy2 := hsy2
      unfold colltable_checkEntry_L1 at hsy2
      refine avc_sq2 <| avc_sq ?_
      refine sqa (a_lss (lq rfl) rfl rfl) ?_
      refine sq_nil <| avc_sq2 ?_
      refine avc_if rfl ⟨fun c4 => ?_, fun c4 => ?_⟩
      ·
       replace hsy2 := cT c4 hsy2
       refine avc_skip <| avc_sq2 <| avc_block <| avc_sq2 <| avc_sq ?_
       obtain ⟨t44, ht44, hsy2'⟩ := bE hsy2; clear hsy2
       refine sqa (m_index (en := eElement) (lq rfl) S31 rfl rfl ht44) ?_
       refine sqa (m_loadEA (en := eElement) (l := a0.Elements) (i := v42) (v := t44) (off := 0) (lq rfl) G63 rfl ht44 rfl rfl (by decide)) ?_
       refine sq_b rfl (step_alloc (zs := [(.int IntKind.i64 (0)), (.int IntKind.i64 (0)), (.int IntKind.i64 (0)), (.bool false)]) (lq rfl) (by kernel_rfl) rfl rfl) ?_
       refine sq_b rfl (s_store_boxA G63 rfl rfl rfl rfl rfl rfl) ?_
       refine sq_nil ?_
       refine avc_weak (weak_freeze (t := 8) (lq rfl) rfl rfl rfl) ?_
       refine avc_sq2 <| avc_sq ?_
       refine sqa (m_loadPt (lq rfl) G63 rfl rfl) ?_
       obtain ⟨t47, ht47, hsy2⟩ := bE hsy2'; clear hsy2'
       refine sqa (a_call (lq rfl) rfl (element_Check_c ht47)) ?_
       refine sqa (a_assign_d (lq rfl) rfl) ?_
       refine sq_nil <| avc_sq2 <| avc_sq ?_
       refine sqa (a_move_d (lq rfl) rfl) ?_
       refine sqa (a_neq (lq rfl) rfl rfl) ?_
       refine sq_nil ?_
       refine avc_if rfl ⟨fun c5 => ?_, fun c5 => ?_⟩
       ·
        replace hsy2 := cT c5 hsy2
        refine avc_sq2 <| avc_sq ?_
        refine sqa (a_move_d (lq rfl) rfl) ?_
        refine sqa (a_assign_d (lq rfl) rfl) ?_
        refine sq_nil ?_
        refine avc_ret ?_
        cases hsy2
        intro q; cases q
        exact out_mk (weak_cov ⟨rfl, trivial⟩ trivial)
       ·
        replace hsy2 := cF c5 hsy2
        refine avc_skip <| avc_sq ?_
        refine sqa (m_add (lq rfl) rfl rfl) ?_
        refine sqa (a_move_d (lq rfl) rfl) ?_
        refine sq_nil ?_
        cases hsy2
        exact weak_cov ⟨rfl, rfl, rfl, rfl, rfl, trivial⟩ trivial
      ·
       replace hsy2 := cF c4 hsy2
       refine avc_exit ?_
       cases hsy2
       intro q; cases q
     ·
      cases h
      exact ret_1 rfl
  ·
   replace h' := eR h'
   refine avc_tail (e := .ret) (S2 := ⟨[(4, .d (di y1))], []⟩) ?_ ?_
   ·
    refine avc_loopM (fun x => ⟨[(1, .d (di a1)), (2, .d (.pt (eEntry.cells a0))), (29, .d (dsl eI a0.Codes)), (30, .d (di (a0.Codes.length : Int))), (31, .d (di x))], []⟩) hy1 (weak_cov ⟨rfl, rfl, rfl, rfl, rfl, trivial⟩ trivial) ?_
    rintro v31 sy1 hsy1
    replace hsy1 : colltable_checkEntry_L0 a0 v31 = some sy1 := hsy1
    unfold colltable_checkEntry_L0 at hsy1
    refine avc_sq2 <| avc_sq ?_
    refine sqa (a_lss (lq rfl) rfl rfl) ?_
    refine sq_nil <| avc_sq2 ?_
    refine avc_if rfl ⟨fun c2 => ?_, fun c2 => ?_⟩
    ·
     replace hsy1 := cT c2 hsy1
     refine avc_skip <| avc_sq2 <| avc_block <| avc_sq2 <| avc_sq ?_
     obtain ⟨t33, ht33, hsy1'⟩ := bE hsy1; clear hsy1
     refine sqa (m_index (en := eI) (lq rfl) S30 rfl rfl ht33) ?_
     refine sqa (m_loadE (en := eI) (l := a0.Codes) (i := v31) (v := t33) (off := 0) (lq rfl) O3 rfl ht33 rfl) ?_
     refine sqa (a_assign_d (lq rfl) rfl) ?_
     refine sq_nil <| avc_sq2 <| avc_sq ?_
     refine sqa (a_move_d (lq rfl) rfl) ?_
     obtain ⟨t36, ht36, hsy1⟩ := bE hsy1'; clear hsy1'
     refine sqa (a_call (lq rfl) rfl (codepoint_Valid_c ht36)) ?_
     refine sqa (a_not (lq rfl) rfl) ?_
     refine sq_nil ?_
     refine avc_if rfl ⟨fun c3 => ?_, fun c3 => ?_⟩
     ·
      replace hsy1 := cT c3 hsy1
      refine avc_sq2 <| avc_sq ?_
      refine sqa (a_assign_d (lq rfl) rfl) ?_
      refine sq_nil ?_
      refine avc_ret ?_
      cases hsy1
      intro q; cases q
      exact out_mk (weak_cov ⟨rfl, trivial⟩ trivial)
     ·
      replace hsy1 := cF c3 hsy1
      refine avc_skip <| avc_sq ?_
      refine sqa (m_add (lq rfl) rfl rfl) ?_
      refine sqa (a_move_d (lq rfl) rfl) ?_
      refine sq_nil ?_
      cases hsy1
      exact weak_cov ⟨rfl, rfl, rfl, rfl, rfl, trivial⟩ trivial
    ·
     replace hsy1 := cF c2 hsy1
     refine avc_exit ?_
     cases hsy1
     intro q; cases q
   ·
    cases h'
    exact ret_1 rfl

theorem cmp_isNaN_int_c  {a0 : Int}  {r : Bool} (h : cmp_isNaN_int a0 = some r) : Contract Tryd.prog 64 [(di a0)] [(db r)] := by
 refine contract_of Tryd.func64 (by kernel_rfl) rfl (lq rfl) (lq rfl) fun w0 I0 hI0 hG0 => ?_
 unfold cmp_isNaN_int at h
 refine avc_sq2 <| avc_sq ?_
 refine sqa (a_assign_d (lq rfl) rfl) ?_
 refine sq_nil <| avc_sq2 <| avc_sq ?_
 refine sqa (a_move_d (lq rfl) rfl) ?_
 refine sqa (a_move_d (lq rfl) rfl) ?_
 refine sqa (a_neq (lq rfl) rfl rfl) ?_
 refine sqa (a_assign_d (lq rfl) rfl) ?_
 refine sq_nil ?_
 cases h
 refine avc_ret ?_
 exact ret_1 rfl

theorem cmp_Compare_int_c  {a0 : Int} {a1 : Int}  {r : Int} (h : cmp_Compare_int a0 a1 = some r) : Contract Tryd.prog 48 [(di a0), (di a1)] [(di r)] := by
 refine contract_of Tryd.func48 (by kernel_rfl) rfl (lq rfl) (lq rfl) fun w0 I0 hI0 hG0 => ?_
 unfold cmp_Compare_int at h
 refine avc_sq2 <| avc_sq ?_
 refine sqa (a_assign_d (lq rfl) rfl) ?_
 refine sq_nil <| avc_sq2 <| avc_sq ?_
 refine sqa (a_move_d (lq rfl) rfl) ?_
 obtain ⟨t8, ht8, h'⟩ := bE h; clear h
 refine sqa (a_call (lq rfl) rfl (cmp_isNaN_int_c ht8)) ?_
 refine sqa (a_assign_d (lq rfl) rfl) ?_
 refine sq_nil <| avc_sq2 <| avc_sq ?_
 refine sqa (a_move_d (lq rfl) rfl) ?_
 obtain ⟨t10, ht10, h⟩ := bE h'; clear h'
 refine sqa (a_call (lq rfl) rfl (cmp_isNaN_int_c ht10)) ?_
 refine sqa (a_assign_d (lq rfl) rfl) ?_
 refine sq_nil <| avc_sq2 <| avc_sq2 <| avc_sq ?_
 refine sqa (a_move_d (lq rfl) rfl) ?_
 refine sq_nil ?_
 refine avc_if rfl ⟨fun c1 => ?_, fun c1 => ?_⟩
 ·
  replace h := cT c1 h
  refine avc_sq2 <| avc_sq2 <| avc_sq ?_
  refine sqa (a_move_d (lq rfl) rfl) ?_
  refine sq_nil ?_
  refine avc_if rfl ⟨fun c2 => ?_, fun c2 => ?_⟩
  ·
   replace h := cT c2 h
   refine avc_sq2 <| avc_sq ?_
   refine sqa (a_assign_d (lq rfl) rfl) ?_
   refine sq_nil ?_
   cases h
   refine avc_ret ?_
   exact ret_1 rfl
  ·
   replace h := cF c2 h
   refine avc_skip <| avc_sq2 <| avc_sq ?_
   refine sqa (a_assign_d (lq rfl) rfl) ?_
   refine sq_nil ?_
   cases h
   refine avc_ret ?_
   exact ret_1 rfl
 ·
  replace h := cF c1 h
  refine avc_skip <| avc_sq2 <| avc_sq2 <| avc_sq ?_
  refine sqa (a_move_d (lq rfl) rfl) ?_
  refine sq_nil ?_
  refine avc_if rfl ⟨fun c3 => ?_, fun c3 => ?_⟩
  ·
   replace h := cT c3 h
   refine avc_sq2 <| avc_sq ?_
   refine sqa (a_assign_d (lq rfl) rfl) ?_
   refine sq_nil ?_
   cases h
   refine avc_ret ?_
   exact ret_1 rfl
  ·
   replace h := cF c3 h
   refine avc_skip <| avc_sq2 <| avc_sq2 <| avc_sq ?_
   refine sqa (a_move_d (lq rfl) rfl) ?_
   refine sqa (a_move_d (lq rfl) rfl) ?_
   refine sqa (a_lss (lq rfl) rfl rfl) ?_
   refine sq_nil ?_
   refine avc_if rfl ⟨fun c4 => ?_, fun c4 => ?_⟩
   ·
    replace h := cT c4 h
    refine avc_sq2 <| avc_sq ?_
    refine sqa (a_assign_d (lq rfl) rfl) ?_
    refine sq_nil ?_
    cases h
    refine avc_ret ?_
    exact ret_1 rfl
   ·
    replace h := cF c4 h
    refine avc_skip <| avc_sq2 <| avc_sq2 <| avc_sq ?_
    refine sqa (a_move_d (lq rfl) rfl) ?_
    refine sqa (a_move_d (lq rfl) rfl) ?_
    refine sqa (a_gtr (lq rfl) rfl rfl) ?_
    refine sq_nil ?_
    refine avc_if rfl ⟨fun c5 => ?_, fun c5 => ?_⟩
    ·
     replace h := cT c5 h
     refine avc_sq2 <| avc_sq ?_
     refine sqa (a_assign_d (lq rfl) rfl) ?_
     refine sq_nil ?_
     cases h
     refine avc_ret ?_
     exact ret_1 rfl
    ·
     replace h := cF c5 h
     refine avc_skip <| avc_sq2 <| avc_sq ?_
     refine sqa (a_assign_d (lq rfl) rfl) ?_
     refine sq_nil ?_
     cases h
     refine avc_ret ?_
     exact ret_1 rfl

theorem codepoint_Compare_c  {a0 : (List Int)} {a1 : (List Int)}  {r : Int} (h : codepoint_Compare a0 a1 = some r) : Contract Tryd.prog 26 [(dsl eI a0), (dsl eI a1)] [(di r)] := by
 refine contract_of Tryd.func26 (by kernel_rfl) rfl (lq rfl) (lq rfl) fun w0 I0 hI0 hG0 => ?_
 unfold codepoint_Compare at h
 refine avc_sq2 <| avc_sq ?_
 refine sqa (a_assign_d (lq rfl) rfl) ?_
 refine sq_nil <| avc_sq2 <| avc_sq2 <| avc_sq ?_
 refine sqa (a_move_d (lq rfl) rfl) ?_
 refine sqa (m_len (en := eI) (l := a0) (lq rfl) S30 rfl) ?_
 refine sqa (a_move_d (lq rfl) rfl) ?_
 refine sqa (m_len (en := eI) (l := a1) (lq rfl) S30 rfl) ?_
 refine sqa (a_min (lq rfl) rfl rfl) ?_
 refine sqa (a_move_d (lq rfl) rfl) ?_
 refine sq_nil <| avc_block ?_
 obtain ⟨y1, hy1, h'⟩ := bE h; clear h
 rcases y1 with y1 | y1
 ·
  replace h' := eL h'
  refine avc_tail (e := .exit 0) (S2 := ⟨[(0, .d (dsl eI a0)), (1, .d (dsl eI a1))], []⟩) ?_ ?_
  ·
   refine avc_loopM (fun x => ⟨[(0, .d (dsl eI a0)), (1, .d (dsl eI a1)), (10, .d (di (min (a0.length : Int) (a1.length : Int)))), (11, .d (di x))], []⟩) hy1 (weak_cov ⟨rfl, rfl, rfl, rfl, trivial⟩ trivial) ?_
   rintro v11 sy1 hsy1
   replace hsy1 : codepoint_Compare_L0 a0 a1 v11 = some sy1 := hsy1
   unfold codepoint_Compare_L0 at hsy1
   refine avc_sq2 <| avc_sq ?_
   refine sqa (a_lss (lq rfl) rfl rfl) ?_
   refine sq_nil <| avc_sq2 ?_
   refine avc_if rfl ⟨fun c1 => ?_, fun c1 => ?_⟩
   ·
    replace hsy1 := cT c1 hsy1
    refine avc_skip <| avc_sq2 <| avc_block <| avc_sq2 <| avc_sq ?_
    refine sqa (a_move_d (lq rfl) rfl) ?_
    refine sqa (a_assign_d (lq rfl) rfl) ?_
    refine sq_nil <| avc_sq2 ?_
    refine avc_drawA MX rfl ?_
    refine daa (a_move_d (lq rfl) rfl) ?_
    refine daa (a_move_d (lq rfl) rfl) ?_
    obtain ⟨t16, ht16, hsy1'⟩ := bE hsy1; clear hsy1
    refine daa (m_index (en := eI) (lq rfl) S30 rfl rfl ht16) ?_
    refine daa (m_loadE (en := eI) (l := a0) (i := v11) (v := t16) (off := 0) (lq rfl) O3 rfl ht16 rfl) ?_
    refine daa (a_move_d (lq rfl) rfl) ?_
    refine daa (a_move_d (lq rfl) rfl) ?_
    obtain ⟨t20, ht20, hsy1⟩ := bE hsy1'; clear hsy1'
    refine daa (m_index (en := eI) (lq rfl) S30 rfl rfl ht20) ?_
    refine daa (m_loadE (en := eI) (l := a1) (i := v11) (v := t20) (off := 0) (lq rfl) O3 rfl ht20 rfl) ?_
    refine daa (a_neq (lq rfl) rfl rfl) ?_
    refine da_nil ?_
    refine avc_if rfl ⟨fun c2 => ?_, fun c2 => ?_⟩
    ·
     replace hsy1 := cT c2 hsy1
     refine avc_sq2 ?_
     refine avc_drawA MX rfl ?_
     refine daa (a_move_d (lq rfl) rfl) ?_
     refine daa (a_move_d (lq rfl) rfl) ?_
     obtain ⟨t25, ht25, hsy1'⟩ := bE hsy1; clear hsy1
     refine daa (m_index (en := eI) (lq rfl) S30 rfl rfl ht25) ?_
     refine daa (m_loadE (en := eI) (l := a0) (i := v11) (v := t25) (off := 0) (lq rfl) O3 rfl ht25 rfl) ?_
     refine daa (a_move_d (lq rfl) rfl) ?_
     refine daa (a_move_d (lq rfl) rfl) ?_
     obtain ⟨t29, ht29, hsy1⟩ := bE hsy1'; clear hsy1'
     refine daa (m_index (en := eI) (lq rfl) S30 rfl rfl ht29) ?_
     refine daa (m_loadE (en := eI) (l := a1) (i := v11) (v := t29) (off := 0) (lq rfl) O3 rfl ht29 rfl) ?_
     obtain ⟨t31, ht31, hsy1'⟩ := bE hsy1; clear hsy1
     refine daa (a_call (lq rfl) rfl (cmp_Compare_int_c ht31)) ?_
     refine daa (a_assign_d (lq rfl) rfl) ?_
     refine da_nil ?_
     refine avc_ret ?_
     cases hsy1'
     intro q; cases q
    ·
     replace hsy1 := cF c2 hsy1
     refine avc_skip <| avc_sq ?_
     refine sqa (m_add (lq rfl) rfl rfl) ?_
     refine sqa (a_move_d (lq rfl) rfl) ?_
     refine sq_nil ?_
     cases hsy1
     exact weak_cov ⟨rfl, rfl, rfl, rfl, trivial⟩ trivial
   ·
    replace hsy1 := cF c1 hsy1
    refine avc_exit ?_
    cases hsy1
    intro q; cases q
    exact out_mk (weak_cov ⟨rfl, rfl, trivial⟩ trivial)
  ·
   refine avc_sq2 <| avc_sq ?_
   refine sqa (a_move_d (lq rfl) rfl) ?_
   refine sqa (m_len (en := eI) (l := a0) (lq rfl) S30 rfl) ?_
   refine sqa (a_move_d (lq rfl) rfl) ?_
   refine sqa (m_len (en := eI) (l := a1) (lq rfl) S30 rfl) ?_
   obtain ⟨t37, ht37, h⟩ := bE h'; clear h'
   refine sqa (a_call (lq rfl) rfl (cmp_Compare_int_c ht37)) ?_
   refine sqa (a_assign_d (lq rfl) rfl) ?_
   refine sq_nil ?_
   cases h
   refine avc_ret ?_
   exact ret_1 rfl
 ·
  replace h' := eR h'
  refine avc_tail (e := .ret) (S2 := ⟨[(4, .d (di y1))], []⟩) ?_ ?_
  ·
   refine avc_loopM (fun x => ⟨[(0, .d (dsl eI a0)), (1, .d (dsl eI a1)), (10, .d (di (min (a0.length : Int) (a1.length : Int)))), (11, .d (di x))], []⟩) hy1 (weak_cov ⟨rfl, rfl, rfl, rfl, trivial⟩ trivial) ?_
   rintro v11 sy1 hsy1
   replace hsy1 : codepoint_Compare_L0 a0 a1 v11 = some sy1 := hsy1
   unfold codepoint_Compare_L0 at hsy1
   refine avc_sq2 <| avc_sq ?_
   refine sqa (a_lss (lq rfl) rfl rfl) ?_
   refine sq_nil <| avc_sq2 ?_
   refine avc_if rfl ⟨fun c1 => ?_, fun c1 => ?_⟩
   ·
    replace hsy1 := cT c1 hsy1
    refine avc_skip <| avc_sq2 <| avc_block <| avc_sq2 <| avc_sq ?_
    refine sqa (a_move_d (lq rfl) rfl) ?_
    refine sqa (a_assign_d (lq rfl) rfl) ?_
    refine sq_nil <| avc_sq2 ?_
    refine avc_drawA MX rfl ?_
    refine daa (a_move_d (lq rfl) rfl) ?_
    refine daa (a_move_d (lq rfl) rfl) ?_
    obtain ⟨t16, ht16, hsy1'⟩ := bE hsy1; clear hsy1
    refine daa (m_index (en := eI) (lq rfl) S30 rfl rfl ht16) ?_
    refine daa (m_loadE (en := eI) (l := a0) (i := v11) (v := t16) (off := 0) (lq rfl) O3 rfl ht16 rfl) ?_
    refine daa (a_move_d (lq rfl) rfl) ?_
    refine daa (a_move_d (lq rfl) rfl) ?_
    obtain ⟨t20, ht20, hsy1⟩ := bE hsy1'; clear hsy1'
    refine daa (m_index (en := eI) (lq rfl) S30 rfl rfl ht20) ?_
    refine daa (m_loadE (en := eI) (l := a1) (i := v11) (v := t20) (off := 0) (lq rfl) O3 rfl ht20 rfl) ?_
    refine daa (a_neq (lq rfl) rfl rfl) ?_
    refine da_nil ?_
    refine avc_if rfl ⟨fun c2 => ?_, fun c2 => ?_⟩
    ·
     replace hsy1 := cT c2 hsy1
     refine avc_sq2 ?_
     refine avc_drawA MX rfl ?_
     refine daa (a_move_d (lq rfl) rfl) ?_
     refine daa (a_move_d (lq rfl) rfl) ?_
     obtain ⟨t25, ht25, hsy1'⟩ := bE hsy1; clear hsy1
     refine daa (m_index (en := eI) (lq rfl) S30 rfl rfl ht25) ?_
     refine daa (m_loadE (en := eI) (l := a0) (i := v11) (v := t25) (off := 0) (lq rfl) O3 rfl ht25 rfl) ?_
     refine daa (a_move_d (lq rfl) rfl) ?_
     refine daa (a_move_d (lq rfl) rfl) ?_
     obtain ⟨t29, ht29, hsy1⟩ := bE hsy1'; clear hsy1'
     refine daa (m_index (en := eI) (lq rfl) S30 rfl rfl ht29) ?_
     refine daa (m_loadE (en := eI) (l := a1) (i := v11) (v := t29) (off := 0) (lq rfl) O3 rfl ht29 rfl) ?_
     obtain ⟨t31, ht31, hsy1'⟩ := bE hsy1; clear hsy1
     refine daa (a_call (lq rfl) rfl (cmp_Compare_int_c ht31)) ?_
     refine daa (a_assign_d (lq rfl) rfl) ?_
     refine da_nil ?_
     refine avc_ret ?_
     cases hsy1'
     intro q; cases q
     exact out_mk (weak_cov ⟨rfl, trivial⟩ trivial)
    ·
     replace hsy1 := cF c2 hsy1
     refine avc_skip <| avc_sq ?_
     refine sqa (m_add (lq rfl) rfl rfl) ?_
     refine sqa (a_move_d (lq rfl) rfl) ?_
     refine sq_nil ?_
     cases hsy1
     exact weak_cov ⟨rfl, rfl, rfl, rfl, trivial⟩ trivial
   ·
    replace hsy1 := cF c1 hsy1
    refine avc_exit ?_
    cases hsy1
    intro q; cases q
  ·
   cases h'
   exact ret_1 rfl

theorem colltable_Check_c  {a0 : Collation}  {r : Int} (h : colltable_Check a0 = some r) : Contract Tryd.prog 9 [(eCollation.dv a0)] [(di r)] := by
 refine contract_of Tryd.func9 (by kernel_rfl) rfl (lq rfl) (lq rfl) fun w0 I0 hI0 hG0 => ?_
 unfold colltable_Check at h
 refine avc_sq2 <| avc_sq ?_
 refine sqa (m_box (size := 5) (lq rfl) rfl rfl) ?_
 refine sqa (a_assign_d (lq rfl) rfl) ?_
 refine sq_nil <| avc_sq2 <| avc_sq2 <| avc_sq ?_
 refine sqa (m_fieldPt (lq rfl) L25_2 rfl) ?_
 refine sqa (a_load_ip (lq rfl) O3 rfl rfl) ?_
 refine sqa (a_lss (lq rfl) rfl rfl) ?_
 obtain ⟨b10, hb10, h'⟩ := bE h; clear h
 refine sqa ((a_move_d (lq rfl) rfl).bool (Option.some.inj hb10)) ?_
 refine sq_g (x := .ip (eCollation.cells a0) (0 + 2)) rfl rfl rfl (lq rfl) (lq rfl) rfl (fun hb => by obtain rfl := gF hb; exact m_fieldPt (lq rfl) L25_2 rfl) ?_
 refine sq_g (x := .d (di a0.Base)) rfl rfl rfl (lq rfl) (lq rfl) rfl (fun hb => by obtain rfl := gF hb; exact a_load_ip (lq rfl) O3 rfl rfl) ?_
 refine sq_g (x := .d (db (decide (65502 < a0.Base)))) rfl rfl rfl (lq rfl) (lq rfl) rfl (fun hb => by obtain rfl := gF hb; exact a_gtr (lq rfl) rfl rfl) ?_
 refine sqa (a_pick_or (lq rfl) rfl rfl) ?_
 obtain ⟨b15, hb15, h⟩ := bE h'; clear h'
 refine sqa ((a_move_d (lq rfl) rfl).bool (Option.some.inj hb15)) ?_
 refine sq_g (x := .ip (eCollation.cells a0) (0 + 3)) rfl rfl rfl (lq rfl) (lq rfl) rfl (fun hb => by obtain rfl := gF hb; exact m_fieldPt (lq rfl) L25_3 rfl) ?_
 refine sq_g (x := .d (di a0.Second)) rfl rfl rfl (lq rfl) (lq rfl) rfl (fun hb => by obtain rfl := gF hb; exact a_load_ip (lq rfl) O3 rfl rfl) ?_
 obtain ⟨t18, ht18, h'⟩ := bE h; clear h
 refine sq_g (x := .d (db t18)) rfl rfl rfl (lq rfl) (lq rfl) rfl (fun hb => by obtain rfl := gF hb; exact a_call (lq rfl) rfl (colltable_isWeight_c ht18)) ?_
 refine sq_g (x := .d (db (!t18))) rfl rfl rfl (lq rfl) (lq rfl) rfl (fun hb => by obtain rfl := gF hb; exact a_not (lq rfl) rfl) ?_
 refine sqa (a_pick_or (lq rfl) rfl rfl) ?_
 obtain ⟨b21, hb21, h⟩ := bE h'; clear h'
 refine sqa ((a_move_d (lq rfl) rfl).bool (Option.some.inj hb21)) ?_
 refine sq_g (x := .ip (eCollation.cells a0) (0 + 4)) rfl rfl rfl (lq rfl) (lq rfl) rfl (fun hb => by obtain rfl := gF hb; exact m_fieldPt (lq rfl) L25_4 rfl) ?_
 refine sq_g (x := .d (di a0.Third)) rfl rfl rfl (lq rfl) (lq rfl) rfl (fun hb => by obtain rfl := gF hb; exact a_load_ip (lq rfl) O3 rfl rfl) ?_
 obtain ⟨t24, ht24, h'⟩ := bE h; clear h
 refine sq_g (x := .d (db t24)) rfl rfl rfl (lq rfl) (lq rfl) rfl (fun hb => by obtain rfl := gF hb; exact a_call (lq rfl) rfl (colltable_isWeight_c ht24)) ?_
 refine sq_g (x := .d (db (!t24))) rfl rfl rfl (lq rfl) (lq rfl) rfl (fun hb => by obtain rfl := gF hb; exact a_not (lq rfl) rfl) ?_
 refine sqa (a_pick_or (lq rfl) rfl rfl) ?_
 refine sq_nil ?_
 refine avc_if rfl ⟨fun c1 => ?_, fun c1 => ?_⟩
 ·
  replace h' := cT c1 h'
  refine avc_sq2 <| avc_sq ?_
  refine sqa (a_assign_d (lq rfl) rfl) ?_
  refine sq_nil ?_
  cases h'
  refine avc_ret ?_
  exact ret_1 rfl
 ·
  replace h' := cF c1 h'
  refine avc_skip <| avc_sq2 <| avc_sq2 <| avc_sq ?_
  refine sqa (m_loadPt (lq rfl) G25 rfl rfl) ?_
  obtain ⟨t28, ht28, h⟩ := bE h'; clear h'
  refine sqa (a_call (lq rfl) rfl (colltable_checkGroups_c ht28)) ?_
  refine sqa (a_assign_d (lq rfl) rfl) ?_
  refine sq_nil <| avc_sq2 <| avc_sq ?_
  refine sqa (a_move_d (lq rfl) rfl) ?_
  refine sqa (a_neq (lq rfl) rfl rfl) ?_
  refine sq_nil ?_
  refine avc_if rfl ⟨fun c2 => ?_, fun c2 => ?_⟩
  ·
   replace h := cT c2 h
   refine avc_sq2 <| avc_sq ?_
   refine sqa (a_move_d (lq rfl) rfl) ?_
   refine sqa (a_assign_d (lq rfl) rfl) ?_
   refine sq_nil ?_
   cases h
   refine avc_ret ?_
   exact ret_1 rfl
  ·
   replace h := cF c2 h
   refine avc_skip <| avc_sq2 <| avc_sq2 <| avc_sq ?_
   refine sqa (m_fieldPt (lq rfl) L25_0 rfl) ?_
   refine sqa (a_load_ip (lq rfl) O22 rfl rfl) ?_
   refine sqa (m_len (en := eEntry) (l := a0.Entries) (lq rfl) S22 rfl) ?_
   refine sqa (a_move_d (lq rfl) rfl) ?_
   refine sq_nil <| avc_block ?_
   obtain ⟨y1, hy1, h'⟩ := bE h; clear h
   rcases y1 with y1 | y1
   ·
    replace h' := eL h'
    refine avc_tail (e := .exit 0) (S2 := ⟨[], []⟩) ?_ ?_
    ·
     refine avc_loopM (fun x => ⟨[(1, .d (.pt (eCollation.cells a0))), (33, .d (dsl eEntry a0.Entries)), (34, .d (di (a0.Entries.length : Int))), (35, .d (di x))], []⟩) hy1 (weak_cov ⟨rfl, rfl, rfl, rfl, trivial⟩ trivial) ?_
     rintro v35 sy1 hsy1
     replace hsy1 : colltable_Check_L0 a0 v35 = some sy1 := hsy1
     unfold colltable_Check_L0 at hsy1
     refine avc_sq2 <| avc_sq ?_
     refine sqa (a_lss (lq rfl) rfl rfl) ?_
     refine sq_nil <| avc_sq2 ?_
     refine avc_if rfl ⟨fun c3 => ?_, fun c3 => ?_⟩
     ·
      replace hsy1 := cT c3 hsy1
      refine avc_skip <| avc_sq2 <| avc_block <| avc_sq2 <| avc_sq ?_
      refine sqa (a_move_d (lq rfl) rfl) ?_
      obtain ⟨t38, ht38, hsy1'⟩ := bE hsy1; clear hsy1
      refine sqa (m_index (en := eEntry) (lq rfl) S22 rfl rfl ht38) ?_
      refine sqa (m_loadEA (en := eEntry) (l := a0.Entries) (i := v35) (v := t38) (off := 0) (lq rfl) G55 rfl ht38 rfl rfl (by decide)) ?_
      refine sq_b rfl (step_alloc (zs := [(.slice none 0 0), (.slice none 0 0)]) (lq rfl) (by kernel_rfl) rfl rfl) ?_
      refine sqa (a_assign_d (lq rfl) rfl) ?_
      refine sq_b rfl (s_store_boxA G55 rfl rfl rfl rfl rfl rfl) ?_
      refine sq_nil ?_
      refine avc_weak (weak_freeze (t := 5) (lq rfl) rfl rfl rfl) ?_
      refine avc_sq2 <| avc_sq2 <| avc_sq ?_
      refine sqa (m_loadPt (lq rfl) G55 rfl rfl) ?_
      refine sqa (m_fieldPt (lq rfl) L25_2 rfl) ?_
      refine sqa (a_load_ip (lq rfl) O3 rfl rfl) ?_
      obtain ⟨t43, ht43, hsy1⟩ := bE hsy1'; clear hsy1'
      refine sqa (a_call (lq rfl) rfl (colltable_checkEntry_c ht43)) ?_
      refine sqa (a_assign_d (lq rfl) rfl) ?_
      refine sq_nil <| avc_sq2 <| avc_sq ?_
      refine sqa (a_move_d (lq rfl) rfl) ?_
      refine sqa (a_neq (lq rfl) rfl rfl) ?_
      refine sq_nil ?_
      refine avc_if rfl ⟨fun c4 => ?_, fun c4 => ?_⟩
      ·
       replace hsy1 := cT c4 hsy1
       refine avc_sq2 <| avc_sq ?_
       refine sqa (a_move_d (lq rfl) rfl) ?_
       refine sqa (a_assign_d (lq rfl) rfl) ?_
       refine sq_nil ?_
       refine avc_ret ?_
       cases hsy1
       intro q; cases q
      ·
       replace hsy1 := cF c4 hsy1
       refine avc_skip <| avc_sq2 ?_
       refine avc_drawA MX rfl ?_
       refine daa (a_move_d (lq rfl) rfl) ?_
       refine daa (a_gtr (lq rfl) rfl rfl) ?_
       obtain ⟨b49, hb49, hsy1'⟩ := bE hsy1; clear hsy1
       refine daa ((a_move_d (lq rfl) rfl).bool (Option.some.inj hb49)) ?_
       refine da_g (x := .ip (eCollation.cells a0) (0 + 0)) rfl rfl rfl (lq rfl) (lq rfl) rfl (fun hb => by obtain rfl : b49 = true := hb; exact m_fieldPt (lq rfl) L25_0 rfl) ?_
       refine da_g (x := .d (dsl eEntry a0.Entries)) rfl rfl rfl (lq rfl) (lq rfl) rfl (fun hb => by obtain rfl : b49 = true := hb; exact a_load_ip (lq rfl) O22 rfl rfl) ?_
       refine da_g (x := .d (di v35)) rfl rfl rfl (lq rfl) (lq rfl) rfl (fun hb => by obtain rfl : b49 = true := hb; exact a_move_d (lq rfl) rfl) ?_
       refine da_g (x := .d (di (wi (v35 - 1)))) rfl rfl rfl (lq rfl) (lq rfl) rfl (fun hb => by obtain rfl : b49 = true := hb; exact m_sub (lq rfl) rfl rfl) ?_
       obtain ⟨t54, ht54, hsy1⟩ := bE hsy1'; clear hsy1'
       refine da_g (x := .ip (eEntry.all a0.Entries) ((wi (v35 - 1)).toNat * eEntry.size)) rfl rfl rfl (lq rfl) (lq rfl) rfl (fun hb => by obtain rfl : b49 = true := hb; exact m_index (en := eEntry) (lq rfl) S22 rfl rfl ht54) ?_
       refine da_g (x := .ip (eEntry.all a0.Entries) ((wi (v35 - 1)).toNat * eEntry.size + 0)) rfl rfl rfl (lq rfl) (lq rfl) rfl (fun hb => by obtain rfl : b49 = true := hb; exact a_fieldAddr_ip (lq rfl) L55_0 rfl) ?_
       refine da_g (x := .d (dsl eI t54.Codes)) rfl rfl rfl (lq rfl) (lq rfl) rfl (fun hb => by obtain rfl : b49 = true := hb; exact m_loadE (en := eEntry) (l := a0.Entries) (i := (wi (v35 - 1))) (v := t54) (off := 0) (lq rfl) O30 rfl ht54 rfl) ?_
       refine da_g (x := .ip (eEntry.cells t38) (0 + 0)) rfl rfl rfl (lq rfl) (lq rfl) rfl (fun hb => by obtain rfl : b49 = true := hb; exact m_fieldPt (lq rfl) L55_0 rfl) ?_
       refine da_g (x := .d (dsl eI t38.Codes)) rfl rfl rfl (lq rfl) (lq rfl) rfl (fun hb => by obtain rfl : b49 = true := hb; exact a_load_ip (lq rfl) O30 rfl rfl) ?_
       obtain ⟨t59, ht59, hsy1'⟩ := bE hsy1; clear hsy1
       refine da_g (x := .d (di t59)) rfl rfl rfl (lq rfl) (lq rfl) rfl (fun hb => by obtain rfl : b49 = true := hb; exact a_call (lq rfl) rfl (codepoint_Compare_c ht59)) ?_
       refine da_g (x := .d (db (decide (0 ≤ t59)))) rfl rfl rfl (lq rfl) (lq rfl) rfl (fun hb => by obtain rfl : b49 = true := hb; exact a_geq (lq rfl) rfl rfl) ?_
       refine daa (a_pick_and (lq rfl) rfl rfl) ?_
       refine da_nil ?_
       refine avc_if rfl ⟨fun c5 => ?_, fun c5 => ?_⟩
       ·
        replace hsy1' := cT c5 hsy1'
        refine avc_sq2 <| avc_sq ?_
        refine sqa (a_assign_d (lq rfl) rfl) ?_
        refine sq_nil ?_
        refine avc_ret ?_
        cases hsy1'
        intro q; cases q
       ·
        replace hsy1' := cF c5 hsy1'
        refine avc_skip <| avc_sq ?_
        refine sqa (m_add (lq rfl) rfl rfl) ?_
        refine sqa (a_move_d (lq rfl) rfl) ?_
        refine sq_nil ?_
        cases hsy1'
        exact weak_cov ⟨rfl, rfl, rfl, rfl, trivial⟩ trivial
     ·
      replace hsy1 := cF c3 hsy1
      refine avc_exit ?_
      cases hsy1
      intro q; cases q
      exact out_mk (weak_cov trivial trivial)
    ·
     refine avc_sq2 <| avc_sq ?_
     refine sqa (a_assign_d (lq rfl) rfl) ?_
     refine sq_nil ?_
     cases h'
     refine avc_ret ?_
     exact ret_1 rfl
   ·
    replace h' := eR h'
    refine avc_tail (e := .ret) (S2 := ⟨[(2, .d (di y1))], []⟩) ?_ ?_
    ·
     refine avc_loopM (fun x => ⟨[(1, .d (.pt (eCollation.cells a0))), (33, .d (dsl eEntry a0.Entries)), (34, .d (di (a0.Entries.length : Int))), (35, .d (di x))], []⟩) hy1 (weak_cov ⟨rfl, rfl, rfl, rfl, trivial⟩ trivial) ?_
     rintro v35 sy1 hsy1
     replace hsy1 : colltable_Check_L0 a0 v35 = some sy1 := hsy1
     unfold colltable_Check_L0 at hsy1
     refine avc_sq2 <| avc_sq ?_
     refine sqa (a_lss (lq rfl) rfl rfl) ?_
     refine sq_nil <| avc_sq2 ?_
     refine avc_if rfl ⟨fun c3 => ?_, fun c3 => ?_⟩
     ·
      replace hsy1 := cT c3 hsy1
      refine avc_skip <| avc_sq2 <| avc_block <| avc_sq2 <| avc_sq ?_
      refine sqa (a_move_d (lq rfl) rfl) ?_
      obtain ⟨t38, ht38, hsy1'⟩ := bE hsy1; clear hsy1
      refine sqa (m_index (en := eEntry) (lq rfl) S22 rfl rfl ht38) ?_
      refine sqa (m_loadEA (en := eEntry) (l := a0.Entries) (i := v35) (v := t38) (off := 0) (lq rfl) G55 rfl ht38 rfl rfl (by decide)) ?_
      refine sq_b rfl (step_alloc (zs := [(.slice none 0 0), (.slice none 0 0)]) (lq rfl) (by kernel_rfl) rfl rfl) ?_
      refine sqa (a_assign_d (lq rfl) rfl) ?_
      refine sq_b rfl (s_store_boxA G55 rfl rfl rfl rfl rfl rfl) ?_
      refine sq_nil ?_
      refine avc_weak (weak_freeze (t := 5) (lq rfl) rfl rfl rfl) ?_
      refine avc_sq2 <| avc_sq2 <| avc_sq ?_
      refine sqa (m_loadPt (lq rfl) G55 rfl rfl) ?_
      refine sqa (m_fieldPt (lq rfl) L25_2 rfl) ?_
      refine sqa (a_load_ip (lq rfl) O3 rfl rfl) ?_
      obtain ⟨t43, ht43, hsy1⟩ := bE hsy1'; clear hsy1'
      refine sqa (a_call (lq rfl) rfl (colltable_checkEntry_c ht43)) ?_
      refine sqa (a_assign_d (lq rfl) rfl) ?_
      refine sq_nil <| avc_sq2 <| avc_sq ?_
      refine sqa (a_move_d (lq rfl) rfl) ?_
      refine sqa (a_neq (lq rfl) rfl rfl) ?_
      refine sq_nil ?_
      refine avc_if rfl ⟨fun c4 => ?_, fun c4 => ?_⟩
      ·
       replace hsy1 := cT c4 hsy1
       refine avc_sq2 <| avc_sq ?_
       refine sqa (a_move_d (lq rfl) rfl) ?_
       refine sqa (a_assign_d (lq rfl) rfl) ?_
       refine sq_nil ?_
       refine avc_ret ?_
       cases hsy1
       intro q; cases q
       exact out_mk (weak_cov ⟨rfl, trivial⟩ trivial)
      ·
       replace hsy1 := cF c4 hsy1
       refine avc_skip <| avc_sq2 ?_
       refine avc_drawA MX rfl ?_
       refine daa (a_move_d (lq rfl) rfl) ?_
       refine daa (a_gtr (lq rfl) rfl rfl) ?_
       obtain ⟨b49, hb49, hsy1'⟩ := bE hsy1; clear hsy1
       refine daa ((a_move_d (lq rfl) rfl).bool (Option.some.inj hb49)) ?_
       refine da_g (x := .ip (eCollation.cells a0) (0 + 0)) rfl rfl rfl (lq rfl) (lq rfl) rfl (fun hb => by obtain rfl : b49 = true := hb; exact m_fieldPt (lq rfl) L25_0 rfl) ?_
       refine da_g (x := .d (dsl eEntry a0.Entries)) rfl rfl rfl (lq rfl) (lq rfl) rfl (fun hb => by obtain rfl : b49 = true := hb; exact a_load_ip (lq rfl) O22 rfl rfl) ?_
       refine da_g (x := .d (di v35)) rfl rfl rfl (lq rfl) (lq rfl) rfl (fun hb => by obtain rfl : b49 = true := hb; exact a_move_d (lq rfl) rfl) ?_
       refine da_g (x := .d (di (wi (v35 - 1)))) rfl rfl rfl (lq rfl) (lq rfl) rfl (fun hb => by obtain rfl : b49 = true := hb; exact m_sub (lq rfl) rfl rfl) ?_
       obtain ⟨t54, ht54, hsy1⟩ := bE hsy1'; clear hsy1'
       refine da_g (x := .ip (eEntry.all a0.Entries) ((wi (v35 - 1)).toNat * eEntry.size)) rfl rfl rfl (lq rfl) (lq rfl) rfl (fun hb => by obtain rfl : b49 = true := hb; exact m_index (en := eEntry) (lq rfl) S22 rfl rfl ht54) ?_
       refine da_g (x := .ip (eEntry.all a0.Entries) ((wi (v35 - 1)).toNat * eEntry.size + 0)) rfl rfl rfl (lq rfl) (lq rfl) rfl (fun hb => by obtain rfl : b49 = true := hb; exact a_fieldAddr_ip (lq rfl) L55_0 rfl) ?_
       refine da_g (x := .d (dsl eI t54.Codes)) rfl rfl rfl (lq rfl) (lq rfl) rfl (fun hb => by obtain rfl : b49 = true := hb; exact m_loadE (en := eEntry) (l := a0.Entries) (i := (wi (v35 - 1))) (v := t54) (off := 0) (lq rfl) O30 rfl ht54 rfl) ?_
       refine da_g (x := .ip (eEntry.cells t38) (0 + 0)) rfl rfl rfl (lq rfl) (lq rfl) rfl (fun hb => by obtain rfl : b49 = true := hb; exact m_fieldPt (lq rfl) L55_0 rfl) ?_
       refine da_g (x := .d (dsl eI t38.Codes)) rfl rfl rfl (lq rfl) (lq rfl) rfl (fun hb => by obtain rfl : b49 = true := hb; exact a_load_ip (lq rfl) O30 rfl rfl) ?_
       obtain ⟨t59, ht59, hsy1'⟩ := bE hsy1; clear hsy1
       refine da_g (x := .d (di t59)) rfl rfl rfl (lq rfl) (lq rfl) rfl (fun hb => by obtain rfl : b49 = true := hb; exact a_call (lq rfl) rfl (codepoint_Compare_c ht59)) ?_
       refine da_g (x := .d (db (decide (0 ≤ t59)))) rfl rfl rfl (lq rfl) (lq rfl) rfl (fun hb => by obtain rfl : b49 = true := hb; exact a_geq (lq rfl) rfl rfl) ?_
       refine daa (a_pick_and (lq rfl) rfl rfl) ?_
       refine da_nil ?_
       refine avc_if rfl ⟨fun c5 => ?_, fun c5 => ?_⟩
       ·
        replace hsy1' := cT c5 hsy1'
        refine avc_sq2 <| avc_sq ?_
        refine sqa (a_assign_d (lq rfl) rfl) ?_
        refine sq_nil ?_
        refine avc_ret ?_
        cases hsy1'
        intro q; cases q
        exact out_mk (weak_cov ⟨rfl, trivial⟩ trivial)
       ·
        replace hsy1' := cF c5 hsy1'
        refine avc_skip <| avc_sq ?_
        refine sqa (m_add (lq rfl) rfl rfl) ?_
        refine sqa (a_move_d (lq rfl) rfl) ?_
        refine sq_nil ?_
        cases hsy1'
        exact weak_cov ⟨rfl, rfl, rfl, rfl, trivial⟩ trivial
     ·
      replace hsy1 := cF c3 hsy1
      refine avc_exit ?_
      cases hsy1
      intro q; cases q
    ·
     cases h'
     exact ret_1 rfl

theorem ref43_weight_c  {a0 : Int}  {r : Bool} (h : ref43_weight a0 = some r) : Contract Tryd.prog 27 [(di a0)] [(db r)] := by
 refine contract_of Tryd.func27 (by kernel_rfl) rfl (lq rfl) (lq rfl) fun w0 I0 hI0 hG0 => ?_
 unfold ref43_weight at h
 refine avc_sq2 <| avc_sq ?_
 refine sqa (a_assign_d (lq rfl) rfl) ?_
 refine sq_nil <| avc_sq2 <| avc_sq ?_
 refine sqa (a_move_d (lq rfl) rfl) ?_
 refine sqa (a_geq (lq rfl) rfl rfl) ?_
 obtain ⟨b5, hb5, h'⟩ := bE h; clear h
 refine sqa ((a_move_d (lq rfl) rfl).bool (Option.some.inj hb5)) ?_
 refine sq_g (x := .d (di a0)) rfl rfl rfl (lq rfl) (lq rfl) rfl (fun hb => by obtain rfl : b5 = true := hb; exact a_move_d (lq rfl) rfl) ?_
 refine sq_g (x := .d (db (decide (a0 ≤ 65535)))) rfl rfl rfl (lq rfl) (lq rfl) rfl (fun hb => by obtain rfl : b5 = true := hb; exact a_leq (lq rfl) rfl rfl) ?_
 refine sqa (a_pick_and (lq rfl) rfl rfl) ?_
 refine sqa (a_assign_d (lq rfl) rfl) ?_
 refine sq_nil ?_
 cases h'
 refine avc_ret ?_
 exact ret_1 rfl

theorem ref11_Name_c  {a0 : Str}  {r : Bool} (h : ref11_Name a0 = some r) : Contract Tryd.prog 49 [(ds a0)] [(db r)] := by
 refine contract_of Tryd.func49 (by kernel_rfl) rfl (lq rfl) (lq rfl) fun w0 I0 hI0 hG0 => ?_
 unfold ref11_Name at h
 refine avc_sq2 <| avc_sq ?_
 refine sqa (a_assign_d (lq rfl) rfl) ?_
 refine sq_nil <| avc_sq2 <| avc_sq2 <| avc_sq ?_
 refine sqa (a_assign_d (lq rfl) rfl) ?_
 refine sq_nil <| avc_block ?_
 obtain ⟨y1, hy1, h'⟩ := bE h; clear h
 rcases y1 with y1 | y1
 ·
  replace h' := eL h'
  refine avc_tail (e := .exit 0) (S2 := ⟨[(0, .d (ds a0))], []⟩) ?_ ?_
  ·
   refine avc_loopM (fun x => ⟨[(0, .d (ds a0)), (3, .d (di x))], []⟩) hy1 (weak_cov ⟨rfl, rfl, trivial⟩ trivial) ?_
   rintro v3 sy1 hsy1
   replace hsy1 : ref11_Name_L0 a0 v3 = some sy1 := hsy1
   unfold ref11_Name_L0 at hsy1
   refine avc_sq2 <| avc_sq2 <| avc_sq ?_
   refine sqa (a_move_d (lq rfl) rfl) ?_
   refine sqa (a_move_d (lq rfl) rfl) ?_
   refine sqa (m_slen (s := a0) (lq rfl) Tryd.underlying9 rfl) ?_
   refine sqa (a_lss (lq rfl) rfl rfl) ?_
   refine sq_nil ?_
   refine avc_if rfl ⟨fun c1 => ?_, fun c1 => ?_⟩
   ·
    replace hsy1 := cT c1 hsy1
    refine avc_skip <| avc_sq2 <| avc_block <| avc_sq2 <| avc_sq ?_
    refine sqa (a_move_d (lq rfl) rfl) ?_
    refine sqa (a_move_d (lq rfl) rfl) ?_
    obtain ⟨t13, ht13, hsy1'⟩ := bE hsy1; clear hsy1
    refine sqa (m_sindex (s := a0) (lq rfl) Tryd.underlying9 rfl rfl ht13) ?_
    refine sqa (a_assign_d (lq rfl) rfl) ?_
    refine sq_nil <| avc_sq2 <| avc_sq ?_
    refine sqa (a_move_d (lq rfl) rfl) ?_
    refine sqa (a_geq (lq rfl) rfl rfl) ?_
    obtain ⟨b16, hb16, hsy1⟩ := bE hsy1'; clear hsy1'
    refine sqa ((a_move_d (lq rfl) rfl).bool (Option.some.inj hb16)) ?_
    refine sq_g (x := .d (dby t13)) rfl rfl rfl (lq rfl) (lq rfl) rfl (fun hb => by obtain rfl : b16 = true := hb; exact a_move_d (lq rfl) rfl) ?_
    refine sq_g (x := .d (db (decide (t13 ≤ 90)))) rfl rfl rfl (lq rfl) (lq rfl) rfl (fun hb => by obtain rfl : b16 = true := hb; exact a_leq (lq rfl) rfl rfl) ?_
    refine sqa (a_pick_and (lq rfl) rfl rfl) ?_
    obtain ⟨b20, hb20, hsy1'⟩ := bE hsy1; clear hsy1
    refine sqa ((a_move_d (lq rfl) rfl).bool (Option.some.inj hb20)) ?_
    refine sq_g (x := .d (dby t13)) rfl rfl rfl (lq rfl) (lq rfl) rfl (fun hb => by obtain rfl := gF hb; exact a_move_d (lq rfl) rfl) ?_
    refine sq_g (x := .d (db (decide (97 ≤ t13)))) rfl rfl rfl (lq rfl) (lq rfl) rfl (fun hb => by obtain rfl := gF hb; exact a_geq (lq rfl) rfl rfl) ?_
    obtain ⟨b23, hb23, hsy1⟩ := bE hsy1'; clear hsy1'
    refine sq_g (x := .d (db b23)) rfl rfl rfl (lq rfl) (lq rfl) rfl (fun hb => by obtain rfl := gF hb; exact (a_move_d (lq rfl) rfl).bool (Option.some.inj hb23)) ?_
    refine sq_g2 (x := .d (dby t13)) rfl rfl rfl (lq rfl) (lq rfl) rfl (fun hb => by obtain ⟨hb, hb1⟩ := and_split hb; obtain rfl := gF hb; obtain rfl : b23 = true := hb1; exact a_move_d (lq rfl) rfl) ?_
    refine sq_g2 (x := .d (db (decide (t13 ≤ 122)))) rfl rfl rfl (lq rfl) (lq rfl) rfl (fun hb => by obtain ⟨hb, hb1⟩ := and_split hb; obtain rfl := gF hb; obtain rfl : b23 = true := hb1; exact a_leq (lq rfl) rfl rfl) ?_
    refine sq_g (x := .d (db (b23 && (decide (t13 ≤ 122))))) rfl rfl rfl (lq rfl) (lq rfl) rfl (fun hb => by obtain rfl := gF hb; exact a_pick_and (lq rfl) rfl rfl) ?_
    refine sqa (a_pick_or (lq rfl) rfl rfl) ?_
    obtain ⟨b28, hb28, hsy1'⟩ := bE hsy1; clear hsy1
    refine sqa ((a_move_d (lq rfl) rfl).bool (Option.some.inj hb28)) ?_
    refine sq_g (x := .d (dby t13)) rfl rfl rfl (lq rfl) (lq rfl) rfl (fun hb => by obtain rfl := gF hb; exact a_move_d (lq rfl) rfl) ?_
    refine sq_g (x := .d (db (decide (48 ≤ t13)))) rfl rfl rfl (lq rfl) (lq rfl) rfl (fun hb => by obtain rfl := gF hb; exact a_geq (lq rfl) rfl rfl) ?_
    obtain ⟨b31, hb31, hsy1⟩ := bE hsy1'; clear hsy1'
    refine sq_g (x := .d (db b31)) rfl rfl rfl (lq rfl) (lq rfl) rfl (fun hb => by obtain rfl := gF hb; exact (a_move_d (lq rfl) rfl).bool (Option.some.inj hb31)) ?_
    refine sq_g2 (x := .d (dby t13)) rfl rfl rfl (lq rfl) (lq rfl) rfl (fun hb => by obtain ⟨hb, hb1⟩ := and_split hb; obtain rfl := gF hb; obtain rfl : b31 = true := hb1; exact a_move_d (lq rfl) rfl) ?_
    refine sq_g2 (x := .d (db (decide (t13 ≤ 57)))) rfl rfl rfl (lq rfl) (lq rfl) rfl (fun hb => by obtain ⟨hb, hb1⟩ := and_split hb; obtain rfl := gF hb; obtain rfl : b31 = true := hb1; exact a_leq (lq rfl) rfl rfl) ?_
    refine sq_g (x := .d (db (b31 && (decide (t13 ≤ 57))))) rfl rfl rfl (lq rfl) (lq rfl) rfl (fun hb => by obtain rfl := gF hb; exact a_pick_and (lq rfl) rfl rfl) ?_
    refine sqa (a_pick_or (lq rfl) rfl rfl) ?_
    obtain ⟨b36, hb36, hsy1'⟩ := bE hsy1; clear hsy1
    refine sqa ((a_move_d (lq rfl) rfl).bool (Option.some.inj hb36)) ?_
    refine sq_g (x := .d (dby t13)) rfl rfl rfl (lq rfl) (lq rfl) rfl (fun hb => by obtain rfl := gF hb; exact a_move_d (lq rfl) rfl) ?_
    refine sq_g (x := .d (db (decide (t13 = 95)))) rfl rfl rfl (lq rfl) (lq rfl) rfl (fun hb => by obtain rfl := gF hb; exact a_eql (lq rfl) rfl rfl) ?_
    refine sqa (a_pick_or (lq rfl) rfl rfl) ?_
    refine sqa (a_not (lq rfl) rfl) ?_
    refine sq_nil ?_
    refine avc_if rfl ⟨fun c2 => ?_, fun c2 => ?_⟩
    ·
     replace hsy1' := cT c2 hsy1'
     refine avc_sq2 <| avc_sq ?_
     refine sqa (a_assign_d (lq rfl) rfl) ?_
     refine sq_nil ?_
     refine avc_ret ?_
     cases hsy1'
     intro q; cases q
    ·
     replace hsy1' := cF c2 hsy1'
     refine avc_skip <| avc_sq ?_
     refine sqa (a_move_d (lq rfl) rfl) ?_
     refine sqa (m_add (lq rfl) rfl rfl) ?_
     refine sqa (a_assign_d (lq rfl) rfl) ?_
     refine sq_nil ?_
     cases hsy1'
     exact weak_cov ⟨rfl, rfl, trivial⟩ trivial
   ·
    replace hsy1 := cF c1 hsy1
    refine avc_exit ?_
    cases hsy1
    intro q; cases q
    exact out_mk (weak_cov ⟨rfl, trivial⟩ trivial)
  ·
   refine avc_sq2 <| avc_sq ?_
   refine sqa (a_move_d (lq rfl) rfl) ?_
   refine sqa (m_slen (s := a0) (lq rfl) Tryd.underlying9 rfl) ?_
   refine sqa (a_geq (lq rfl) rfl rfl) ?_
   obtain ⟨b44, hb44, h⟩ := bE h'; clear h'
   refine sqa ((a_move_d (lq rfl) rfl).bool (Option.some.inj hb44)) ?_
   refine sq_g (x := .d (ds a0)) rfl rfl rfl (lq rfl) (lq rfl) rfl (fun hb => by obtain rfl : b44 = true := hb; exact a_move_d (lq rfl) rfl) ?_
   refine sq_g (x := .d (di (a0.length : Int))) rfl rfl rfl (lq rfl) (lq rfl) rfl (fun hb => by obtain rfl : b44 = true := hb; exact m_slen (s := a0) (lq rfl) Tryd.underlying9 rfl) ?_
   refine sq_g (x := .d (db (decide ((a0.length : Int) ≤ 32)))) rfl rfl rfl (lq rfl) (lq rfl) rfl (fun hb => by obtain rfl : b44 = true := hb; exact a_leq (lq rfl) rfl rfl) ?_
   refine sqa (a_pick_and (lq rfl) rfl rfl) ?_
   refine sqa (a_assign_d (lq rfl) rfl) ?_
   refine sq_nil ?_
   cases h
   refine avc_ret ?_
   exact ret_1 rfl
 ·
  replace h' := eR h'
  refine avc_tail (e := .ret) (S2 := ⟨[(2, .d (db y1))], []⟩) ?_ ?_
  ·
   refine avc_loopM (fun x => ⟨[(0, .d (ds a0)), (3, .d (di x))], []⟩) hy1 (weak_cov ⟨rfl, rfl, trivial⟩ trivial) ?_
   rintro v3 sy1 hsy1
   replace hsy1 : ref11_Name_L0 a0 v3 = some sy1 := hsy1
   unfold ref11_Name_L0 at hsy1
   refine avc_sq2 <| avc_sq2 <| avc_sq ?_
   refine sqa (a_move_d (lq rfl) rfl) ?_
   refine sqa (a_move_d (lq rfl) rfl) ?_
   refine sqa (m_slen (s := a0) (lq rfl) Tryd.underlying9 rfl) ?_
   refine sqa (a_lss (lq rfl) rfl rfl) ?_
   refine sq_nil ?_
   refine avc_if rfl ⟨fun c1 => ?_, fun c1 => ?_⟩
   ·
    replace hsy1 := cT c1 hsy1
    refine avc_skip <| avc_sq2 <| avc_block <| avc_sq2 <| avc_sq ?_
    refine sqa (a_move_d (lq rfl) rfl) ?_
    refine sqa (a_move_d (lq rfl) rfl) ?_
    obtain ⟨t13, ht13, hsy1'⟩ := bE hsy1; clear hsy1
    refine sqa (m_sindex (s := a0) (lq rfl) Tryd.underlying9 rfl rfl ht13) ?_
    refine sqa (a_assign_d (lq rfl) rfl) ?_
    refine sq_nil <| avc_sq2 <| avc_sq ?_
    refine sqa (a_move_d (lq rfl) rfl) ?_
    refine sqa (a_geq (lq rfl) rfl rfl) ?_
    obtain ⟨b16, hb16, hsy1⟩ := bE hsy1'; clear hsy1'
    refine sqa ((a_move_d (lq rfl) rfl).bool (Option.some.inj hb16)) ?_
    refine sq_g (x := .d (dby t13)) rfl rfl rfl (lq rfl) (lq rfl) rfl (fun hb => by obtain rfl : b16 = true := hb; exact a_move_d (lq rfl) rfl) ?_
    refine sq_g (x := .d (db (decide (t13 ≤ 90)))) rfl rfl rfl (lq rfl) (lq rfl) rfl (fun hb => by obtain rfl : b16 = true := hb; exact a_leq (lq rfl) rfl rfl) ?_
    refine sqa (a_pick_and (lq rfl) rfl rfl) ?_
    obtain ⟨b20, hb20, hsy1'⟩ := bE hsy1; clear hsy1
    refine sqa ((a_move_d (lq rfl) rfl).bool (Option.some.inj hb20)) ?_
    refine sq_g (x := .d (dby t13)) rfl rfl rfl (lq rfl) (lq rfl) rfl (fun hb => by obtain rfl := gF hb; exact a_move_d (lq rfl) rfl) ?_
    refine sq_g (x := .d (db (decide (97 ≤ t13)))) rfl rfl rfl (lq rfl) (lq rfl) rfl (fun hb => by obtain rfl := gF hb; exact a_geq (lq rfl) rfl rfl) ?_
    obtain ⟨b23, hb23, hsy1⟩ := bE hsy1'; clear hsy1'
    refine sq_g (x := .d (db b23)) rfl rfl rfl (lq rfl) (lq rfl) rfl (fun hb => by obtain rfl := gF hb; exact (a_move_d (lq rfl) rfl).bool (Option.some.inj hb23)) ?_
    refine sq_g2 (x := .d (dby t13)) rfl rfl rfl (lq rfl) (lq rfl) rfl (fun hb => by obtain ⟨hb, hb1⟩ := and_split hb; obtain rfl := gF hb; obtain rfl : b23 = true := hb1; exact a_move_d (lq rfl) rfl) ?_
    refine sq_g2 (x := .d (db (decide (t13 ≤ 122)))) rfl rfl rfl (lq rfl) (lq rfl) rfl (fun hb => by obtain ⟨hb, hb1⟩ := and_split hb; obtain rfl := gF hb; obtain rfl : b23 = true := hb1; exact a_leq (lq rfl) rfl rfl) ?_
    refine sq_g (x := .d (db (b23 && (decide (t13 ≤ 122))))) rfl rfl rfl (lq rfl) (lq rfl) rfl (fun hb => by obtain rfl := gF hb; exact a_pick_and (lq rfl) rfl rfl) ?_
    refine sqa (a_pick_or (lq rfl) rfl rfl) ?_
    obtain ⟨b28, hb28, hsy1'⟩ := bE hsy1; clear hsy1
    refine sqa ((a_move_d (lq rfl) rfl).bool (Option.some.inj hb28)) ?_
    refine sq_g (x := .d (dby t13)) rfl rfl rfl (lq rfl) (lq rfl) rfl (fun hb => by obtain rfl := gF hb; exact a_move_d (lq rfl) rfl) ?_
    refine sq_g (x := .d (db (decide (48 ≤ t13)))) rfl rfl rfl (lq rfl) (lq rfl) rfl (fun hb => by obtain rfl := gF hb; exact a_geq (lq rfl) rfl rfl) ?_
    obtain ⟨b31, hb31, hsy1⟩ := bE hsy1'; clear hsy1'
    refine sq_g (x := .d (db b31)) rfl rfl rfl (lq rfl) (lq rfl) rfl (fun hb => by obtain rfl := gF hb; exact (a_move_d (lq rfl) rfl).bool (Option.some.inj hb31)) ?_
    refine sq_g2 (x := .d (dby t13)) rfl rfl rfl (lq rfl) (lq rfl) rfl (fun hb => by obtain ⟨hb, hb1⟩ := and_split hb; obtain rfl := gF hb; obtain rfl : b31 = true := hb1; exact a_move_d (lq rfl) rfl) ?_
    refine sq_g2 (x := .d (db (decide (t13 ≤ 57)))) rfl rfl rfl (lq rfl) (lq rfl) rfl (fun hb => by obtain ⟨hb, hb1⟩ := and_split hb; obtain rfl := gF hb; obtain rfl : b31 = true := hb1; exact a_leq (lq rfl) rfl rfl) ?_
    refine sq_g (x := .d (db (b31 && (decide (t13 ≤ 57))))) rfl rfl rfl (lq rfl) (lq rfl) rfl (fun hb => by obtain rfl := gF hb; exact a_pick_and (lq rfl) rfl rfl) ?_
    refine sqa (a_pick_or (lq rfl) rfl rfl) ?_
    obtain ⟨b36, hb36, hsy1'⟩ := bE hsy1; clear hsy1
    refine sqa ((a_move_d (lq rfl) rfl).bool (Option.some.inj hb36)) ?_
    refine sq_g (x := .d (dby t13)) rfl rfl rfl (lq rfl) (lq rfl) rfl (fun hb => by obtain rfl := gF hb; exact a_move_d (lq rfl) rfl) ?_
    refine sq_g (x := .d (db (decide (t13 = 95)))) rfl rfl rfl (lq rfl) (lq rfl) rfl (fun hb => by obtain rfl := gF hb; exact a_eql (lq rfl) rfl rfl) ?_
    refine sqa (a_pick_or (lq rfl) rfl rfl) ?_
    refine sqa (a_not (lq rfl) rfl) ?_
    refine sq_nil ?_
    refine avc_if rfl ⟨fun c2 => ?_, fun c2 => ?_⟩
    ·
     replace hsy1' := cT c2 hsy1'
     refine avc_sq2 <| avc_sq ?_
     refine sqa (a_assign_d (lq rfl) rfl) ?_
     refine sq_nil ?_
     refine avc_ret ?_
     cases hsy1'
     intro q; cases q
     exact out_mk (weak_cov ⟨rfl, trivial⟩ trivial)
    ·
     replace hsy1' := cF c2 hsy1'
     refine avc_skip <| avc_sq ?_
     refine sqa (a_move_d (lq rfl) rfl) ?_
     refine sqa (m_add (lq rfl) rfl rfl) ?_
     refine sqa (a_assign_d (lq rfl) rfl) ?_
     refine sq_nil ?_
     cases hsy1'
     exact weak_cov ⟨rfl, rfl, trivial⟩ trivial
   ·
    replace hsy1 := cF c1 hsy1
    refine avc_exit ?_
    cases hsy1
    intro q; cases q
  ·
   cases h'
   exact ret_1 rfl

theorem ref43_groups_c  {a0 : Collation}  {r : Int} (h : ref43_groups a0 = some r) : Contract Tryd.prog 28 [(eCollation.dv a0)] [(di r)] := by
 refine contract_of Tryd.func28 (by kernel_rfl) rfl (lq rfl) (lq rfl) fun w0 I0 hI0 hG0 => ?_
 unfold ref43_groups at h
 refine avc_sq2 <| avc_sq ?_
 refine sqa (m_box (size := 5) (lq rfl) rfl rfl) ?_
 refine sqa (a_assign_d (lq rfl) rfl) ?_
 refine sq_nil <| avc_sq2 <| avc_sq ?_
 refine sqa (m_fieldPt (lq rfl) L25_1 rfl) ?_
 refine sqa (a_load_ip (lq rfl) O23 rfl rfl) ?_
 refine sqa (a_assign_d (lq rfl) rfl) ?_
 refine sq_nil <| avc_sq2 <| avc_sq2 <| avc_sq ?_
 refine sqa (a_assign_d (lq rfl) rfl) ?_
 refine sq_nil <| avc_block ?_
 obtain ⟨y1, hy1, h'⟩ := bE h; clear h
 rcases y1 with y1 | y1
 ·
  replace h' := eL h'
  refine avc_tail (e := .exit 0) (S2 := ⟨[(1, .d (.pt (eCollation.cells a0))), (3, .d (dsl eGroup a0.Groups))], []⟩) ?_ ?_
  ·
   refine avc_loopM (fun x => ⟨[(1, .d (.pt (eCollation.cells a0))), (3, .d (dsl eGroup a0.Groups)), (4, .d (di x))], []⟩) hy1 (weak_cov ⟨rfl, rfl, rfl, trivial⟩ trivial) ?_
   rintro v4 sy1 hsy1
   replace hsy1 : ref43_groups_L0 a0 v4 = some sy1 := hsy1
   unfold ref43_groups_L0 at hsy1
   refine avc_sq2 <| avc_sq2 <| avc_sq ?_
   refine sqa (a_move_d (lq rfl) rfl) ?_
   refine sqa (a_move_d (lq rfl) rfl) ?_
   refine sqa (m_len (en := eGroup) (l := a0.Groups) (lq rfl) S23 rfl) ?_
   refine sqa (a_lss (lq rfl) rfl rfl) ?_
   refine sq_nil ?_
   refine avc_if rfl ⟨fun c1 => ?_, fun c1 => ?_⟩
   ·
    replace hsy1 := cT c1 hsy1
    refine avc_skip <| avc_sq2 <| avc_block <| avc_sq2 <| avc_sq ?_
    refine sqa (a_move_d (lq rfl) rfl) ?_
    refine sqa (a_move_d (lq rfl) rfl) ?_
    obtain ⟨t19, ht19, hsy1'⟩ := bE hsy1; clear hsy1
    refine sqa (m_index (en := eGroup) (lq rfl) S23 rfl rfl ht19) ?_
    refine sqa (a_fieldAddr_ip (lq rfl) L80_0 rfl) ?_
    refine sqa (m_loadE (en := eGroup) (l := a0.Groups) (i := v4) (v := t19) (off := 0) (lq rfl) O9 rfl ht19 rfl) ?_
    obtain ⟨t22, ht22, hsy1⟩ := bE hsy1'; clear hsy1'
    refine sqa (a_call (lq rfl) rfl (ref11_Name_c ht22)) ?_
    refine sqa (a_not (lq rfl) rfl) ?_
    refine sq_nil ?_
    refine avc_if rfl ⟨fun c2 => ?_, fun c2 => ?_⟩
    ·
     replace hsy1 := cT c2 hsy1
     refine avc_sq2 <| avc_sq ?_
     refine sqa (a_assign_d (lq rfl) rfl) ?_
     refine sq_nil ?_
     refine avc_ret ?_
     cases hsy1
     intro q; cases q
    ·
     replace hsy1 := cF c2 hsy1
     refine avc_skip <| avc_sq ?_
     refine sqa (a_move_d (lq rfl) rfl) ?_
     refine sqa (m_add (lq rfl) rfl rfl) ?_
     refine sqa (a_assign_d (lq rfl) rfl) ?_
     refine sq_nil ?_
     cases hsy1
     exact weak_cov ⟨rfl, rfl, rfl, trivial⟩ trivial
   ·
    replace hsy1 := cF c1 hsy1
    refine avc_exit ?_
    cases hsy1
    intro q; cases q
    exact out_mk (weak_cov ⟨rfl, rfl, trivial⟩ trivial)
  ·
   refine avc_sq2 <| avc_sq2 <| avc_sq ?_
   refine sqa (a_assign_d (lq rfl) rfl) ?_
   refine sq_nil <| avc_block ?_
   obtain ⟨y2, hy2, h⟩ := bE h'; clear h'
   rcases y2 with y2 | y2
   ·
    replace h := eL h
    refine avc_tail (e := .exit 2) (S2 := ⟨[(1, .d (.pt (eCollation.cells a0))), (3, .d (dsl eGroup a0.Groups))], []⟩) ?_ ?_
    ·
     refine avc_loopM (fun x => ⟨[(1, .d (.pt (eCollation.cells a0))), (3, .d (dsl eGroup a0.Groups)), (5, .d (di x))], []⟩) hy2 (weak_cov ⟨rfl, rfl, rfl, trivial⟩ trivial) ?_
     rintro v5 sy2 hsy2
     replace hsy2 : ref43_groups_L1 a0 v5 = some sy2 := hsy2
     unfold ref43_groups_L1 at hsy2
     refine avc_sq2 <| avc_sq2 <| avc_sq ?_
     refine sqa (a_move_d (lq rfl) rfl) ?_
     refine sqa (a_move_d (lq rfl) rfl) ?_
     refine sqa (m_len (en := eGroup) (l := a0.Groups) (lq rfl) S23 rfl) ?_
     refine sqa (a_lss (lq rfl) rfl rfl) ?_
     refine sq_nil ?_
     refine avc_if rfl ⟨fun c3 => ?_, fun c3 => ?_⟩
     ·
      replace hsy2 := cT c3 hsy2
      refine avc_skip <| avc_sq2 <| avc_block <| avc_sq2 <| avc_sq ?_
      refine sqa (a_assign_d (lq rfl) rfl) ?_
      refine sq_nil <| avc_block ?_
      obtain ⟨y3, hy3, hsy2'⟩ := bE hsy2; clear hsy2
      rcases y3 with y3 | y3
      ·
       replace hsy2' := eL hsy2'
       refine avc_tail (e := .exit 4) (S2 := ⟨[(1, .d (.pt (eCollation.cells a0))), (3, .d (dsl eGroup a0.Groups)), (5, .d (di v5))], []⟩) ?_ ?_
       ·
        refine avc_loopM (fun x => ⟨[(1, .d (.pt (eCollation.cells a0))), (3, .d (dsl eGroup a0.Groups)), (5, .d (di v5)), (6, .d (di x))], []⟩) hy3 (weak_cov ⟨rfl, rfl, rfl, rfl, trivial⟩ trivial) ?_
        rintro v6 sy3 hsy3
        replace hsy3 : ref43_groups_L2 v5 a0 v6 = some sy3 := hsy3
        unfold ref43_groups_L2 at hsy3
        refine avc_sq2 <| avc_sq2 <| avc_sq ?_
        refine sqa (a_move_d (lq rfl) rfl) ?_
        refine sqa (a_move_d (lq rfl) rfl) ?_
        refine sqa (a_lss (lq rfl) rfl rfl) ?_
        refine sq_nil ?_
        refine avc_if rfl ⟨fun c4 => ?_, fun c4 => ?_⟩
        ·
         replace hsy3 := cT c4 hsy3
         refine avc_skip <| avc_sq2 <| avc_block <| avc_sq2 ?_
         refine avc_drawA MX rfl ?_
         refine daa (a_move_d (lq rfl) rfl) ?_
         refine daa (a_move_d (lq rfl) rfl) ?_
         obtain ⟨t37, ht37, hsy3'⟩ := bE hsy3; clear hsy3
         refine daa (m_index (en := eGroup) (lq rfl) S23 rfl rfl ht37) ?_
         refine daa (a_fieldAddr_ip (lq rfl) L80_0 rfl) ?_
         refine daa (m_loadE (en := eGroup) (l := a0.Groups) (i := v6) (v := t37) (off := 0) (lq rfl) O9 rfl ht37 rfl) ?_
         refine daa (a_move_d (lq rfl) rfl) ?_
         refine daa (a_move_d (lq rfl) rfl) ?_
         obtain ⟨t42, ht42, hsy3⟩ := bE hsy3'; clear hsy3'
         refine daa (m_index (en := eGroup) (lq rfl) S23 rfl rfl ht42) ?_
         refine daa (a_fieldAddr_ip (lq rfl) L80_0 rfl) ?_
         refine daa (m_loadE (en := eGroup) (l := a0.Groups) (i := v5) (v := t42) (off := 0) (lq rfl) O9 rfl ht42 rfl) ?_
         refine daa (m_seql (a := t37.Name) (b := t42.Name) (lq rfl) rfl rfl) ?_
         refine da_nil ?_
         refine avc_if rfl ⟨fun c5 => ?_, fun c5 => ?_⟩
         ·
          replace hsy3 := cT c5 hsy3
          refine avc_sq2 <| avc_sq ?_
          refine sqa (a_assign_d (lq rfl) rfl) ?_
          refine sq_nil ?_
          refine avc_ret ?_
          cases hsy3
          intro q; cases q
         ·
          replace hsy3 := cF c5 hsy3
          refine avc_skip <| avc_sq ?_
          refine sqa (a_move_d (lq rfl) rfl) ?_
          refine sqa (m_add (lq rfl) rfl rfl) ?_
          refine sqa (a_assign_d (lq rfl) rfl) ?_
          refine sq_nil ?_
          cases hsy3
          exact weak_cov ⟨rfl, rfl, rfl, rfl, trivial⟩ trivial
        ·
         replace hsy3 := cF c4 hsy3
         refine avc_exit ?_
         cases hsy3
         intro q; cases q
         exact out_mk (weak_cov ⟨rfl, rfl, rfl, trivial⟩ trivial)
       ·
        refine avc_sq ?_
        refine sqa (a_move_d (lq rfl) rfl) ?_
        refine sqa (m_add (lq rfl) rfl rfl) ?_
        refine sqa (a_assign_d (lq rfl) rfl) ?_
        refine sq_nil ?_
        cases hsy2'
        exact weak_cov ⟨rfl, rfl, rfl, trivial⟩ trivial
      ·
       replace hsy2' := eR hsy2'
       refine avc_tail (e := .ret) (S2 := ⟨[(2, .d (di y3))], []⟩) ?_ ?_
       ·
        refine avc_loopM (fun x => ⟨[(1, .d (.pt (eCollation.cells a0))), (3, .d (dsl eGroup a0.Groups)), (5, .d (di v5)), (6, .d (di x))], []⟩) hy3 (weak_cov ⟨rfl, rfl, rfl, rfl, trivial⟩ trivial) ?_
        rintro v6 sy3 hsy3
        replace hsy3 : ref43_groups_L2 v5 a0 v6 = some sy3 := hsy3
        unfold ref43_groups_L2 at hsy3
        refine avc_sq2 <| avc_sq2 <| avc_sq ?_
        refine sqa (a_move_d (lq rfl) rfl) ?_
        refine sqa (a_move_d (lq rfl) rfl) ?_
        refine sqa (a_lss (lq rfl) rfl rfl) ?_
        refine sq_nil ?_
        refine avc_if rfl ⟨fun c4 => ?_, fun c4 => ?_⟩
        ·
         replace hsy3 := cT c4 hsy3
         refine avc_skip <| avc_sq2 <| avc_block <| avc_sq2 ?_
         refine avc_drawA MX rfl ?_
         refine daa (a_move_d (lq rfl) rfl) ?_
         refine daa (a_move_d (lq rfl) rfl) ?_
         obtain ⟨t37, ht37, hsy3'⟩ := bE hsy3; clear hsy3
         refine daa (m_index (en := eGroup) (lq rfl) S23 rfl rfl ht37) ?_
         refine daa (a_fieldAddr_ip (lq rfl) L80_0 rfl) ?_
         refine daa (m_loadE (en := eGroup) (l := a0.Groups) (i := v6) (v := t37) (off := 0) (lq rfl) O9 rfl ht37 rfl) ?_
         refine daa (a_move_d (lq rfl) rfl) ?_
         refine daa (a_move_d (lq rfl) rfl) ?_
         obtain ⟨t42, ht42, hsy3⟩ := bE hsy3'; clear hsy3'
         refine daa (m_index (en := eGroup) (lq rfl) S23 rfl rfl ht42) ?_
         refine daa (a_fieldAddr_ip (lq rfl) L80_0 rfl) ?_
         refine daa (m_loadE (en := eGroup) (l := a0.Groups) (i := v5) (v := t42) (off := 0) (lq rfl) O9 rfl ht42 rfl) ?_
         refine daa (m_seql (a := t37.Name) (b := t42.Name) (lq rfl) rfl rfl) ?_
         refine da_nil ?_
         refine avc_if rfl ⟨fun c5 => ?_, fun c5 => ?_⟩
         ·
          replace hsy3 := cT c5 hsy3
          refine avc_sq2 <| avc_sq ?_
          refine sqa (a_assign_d (lq rfl) rfl) ?_
          refine sq_nil ?_
          refine avc_ret ?_
          cases hsy3
          intro q; cases q
          exact out_mk (weak_cov ⟨rfl, trivial⟩ trivial)
         ·
          replace hsy3 := cF c5 hsy3
          refine avc_skip <| avc_sq ?_
          refine sqa (a_move_d (lq rfl) rfl) ?_
          refine sqa (m_add (lq rfl) rfl rfl) ?_
          refine sqa (a_assign_d (lq rfl) rfl) ?_
          refine sq_nil ?_
          cases hsy3
          exact weak_cov ⟨rfl, rfl, rfl, rfl, trivial⟩ trivial
        ·
         replace hsy3 := cF c4 hsy3
         refine avc_exit ?_
         cases hsy3
         intro q; cases q
       ·
        cases hsy2'
        intro q; cases q
     ·
      replace hsy2 := cF c3 hsy2
      refine avc_exit ?_
      cases hsy2
      intro q; cases q
      exact out_mk (weak_cov ⟨rfl, rfl, trivial⟩ trivial)
    ·
     refine avc_sq2 <| avc_sq2 <| avc_sq ?_
     refine sqa (a_assign_d (lq rfl) rfl) ?_
     refine sq_nil <| avc_block ?_
     obtain ⟨y4, hy4, h'⟩ := bE h; clear h
     rcases y4 with y4 | y4
     ·
      replace h' := eL h'
      refine avc_tail (e := .exit 6) (S2 := ⟨[(3, .d (dsl eGroup a0.Groups))], []⟩) ?_ ?_
      ·
       refine avc_loopM (fun x => ⟨[(1, .d (.pt (eCollation.cells a0))), (3, .d (dsl eGroup a0.Groups)), (7, .d (di x))], []⟩) hy4 (weak_cov ⟨rfl, rfl, rfl, trivial⟩ trivial) ?_
       rintro v7 sy4 hsy4
       replace hsy4 : ref43_groups_L3 a0 v7 = some sy4 := hsy4
       unfold ref43_groups_L3 at hsy4
       refine avc_sq2 <| avc_sq2 <| avc_sq ?_
       refine sqa (a_move_d (lq rfl) rfl) ?_
       refine sqa (a_move_d (lq rfl) rfl) ?_
       refine sqa (m_len (en := eGroup) (l := a0.Groups) (lq rfl) S23 rfl) ?_
       refine sqa (a_lss (lq rfl) rfl rfl) ?_
       refine sq_nil ?_
       refine avc_if rfl ⟨fun c6 => ?_, fun c6 => ?_⟩
       ·
        replace hsy4 := cT c6 hsy4
        refine avc_skip <| avc_sq2 <| avc_block <| avc_sq2 ?_
        refine avc_drawA MX rfl ?_
        refine daa (a_move_d (lq rfl) rfl) ?_
        refine daa (a_move_d (lq rfl) rfl) ?_
        obtain ⟨t54, ht54, hsy4'⟩ := bE hsy4; clear hsy4
        refine daa (m_index (en := eGroup) (lq rfl) S23 rfl rfl ht54) ?_
        refine daa (a_fieldAddr_ip (lq rfl) L80_1 rfl) ?_
        refine daa (m_loadE (en := eGroup) (l := a0.Groups) (i := v7) (v := t54) (off := 1) (lq rfl) O3 rfl ht54 rfl) ?_
        refine daa (a_lss (lq rfl) rfl rfl) ?_
        obtain ⟨b58, hb58, hsy4⟩ := bE hsy4'; clear hsy4'
        refine daa ((a_move_d (lq rfl) rfl).bool (Option.some.inj hb58)) ?_
        refine da_g (x := .d (dsl eGroup a0.Groups)) rfl rfl rfl (lq rfl) (lq rfl) rfl (fun hb => by obtain rfl := gF hb; exact a_move_d (lq rfl) rfl) ?_
        refine da_g (x := .d (di v7)) rfl rfl rfl (lq rfl) (lq rfl) rfl (fun hb => by obtain rfl := gF hb; exact a_move_d (lq rfl) rfl) ?_
        obtain ⟨t61, ht61, hsy4'⟩ := bE hsy4; clear hsy4
        refine da_g (x := .ip (eGroup.all a0.Groups) (v7.toNat * eGroup.size)) rfl rfl rfl (lq rfl) (lq rfl) rfl (fun hb => by obtain rfl := gF hb; exact m_index (en := eGroup) (lq rfl) S23 rfl rfl ht61) ?_
        refine da_g (x := .ip (eGroup.all a0.Groups) (v7.toNat * eGroup.size + 2)) rfl rfl rfl (lq rfl) (lq rfl) rfl (fun hb => by obtain rfl := gF hb; exact a_fieldAddr_ip (lq rfl) L80_2 rfl) ?_
        refine da_g (x := .d (di t61.Hi)) rfl rfl rfl (lq rfl) (lq rfl) rfl (fun hb => by obtain rfl := gF hb; exact m_loadE (en := eGroup) (l := a0.Groups) (i := v7) (v := t61) (off := 2) (lq rfl) O3 rfl ht61 rfl) ?_
        refine da_g (x := .d (dsl eGroup a0.Groups)) rfl rfl rfl (lq rfl) (lq rfl) rfl (fun hb => by obtain rfl := gF hb; exact a_move_d (lq rfl) rfl) ?_
        refine da_g (x := .d (di v7)) rfl rfl rfl (lq rfl) (lq rfl) rfl (fun hb => by obtain rfl := gF hb; exact a_move_d (lq rfl) rfl) ?_
        obtain ⟨t66, ht66, hsy4⟩ := bE hsy4'; clear hsy4'
        refine da_g (x := .ip (eGroup.all a0.Groups) (v7.toNat * eGroup.size)) rfl rfl rfl (lq rfl) (lq rfl) rfl (fun hb => by obtain rfl := gF hb; exact m_index (en := eGroup) (lq rfl) S23 rfl rfl ht66) ?_
        refine da_g (x := .ip (eGroup.all a0.Groups) (v7.toNat * eGroup.size + 1)) rfl rfl rfl (lq rfl) (lq rfl) rfl (fun hb => by obtain rfl := gF hb; exact a_fieldAddr_ip (lq rfl) L80_1 rfl) ?_
        refine da_g (x := .d (di t66.Lo)) rfl rfl rfl (lq rfl) (lq rfl) rfl (fun hb => by obtain rfl := gF hb; exact m_loadE (en := eGroup) (l := a0.Groups) (i := v7) (v := t66) (off := 1) (lq rfl) O3 rfl ht66 rfl) ?_
        refine da_g (x := .d (db (decide (t61.Hi < t66.Lo)))) rfl rfl rfl (lq rfl) (lq rfl) rfl (fun hb => by obtain rfl := gF hb; exact a_lss (lq rfl) rfl rfl) ?_
        refine daa (a_pick_or (lq rfl) rfl rfl) ?_
        obtain ⟨b71, hb71, hsy4'⟩ := bE hsy4; clear hsy4
        refine daa ((a_move_d (lq rfl) rfl).bool (Option.some.inj hb71)) ?_
        refine da_g (x := .d (dsl eGroup a0.Groups)) rfl rfl rfl (lq rfl) (lq rfl) rfl (fun hb => by obtain rfl := gF hb; exact a_move_d (lq rfl) rfl) ?_
        refine da_g (x := .d (di v7)) rfl rfl rfl (lq rfl) (lq rfl) rfl (fun hb => by obtain rfl := gF hb; exact a_move_d (lq rfl) rfl) ?_
        obtain ⟨t74, ht74, hsy4⟩ := bE hsy4'; clear hsy4'
        refine da_g (x := .ip (eGroup.all a0.Groups) (v7.toNat * eGroup.size)) rfl rfl rfl (lq rfl) (lq rfl) rfl (fun hb => by obtain rfl := gF hb; exact m_index (en := eGroup) (lq rfl) S23 rfl rfl ht74) ?_
        refine da_g (x := .ip (eGroup.all a0.Groups) (v7.toNat * eGroup.size + 2)) rfl rfl rfl (lq rfl) (lq rfl) rfl (fun hb => by obtain rfl := gF hb; exact a_fieldAddr_ip (lq rfl) L80_2 rfl) ?_
        refine da_g (x := .d (di t74.Hi)) rfl rfl rfl (lq rfl) (lq rfl) rfl (fun hb => by obtain rfl := gF hb; exact m_loadE (en := eGroup) (l := a0.Groups) (i := v7) (v := t74) (off := 2) (lq rfl) O3 rfl ht74 rfl) ?_
        refine da_g (x := .ip (eCollation.cells a0) (0 + 2)) rfl rfl rfl (lq rfl) (lq rfl) rfl (fun hb => by obtain rfl := gF hb; exact m_fieldPt (lq rfl) L25_2 rfl) ?_
        refine da_g (x := .d (di a0.Base)) rfl rfl rfl (lq rfl) (lq rfl) rfl (fun hb => by obtain rfl := gF hb; exact a_load_ip (lq rfl) O3 rfl rfl) ?_
        refine da_g (x := .d (db (decide (a0.Base ≤ t74.Hi)))) rfl rfl rfl (lq rfl) (lq rfl) rfl (fun hb => by obtain rfl := gF hb; exact a_geq (lq rfl) rfl rfl) ?_
        refine daa (a_pick_or (lq rfl) rfl rfl) ?_
        refine da_nil ?_
        refine avc_if rfl ⟨fun c7 => ?_, fun c7 => ?_⟩
        ·
         replace hsy4 := cT c7 hsy4
         refine avc_sq2 <| avc_sq ?_
         refine sqa (a_assign_d (lq rfl) rfl) ?_
         refine sq_nil ?_
         refine avc_ret ?_
         cases hsy4
         intro q; cases q
        ·
         replace hsy4 := cF c7 hsy4
         refine avc_skip <| avc_sq ?_
         refine sqa (a_move_d (lq rfl) rfl) ?_
         refine sqa (m_add (lq rfl) rfl rfl) ?_
         refine sqa (a_assign_d (lq rfl) rfl) ?_
         refine sq_nil ?_
         cases hsy4
         exact weak_cov ⟨rfl, rfl, rfl, trivial⟩ trivial
       ·
        replace hsy4 := cF c6 hsy4
        refine avc_exit ?_
        cases hsy4
        intro q; cases q
        exact out_mk (weak_cov ⟨rfl, trivial⟩ trivial)
      ·
       refine avc_sq2 <| avc_sq2 <| avc_sq ?_
       refine sqa (a_assign_d (lq rfl) rfl) ?_
       refine sq_nil <| avc_block ?_
       obtain ⟨y5, hy5, h⟩ := bE h'; clear h'
       rcases y5 with y5 | y5
       ·
        replace h := eL h
        refine avc_tail (e := .exit 8) (S2 := ⟨[], []⟩) ?_ ?_
        ·
         refine avc_loopM (fun x => ⟨[(3, .d (dsl eGroup a0.Groups)), (8, .d (di x))], []⟩) hy5 (weak_cov ⟨rfl, rfl, trivial⟩ trivial) ?_
         rintro v8 sy5 hsy5
         replace hsy5 : ref43_groups_L4 a0 v8 = some sy5 := hsy5
         unfold ref43_groups_L4 at hsy5
         refine avc_sq2 <| avc_sq2 <| avc_sq ?_
         refine sqa (a_move_d (lq rfl) rfl) ?_
         refine sqa (a_move_d (lq rfl) rfl) ?_
         refine sqa (m_len (en := eGroup) (l := a0.Groups) (lq rfl) S23 rfl) ?_
         refine sqa (a_lss (lq rfl) rfl rfl) ?_
         refine sq_nil ?_
         refine avc_if rfl ⟨fun c8 => ?_, fun c8 => ?_⟩
         ·
          replace hsy5 := cT c8 hsy5
          refine avc_skip <| avc_sq2 <| avc_block <| avc_sq2 ?_
          refine avc_drawA MX rfl ?_
          refine daa (a_move_d (lq rfl) rfl) ?_
          refine daa (a_move_d (lq rfl) rfl) ?_
          obtain ⟨t89, ht89, hsy5'⟩ := bE hsy5; clear hsy5
          refine daa (m_index (en := eGroup) (lq rfl) S23 rfl rfl ht89) ?_
          refine daa (a_fieldAddr_ip (lq rfl) L80_1 rfl) ?_
          refine daa (m_loadE (en := eGroup) (l := a0.Groups) (i := v8) (v := t89) (off := 1) (lq rfl) O3 rfl ht89 rfl) ?_
          refine daa (a_move_d (lq rfl) rfl) ?_
          refine daa (a_move_d (lq rfl) rfl) ?_
          refine daa (m_sub (lq rfl) rfl rfl) ?_
          obtain ⟨t95, ht95, hsy5⟩ := bE hsy5'; clear hsy5'
          refine daa (m_index (en := eGroup) (lq rfl) S23 rfl rfl ht95) ?_
          refine daa (a_fieldAddr_ip (lq rfl) L80_2 rfl) ?_
          refine daa (m_loadE (en := eGroup) (l := a0.Groups) (i := (wi (v8 - 1))) (v := t95) (off := 2) (lq rfl) O3 rfl ht95 rfl) ?_
          refine daa (m_add (lq rfl) rfl rfl) ?_
          refine daa (a_neq (lq rfl) rfl rfl) ?_
          refine da_nil ?_
          refine avc_if rfl ⟨fun c9 => ?_, fun c9 => ?_⟩
          ·
           replace hsy5 := cT c9 hsy5
           refine avc_sq2 <| avc_sq ?_
           refine sqa (a_assign_d (lq rfl) rfl) ?_
           refine sq_nil ?_
           refine avc_ret ?_
           cases hsy5
           intro q; cases q
          ·
           replace hsy5 := cF c9 hsy5
           refine avc_skip <| avc_sq ?_
           refine sqa (a_move_d (lq rfl) rfl) ?_
           refine sqa (m_add (lq rfl) rfl rfl) ?_
           refine sqa (a_assign_d (lq rfl) rfl) ?_
           refine sq_nil ?_
           cases hsy5
           exact weak_cov ⟨rfl, rfl, trivial⟩ trivial
         ·
          replace hsy5 := cF c8 hsy5
          refine avc_exit ?_
          cases hsy5
          intro q; cases q
          exact out_mk (weak_cov trivial trivial)
        ·
         refine avc_sq2 <| avc_sq ?_
         refine sqa (a_assign_d (lq rfl) rfl) ?_
         refine sq_nil ?_
         cases h
         refine avc_ret ?_
         exact ret_1 rfl
       ·
        replace h := eR h
        refine avc_tail (e := .ret) (S2 := ⟨[(2, .d (di y5))], []⟩) ?_ ?_
        ·
         refine avc_loopM (fun x => ⟨[(3, .d (dsl eGroup a0.Groups)), (8, .d (di x))], []⟩) hy5 (weak_cov ⟨rfl, rfl, trivial⟩ trivial) ?_
         rintro v8 sy5 hsy5
         replace hsy5 : ref43_groups_L4 a0 v8 = some sy5 := hsy5
         unfold ref43_groups_L4 at hsy5
         refine avc_sq2 <| avc_sq2 <| avc_sq ?_
         refine sqa (a_move_d (lq rfl) rfl) ?_
         refine sqa (a_move_d (lq rfl) rfl) ?_
         refine sqa (m_len (en := eGroup) (l := a0.Groups) (lq rfl) S23 rfl) ?_
         refine sqa (a_lss (lq rfl) rfl rfl) ?_
         refine sq_nil ?_
         refine avc_if rfl ⟨fun c8 => ?_, fun c8 => ?_⟩
         ·
          replace hsy5 := cT c8 hsy5
          refine avc_skip <| avc_sq2 <| avc_block <| avc_sq2 ?_
          refine avc_drawA MX rfl ?_
          refine daa (a_move_d (lq rfl) rfl) ?_
          refine daa (a_move_d (lq rfl) rfl) ?_
          obtain ⟨t89, ht89, hsy5'⟩ := bE hsy5; clear hsy5
          refine daa (m_index (en := eGroup) (lq rfl) S23 rfl rfl ht89) ?_
          refine daa (a_fieldAddr_ip (lq rfl) L80_1 rfl) ?_
          refine daa (m_loadE (en := eGroup) (l := a0.Groups) (i := v8) (v := t89) (off := 1) (lq rfl) O3 rfl ht89 rfl) ?_
          refine daa (a_move_d (lq rfl) rfl) ?_
          refine daa (a_move_d (lq rfl) rfl) ?_
          refine daa (m_sub (lq rfl) rfl rfl) ?_
          obtain ⟨t95, ht95, hsy5⟩ := bE hsy5'; clear hsy5'
          refine daa (m_index (en := eGroup) (lq rfl) S23 rfl rfl ht95) ?_
          refine daa (a_fieldAddr_ip (lq rfl) L80_2 rfl) ?_
          refine daa (m_loadE (en := eGroup) (l := a0.Groups) (i := (wi (v8 - 1))) (v := t95) (off := 2) (lq rfl) O3 rfl ht95 rfl) ?_
          refine daa (m_add (lq rfl) rfl rfl) ?_
          refine daa (a_neq (lq rfl) rfl rfl) ?_
          refine da_nil ?_
          refine avc_if rfl ⟨fun c9 => ?_, fun c9 => ?_⟩
          ·
           replace hsy5 := cT c9 hsy5
           refine avc_sq2 <| avc_sq ?_
           refine sqa (a_assign_d (lq rfl) rfl) ?_
           refine sq_nil ?_
           refine avc_ret ?_
           cases hsy5
           intro q; cases q
           exact out_mk (weak_cov ⟨rfl, trivial⟩ trivial)
          ·
           replace hsy5 := cF c9 hsy5
           refine avc_skip <| avc_sq ?_
           refine sqa (a_move_d (lq rfl) rfl) ?_
           refine sqa (m_add (lq rfl) rfl rfl) ?_
           refine sqa (a_assign_d (lq rfl) rfl) ?_
           refine sq_nil ?_
           cases hsy5
           exact weak_cov ⟨rfl, rfl, trivial⟩ trivial
         ·
          replace hsy5 := cF c8 hsy5
          refine avc_exit ?_
          cases hsy5
          intro q; cases q
        ·
         cases h
         exact ret_1 rfl
     ·
      replace h' := eR h'
      refine avc_tail (e := .ret) (S2 := ⟨[(2, .d (di y4))], []⟩) ?_ ?_
      ·
       refine avc_loopM (fun x => ⟨[(1, .d (.pt (eCollation.cells a0))), (3, .d (dsl eGroup a0.Groups)), (7, .d (di x))], []⟩) hy4 (weak_cov ⟨rfl, rfl, rfl, trivial⟩ trivial) ?_
       rintro v7 sy4 hsy4
       replace hsy4 : ref43_groups_L3 a0 v7 = some sy4 := hsy4
       unfold ref43_groups_L3 at hsy4
       refine avc_sq2 <| avc_sq2 <| avc_sq ?_
       refine sqa (a_move_d (lq rfl) rfl) ?_
       refine sqa (a_move_d (lq rfl) rfl) ?_
       refine sqa (m_len (en := eGroup) (l := a0.Groups) (lq rfl) S23 rfl) ?_
       refine sqa (a_lss (lq rfl) rfl rfl) ?_
       refine sq_nil ?_
       refine avc_if rfl ⟨fun c6 => ?_, fun c6 => ?_⟩
       ·
        replace hsy4 := cT c6 hsy4
        refine avc_skip <| avc_sq2 <| avc_block <| avc_sq2 ?_
        refine avc_drawA MX rfl ?_
        refine daa (a_move_d (lq rfl) rfl) ?_
        refine daa (a_move_d (lq rfl) rfl) ?_
        obtain ⟨t54, ht54, hsy4'⟩ := bE hsy4; clear hsy4
        refine daa (m_index (en := eGroup) (lq rfl) S23 rfl rfl ht54) ?_
        refine daa (a_fieldAddr_ip (lq rfl) L80_1 rfl) ?_
        refine daa (m_loadE (en := eGroup) (l := a0.Groups) (i := v7) (v := t54) (off := 1) (lq rfl) O3 rfl ht54 rfl) ?_
        refine daa (a_lss (lq rfl) rfl rfl) ?_
        obtain ⟨b58, hb58, hsy4⟩ := bE hsy4'; clear hsy4'
        refine daa ((a_move_d (lq rfl) rfl).bool (Option.some.inj hb58)) ?_
        refine da_g (x := .d (dsl eGroup a0.Groups)) rfl rfl rfl (lq rfl) (lq rfl) rfl (fun hb => by obtain rfl := gF hb; exact a_move_d (lq rfl) rfl) ?_
        refine da_g (x := .d (di v7)) rfl rfl rfl (lq rfl) (lq rfl) rfl (fun hb => by obtain rfl := gF hb; exact a_move_d (lq rfl) rfl) ?_
        obtain ⟨t61, ht61, hsy4'⟩ := bE hsy4; clear hsy4
        refine da_g (x := .ip (eGroup.all a0.Groups) (v7.toNat * eGroup.size)) rfl rfl rfl (lq rfl) (lq rfl) rfl (fun hb => by obtain rfl := gF hb; exact m_index (en := eGroup) (lq rfl) S23 rfl rfl ht61) ?_
        refine da_g (x := .ip (eGroup.all a0.Groups) (v7.toNat * eGroup.size + 2)) rfl rfl rfl (lq rfl) (lq rfl) rfl (fun hb => by obtain rfl := gF hb; exact a_fieldAddr_ip (lq rfl) L80_2 rfl) ?_
        refine da_g (x := .d (di t61.Hi)) rfl rfl rfl (lq rfl) (lq rfl) rfl (fun hb => by obtain rfl := gF hb; exact m_loadE (en := eGroup) (l := a0.Groups) (i := v7) (v := t61) (off := 2) (lq rfl) O3 rfl ht61 rfl) ?_
        refine da_g (x := .d (dsl eGroup a0.Groups)) rfl rfl rfl (lq rfl) (lq rfl) rfl (fun hb => by obtain rfl := gF hb; exact a_move_d (lq rfl) rfl) ?_
        refine da_g (x := .d (di v7)) rfl rfl rfl (lq rfl) (lq rfl) rfl (fun hb => by obtain rfl := gF hb; exact a_move_d (lq rfl) rfl) ?_
        obtain ⟨t66, ht66, hsy4⟩ := bE hsy4'; clear hsy4'
        refine da_g (x := .ip (eGroup.all a0.Groups) (v7.toNat * eGroup.size)) rfl rfl rfl (lq rfl) (lq rfl) rfl (fun hb => by obtain rfl := gF hb; exact m_index (en := eGroup) (lq rfl) S23 rfl rfl ht66) ?_
        refine da_g (x := .ip (eGroup.all a0.Groups) (v7.toNat * eGroup.size + 1)) rfl rfl rfl (lq rfl) (lq rfl) rfl (fun hb => by obtain rfl := gF hb; exact a_fieldAddr_ip (lq rfl) L80_1 rfl) ?_
        refine da_g (x := .d (di t66.Lo)) rfl rfl rfl (lq rfl) (lq rfl) rfl (fun hb => by obtain rfl := gF hb; exact m_loadE (en := eGroup) (l := a0.Groups) (i := v7) (v := t66) (off := 1) (lq rfl) O3 rfl ht66 rfl) ?_
        refine da_g (x := .d (db (decide (t61.Hi < t66.Lo)))) rfl rfl rfl (lq rfl) (lq rfl) rfl (fun hb => by obtain rfl := gF hb; exact a_lss (lq rfl) rfl rfl) ?_
        refine daa (a_pick_or (lq rfl) rfl rfl) ?_
        obtain ⟨b71, hb71, hsy4'⟩ := bE hsy4; clear hsy4
        refine daa ((a_move_d (lq rfl) rfl).bool (Option.some.inj hb71)) ?_
        refine da_g (x := .d (dsl eGroup a0.Groups)) rfl rfl rfl (lq rfl) (lq rfl) rfl (fun hb => by obtain rfl := gF hb; exact a_move_d (lq rfl) rfl) ?_
        refine da_g (x := .d (di v7)) rfl rfl rfl (lq rfl) (lq rfl) rfl (fun hb => by obtain rfl := gF hb; exact a_move_d (lq rfl) rfl) ?_
        obtain ⟨t74, ht74, hsy4⟩ := bE hsy4'; clear hsy4'
        refine da_g (x := .ip (eGroup.all a0.Groups) (v7.toNat * eGroup.size)) rfl rfl rfl (lq rfl) (lq rfl) rfl (fun hb => by obtain rfl := gF hb; exact m_index (en := eGroup) (lq rfl) S23 rfl rfl ht74) ?_
        refine da_g (x := .ip (eGroup.all a0.Groups) (v7.toNat * eGroup.size + 2)) rfl rfl rfl (lq rfl) (lq rfl) rfl (fun hb => by obtain rfl := gF hb; exact a_fieldAddr_ip (lq rfl) L80_2 rfl) ?_
        refine da_g (x := .d (di t74.Hi)) rfl rfl rfl (lq rfl) (lq rfl) rfl (fun hb => by obtain rfl := gF hb; exact m_loadE (en := eGroup) (l := a0.Groups) (i := v7) (v := t74) (off := 2) (lq rfl) O3 rfl ht74 rfl) ?_
        refine da_g (x := .ip (eCollation.cells a0) (0 + 2)) rfl rfl rfl (lq rfl) (lq rfl) rfl (fun hb => by obtain rfl := gF hb; exact m_fieldPt (lq rfl) L25_2 rfl) ?_
        refine da_g (x := .d (di a0.Base)) rfl rfl rfl (lq rfl) (lq rfl) rfl (fun hb => by obtain rfl := gF hb; exact a_load_ip (lq rfl) O3 rfl rfl) ?_
        refine da_g (x := .d (db (decide (a0.Base ≤ t74.Hi)))) rfl rfl rfl (lq rfl) (lq rfl) rfl (fun hb => by obtain rfl := gF hb; exact a_geq (lq rfl) rfl rfl) ?_
        refine daa (a_pick_or (lq rfl) rfl rfl) ?_
        refine da_nil ?_
        refine avc_if rfl ⟨fun c7 => ?_, fun c7 => ?_⟩
        ·
         replace hsy4 := cT c7 hsy4
         refine avc_sq2 <| avc_sq ?_
         refine sqa (a_assign_d (lq rfl) rfl) ?_
         refine sq_nil ?_
         refine avc_ret ?_
         cases hsy4
         intro q; cases q
         exact out_mk (weak_cov ⟨rfl, trivial⟩ trivial)
        ·
         replace hsy4 := cF c7 hsy4
         refine avc_skip <| avc_sq ?_
         refine sqa (a_move_d (lq rfl) rfl) ?_
         refine sqa (m_add (lq rfl) rfl rfl) ?_
         refine sqa (a_assign_d (lq rfl) rfl) ?_
         refine sq_nil ?_
         cases hsy4
         exact weak_cov ⟨rfl, rfl, rfl, trivial⟩ trivial
       ·
        replace hsy4 := cF c6 hsy4
        refine avc_exit ?_
        cases hsy4
        intro q; cases q
      ·
       cases h'
       exact ret_1 rfl
   ·
    replace h := eR h
    refine avc_tail (e := .ret) (S2 := ⟨[(2, .d (di y2))], []⟩) ?_ ?_
    ·
     refine avc_loopM (fun x => ⟨[(1, .d (.pt (eCollation.cells a0))), (3, .d (dsl eGroup a0.Groups)), (5, .d (di x))], []⟩) hy2 (weak_cov ⟨rfl, rfl, rfl, trivial⟩ trivial) ?_
     rintro v5 sy2 hsy2
     replace hsy2 : ref43_groups_L1 a0 v5 = some sy2 := hsy2
     unfold ref43_groups_L1 at hsy2
     refine avc_sq2 <| avc_sq2 <| avc_sq ?_
     refine sqa (a_move_d (lq rfl) rfl) ?_
     refine sqa (a_move_d (lq rfl) rfl) ?_
     refine sqa (m_len (en := eGroup) (l := a0.Groups) (lq rfl) S23 rfl) ?_
     refine sqa (a_lss (lq rfl) rfl rfl) ?_
     refine sq_nil ?_
     refine avc_if rfl ⟨fun c3 => ?_, fun c3 => ?_⟩
     ·
      replace hsy2 := cT c3 hsy2
      refine avc_skip <| avc_sq2 <| avc_block <| avc_sq2 <| avc_sq ?_
      refine sqa (a_assign_d (lq rfl) rfl) ?_
      refine sq_nil <| avc_block ?_
      obtain ⟨y3, hy3, hsy2'⟩ := bE hsy2; clear hsy2
      rcases y3 with y3 | y3
      ·
       replace hsy2' := eL hsy2'
       refine avc_tail (e := .exit 4) (S2 := ⟨[(1, .d (.pt (eCollation.cells a0))), (3, .d (dsl eGroup a0.Groups)), (5, .d (di v5))], []⟩) ?_ ?_
       ·
        refine avc_loopM (fun x => ⟨[(1, .d (.pt (eCollation.cells a0))), (3, .d (dsl eGroup a0.Groups)), (5, .d (di v5)), (6, .d (di x))], []⟩) hy3 (weak_cov ⟨rfl, rfl, rfl, rfl, trivial⟩ trivial) ?_
        rintro v6 sy3 hsy3
        replace hsy3 : ref43_groups_L2 v5 a0 v6 = some sy3 := hsy3
        unfold ref43_groups_L2 at hsy3
        refine avc_sq2 <| avc_sq2 <| avc_sq ?_
        refine sqa (a_move_d (lq rfl) rfl) ?_
        refine sqa (a_move_d (lq rfl) rfl) ?_
        refine sqa (a_lss (lq rfl) rfl rfl) ?_
        refine sq_nil ?_
        refine avc_if rfl ⟨fun c4 => ?_, fun c4 => ?_⟩
        ·
         replace hsy3 := cT c4 hsy3
         refine avc_skip <| avc_sq2 <| avc_block <| avc_sq2 ?_
         refine avc_drawA MX rfl ?_
         refine daa (a_move_d (lq rfl) rfl) ?_
         refine daa (a_move_d (lq rfl) rfl) ?_
         obtain ⟨t37, ht37, hsy3'⟩ := bE hsy3; clear hsy3
         refine daa (m_index (en := eGroup) (lq rfl) S23 rfl rfl ht37) ?_
         refine daa (a_fieldAddr_ip (lq rfl) L80_0 rfl) ?_
         refine daa (m_loadE (en := eGroup) (l := a0.Groups) (i := v6) (v := t37) (off := 0) (lq rfl) O9 rfl ht37 rfl) ?_
         refine daa (a_move_d (lq rfl) rfl) ?_
         refine daa (a_move_d (lq rfl) rfl) ?_
         obtain ⟨t42, ht42, hsy3⟩ := bE hsy3'; clear hsy3'
         refine daa (m_index (en := eGroup) (lq rfl) S23 rfl rfl ht42) ?_
         refine daa (a_fieldAddr_ip (lq rfl) L80_0 rfl) ?_
         refine daa (m_loadE (en := eGroup) (l := a0.Groups) (i := v5) (v := t42) (off := 0) (lq rfl) O9 rfl ht42 rfl) ?_
         refine daa (m_seql (a := t37.Name) (b := t42.Name) (lq rfl) rfl rfl) ?_
         refine da_nil ?_
         refine avc_if rfl ⟨fun c5 => ?_, fun c5 => ?_⟩
         ·
          replace hsy3 := cT c5 hsy3
          refine avc_sq2 <| avc_sq ?_
          refine sqa (a_assign_d (lq rfl) rfl) ?_
          refine sq_nil ?_
          refine avc_ret ?_
          cases hsy3
          intro q; cases q
         ·
          replace hsy3 := cF c5 hsy3
          refine avc_skip <| avc_sq ?_
          refine sqa (a_move_d (lq rfl) rfl) ?_
          refine sqa (m_add (lq rfl) rfl rfl) ?_
          refine sqa (a_assign_d (lq rfl) rfl) ?_
          refine sq_nil ?_
          cases hsy3
          exact weak_cov ⟨rfl, rfl, rfl, rfl, trivial⟩ trivial
        ·
         replace hsy3 := cF c4 hsy3
         refine avc_exit ?_
         cases hsy3
         intro q; cases q
         exact out_mk (weak_cov ⟨rfl, rfl, rfl, trivial⟩ trivial)
       ·
        refine avc_sq ?_
        refine sqa (a_move_d (lq rfl) rfl) ?_
        refine sqa (m_add (lq rfl) rfl rfl) ?_
        refine sqa (a_assign_d (lq rfl) rfl) ?_
        refine sq_nil ?_
        cases hsy2'
        exact weak_cov ⟨rfl, rfl, rfl, trivial⟩ trivial
      ·
       replace hsy2' := eR hsy2'
       refine avc_tail (e := .ret) (S2 := ⟨[(2, .d (di y3))], []⟩) ?_ ?_
       ·
        refine avc_loopM (fun x => ⟨[(1, .d (.pt (eCollation.cells a0))), (3, .d (dsl eGroup a0.Groups)), (5, .d (di v5)), (6, .d (di x))], []⟩) hy3 (weak_cov ⟨rfl, rfl, rfl, rfl, trivial⟩ trivial) ?_
        rintro v6 sy3 hsy3
        replace hsy3 : ref43_groups_L2 v5 a0 v6 = some sy3 := hsy3
        unfold ref43_groups_L2 at hsy3
        refine avc_sq2 <| avc_sq2 <| avc_sq ?_
        refine sqa (a_move_d (lq rfl) rfl) ?_
        refine sqa (a_move_d (lq rfl) rfl) ?_
        refine sqa (a_lss (lq rfl) rfl rfl) ?_
        refine sq_nil ?_
        refine avc_if rfl ⟨fun c4 => ?_, fun c4 => ?_⟩
        ·
         replace hsy3 := cT c4 hsy3
         refine avc_skip <| avc_sq2 <| avc_block <| avc_sq2 ?_
         refine avc_drawA MX rfl ?_
         refine daa (a_move_d (lq rfl) rfl) ?_
         refine daa (a_move_d (lq rfl) rfl) ?_
         obtain ⟨t37, ht37, hsy3'⟩ := bE hsy3; clear hsy3
         refine daa (m_index (en := eGroup) (lq rfl) S23 rfl rfl ht37) ?_
         refine daa (a_fieldAddr_ip (lq rfl) L80_0 rfl) ?_
         refine daa (m_loadE (en := eGroup) (l := a0.Groups) (i := v6) (v := t37) (off := 0) (lq rfl) O9 rfl ht37 rfl) ?_
         refine daa (a_move_d (lq rfl) rfl) ?_
         refine daa (a_move_d (lq rfl) rfl) ?_
         obtain ⟨t42, ht42, hsy3⟩ := bE hsy3'; clear hsy3'
         refine daa (m_index (en := eGroup) (lq rfl) S23 rfl rfl ht42) ?_
         refine daa (a_fieldAddr_ip (lq rfl) L80_0 rfl) ?_
         refine daa (m_loadE (en := eGroup) (l := a0.Groups) (i := v5) (v := t42) (off := 0) (lq rfl) O9 rfl ht42 rfl) ?_
         refine daa (m_seql (a := t37.Name) (b := t42.Name) (lq rfl) rfl rfl) ?_
         refine da_nil ?_
         refine avc_if rfl ⟨fun c5 => ?_, fun c5 => ?_⟩
         ·
          replace hsy3 := cT c5 hsy3
          refine avc_sq2 <| avc_sq ?_
          refine sqa (a_assign_d (lq rfl) rfl) ?_
          refine sq_nil ?_
          refine avc_ret ?_
          cases hsy3
          intro q; cases q
          exact out_mk (weak_cov ⟨rfl, trivial⟩ trivial)
         ·
          replace hsy3 := cF c5 hsy3
          refine avc_skip <| avc_sq ?_
          refine sqa (a_move_d (lq rfl) rfl) ?_
          refine sqa (m_add (lq rfl) rfl rfl) ?_
          refine sqa (a_assign_d (lq rfl) rfl) ?_
          refine sq_nil ?_
          cases hsy3
          exact weak_cov ⟨rfl, rfl, rfl, rfl, trivial⟩ trivial
        ·
         replace hsy3 := cF c4 hsy3
         refine avc_exit ?_
         cases hsy3
         intro q; cases q
       ·
        cases hsy2'
        intro q; cases q
        exact out_mk (weak_cov ⟨rfl, trivial⟩ trivial)
     ·
      replace hsy2 := cF c3 hsy2
      refine avc_exit ?_
      cases hsy2
      intro q; cases q
    ·
     cases h
     exact ret_1 rfl
 ·
  replace h' := eR h'
  refine avc_tail (e := .ret) (S2 := ⟨[(2, .d (di y1))], []⟩) ?_ ?_
  ·
   refine avc_loopM (fun x => ⟨[(1, .d (.pt (eCollation.cells a0))), (3, .d (dsl eGroup a0.Groups)), (4, .d (di x))], []⟩) hy1 (weak_cov ⟨rfl, rfl, rfl, trivial⟩ trivial) ?_
   rintro v4 sy1 hsy1
   replace hsy1 : ref43_groups_L0 a0 v4 = some sy1 := hsy1
   unfold ref43_groups_L0 at hsy1
   refine avc_sq2 <| avc_sq2 <| avc_sq ?_
   refine sqa (a_move_d (lq rfl) rfl) ?_
   refine sqa (a_move_d (lq rfl) rfl) ?_
   refine sqa (m_len (en := eGroup) (l := a0.Groups) (lq rfl) S23 rfl) ?_
   refine sqa (a_lss (lq rfl) rfl rfl) ?_
   refine sq_nil ?_
   refine avc_if rfl ⟨fun c1 => ?_, fun c1 => ?_⟩
   ·
    replace hsy1 := cT c1 hsy1
    refine avc_skip <| avc_sq2 <| avc_block <| avc_sq2 <| avc_sq ?_
    refine sqa (a_move_d (lq rfl) rfl) ?_
    refine sqa (a_move_d (lq rfl) rfl) ?_
    obtain ⟨t19, ht19, hsy1'⟩ := bE hsy1; clear hsy1
    refine sqa (m_index (en := eGroup) (lq rfl) S23 rfl rfl ht19) ?_
    refine sqa (a_fieldAddr_ip (lq rfl) L80_0 rfl) ?_
    refine sqa (m_loadE (en := eGroup) (l := a0.Groups) (i := v4) (v := t19) (off := 0) (lq rfl) O9 rfl ht19 rfl) ?_
    obtain ⟨t22, ht22, hsy1⟩ := bE hsy1'; clear hsy1'
    refine sqa (a_call (lq rfl) rfl (ref11_Name_c ht22)) ?_
    refine sqa (a_not (lq rfl) rfl) ?_
    refine sq_nil ?_
    refine avc_if rfl ⟨fun c2 => ?_, fun c2 => ?_⟩
    ·
     replace hsy1 := cT c2 hsy1
     refine avc_sq2 <| avc_sq ?_
     refine sqa (a_assign_d (lq rfl) rfl) ?_
     refine sq_nil ?_
     refine avc_ret ?_
     cases hsy1
     intro q; cases q
     exact out_mk (weak_cov ⟨rfl, trivial⟩ trivial)
    ·
     replace hsy1 := cF c2 hsy1
     refine avc_skip <| avc_sq ?_
     refine sqa (a_move_d (lq rfl) rfl) ?_
     refine sqa (m_add (lq rfl) rfl rfl) ?_
     refine sqa (a_assign_d (lq rfl) rfl) ?_
     refine sq_nil ?_
     cases hsy1
     exact weak_cov ⟨rfl, rfl, rfl, trivial⟩ trivial
   ·
    replace hsy1 := cF c1 hsy1
    refine avc_exit ?_
    cases hsy1
    intro q; cases q
  ·
   cases h'
   exact ret_1 rfl

theorem ref01_Valid_c  {a0 : Int}  {r : Bool} (h : ref01_Valid a0 = some r) : Contract Tryd.prog 36 [(di a0)] [(db r)] := by
 refine contract_of Tryd.func36 (by kernel_rfl) rfl (lq rfl) (lq rfl) fun w0 I0 hI0 hG0 => ?_
 unfold ref01_Valid at h
 refine avc_sq2 <| avc_sq ?_
 refine sqa (a_assign_d (lq rfl) rfl) ?_
 refine sq_nil <| avc_sq2 <| avc_sq ?_
 refine sqa (a_move_d (lq rfl) rfl) ?_
 refine sqa (a_geq (lq rfl) rfl rfl) ?_
 obtain ⟨b5, hb5, h'⟩ := bE h; clear h
 refine sqa ((a_move_d (lq rfl) rfl).bool (Option.some.inj hb5)) ?_
 refine sq_g (x := .d (di a0)) rfl rfl rfl (lq rfl) (lq rfl) rfl (fun hb => by obtain rfl : b5 = true := hb; exact a_move_d (lq rfl) rfl) ?_
 refine sq_g (x := .d (db (decide (a0 ≤ 1114111)))) rfl rfl rfl (lq rfl) (lq rfl) rfl (fun hb => by obtain rfl : b5 = true := hb; exact a_leq (lq rfl) rfl rfl) ?_
 refine sqa (a_pick_and (lq rfl) rfl rfl) ?_
 refine sqa (a_assign_d (lq rfl) rfl) ?_
 refine sq_nil ?_
 cases h'
 refine avc_ret ?_
 exact ret_1 rfl

theorem ref42_weight_c  {a0 : Int}  {r : Bool} (h : ref42_weight a0 = some r) : Contract Tryd.prog 65 [(di a0)] [(db r)] := by
 refine contract_of Tryd.func65 (by kernel_rfl) rfl (lq rfl) (lq rfl) fun w0 I0 hI0 hG0 => ?_
 unfold ref42_weight at h
 refine avc_sq2 <| avc_sq ?_
 refine sqa (a_assign_d (lq rfl) rfl) ?_
 refine sq_nil <| avc_sq2 <| avc_sq ?_
 refine sqa (a_move_d (lq rfl) rfl) ?_
 refine sqa (a_geq (lq rfl) rfl rfl) ?_
 obtain ⟨b5, hb5, h'⟩ := bE h; clear h
 refine sqa ((a_move_d (lq rfl) rfl).bool (Option.some.inj hb5)) ?_
 refine sq_g (x := .d (di a0)) rfl rfl rfl (lq rfl) (lq rfl) rfl (fun hb => by obtain rfl : b5 = true := hb; exact a_move_d (lq rfl) rfl) ?_
 refine sq_g (x := .d (db (decide (a0 ≤ 65535)))) rfl rfl rfl (lq rfl) (lq rfl) rfl (fun hb => by obtain rfl : b5 = true := hb; exact a_leq (lq rfl) rfl rfl) ?_
 refine sqa (a_pick_and (lq rfl) rfl rfl) ?_
 refine sqa (a_assign_d (lq rfl) rfl) ?_
 refine sq_nil ?_
 cases h'
 refine avc_ret ?_
 exact ret_1 rfl

theorem ref42_Check_c  {a0 : Element}  {r : Int} (h : ref42_Check a0 = some r) : Contract Tryd.prog 50 [(eElement.dv a0)] [(di r)] := by
 refine contract_of Tryd.func50 (by kernel_rfl) rfl (lq rfl) (lq rfl) fun w0 I0 hI0 hG0 => ?_
 unfold ref42_Check at h
 refine avc_sq2 <| avc_sq ?_
 refine sqa (m_box (size := 4) (lq rfl) rfl rfl) ?_
 refine sqa (a_assign_d (lq rfl) rfl) ?_
 refine sq_nil <| avc_sq2 <| avc_sq2 <| avc_sq ?_
 refine sqa (m_fieldPt (lq rfl) L63_0 rfl) ?_
 refine sqa (a_load_ip (lq rfl) O3 rfl rfl) ?_
 obtain ⟨t5, ht5, h'⟩ := bE h; clear h
 refine sqa (a_call (lq rfl) rfl (ref42_weight_c ht5)) ?_
 refine sqa (a_not (lq rfl) rfl) ?_
 obtain ⟨b7, hb7, h⟩ := bE h'; clear h'
 refine sqa ((a_move_d (lq rfl) rfl).bool (Option.some.inj hb7)) ?_
 refine sq_g (x := .ip (eElement.cells a0) (0 + 1)) rfl rfl rfl (lq rfl) (lq rfl) rfl (fun hb => by obtain rfl := gF hb; exact m_fieldPt (lq rfl) L63_1 rfl) ?_
 refine sq_g (x := .d (di a0.Secondary)) rfl rfl rfl (lq rfl) (lq rfl) rfl (fun hb => by obtain rfl := gF hb; exact a_load_ip (lq rfl) O3 rfl rfl) ?_
 obtain ⟨t10, ht10, h'⟩ := bE h; clear h
 refine sq_g (x := .d (db t10)) rfl rfl rfl (lq rfl) (lq rfl) rfl (fun hb => by obtain rfl := gF hb; exact a_call (lq rfl) rfl (ref42_weight_c ht10)) ?_
 refine sq_g (x := .d (db (!t10))) rfl rfl rfl (lq rfl) (lq rfl) rfl (fun hb => by obtain rfl := gF hb; exact a_not (lq rfl) rfl) ?_
 refine sqa (a_pick_or (lq rfl) rfl rfl) ?_
 obtain ⟨b13, hb13, h⟩ := bE h'; clear h'
 refine sqa ((a_move_d (lq rfl) rfl).bool (Option.some.inj hb13)) ?_
 refine sq_g (x := .ip (eElement.cells a0) (0 + 2)) rfl rfl rfl (lq rfl) (lq rfl) rfl (fun hb => by obtain rfl := gF hb; exact m_fieldPt (lq rfl) L63_2 rfl) ?_
 refine sq_g (x := .d (di a0.Tertiary)) rfl rfl rfl (lq rfl) (lq rfl) rfl (fun hb => by obtain rfl := gF hb; exact a_load_ip (lq rfl) O3 rfl rfl) ?_
 obtain ⟨t16, ht16, h'⟩ := bE h; clear h
 refine sq_g (x := .d (db t16)) rfl rfl rfl (lq rfl) (lq rfl) rfl (fun hb => by obtain rfl := gF hb; exact a_call (lq rfl) rfl (ref42_weight_c ht16)) ?_
 refine sq_g (x := .d (db (!t16))) rfl rfl rfl (lq rfl) (lq rfl) rfl (fun hb => by obtain rfl := gF hb; exact a_not (lq rfl) rfl) ?_
 refine sqa (a_pick_or (lq rfl) rfl rfl) ?_
 refine sq_nil ?_
 refine avc_if rfl ⟨fun c1 => ?_, fun c1 => ?_⟩
 ·
  replace h' := cT c1 h'
  refine avc_sq2 <| avc_sq ?_
  refine sqa (a_assign_d (lq rfl) rfl) ?_
  refine sq_nil ?_
  cases h'
  refine avc_ret ?_
  exact ret_1 rfl
 ·
  replace h' := cF c1 h'
  refine avc_skip <| avc_sq2 <| avc_sq2 <| avc_sq ?_
  refine sqa (m_fieldPt (lq rfl) L63_0 rfl) ?_
  refine sqa (a_load_ip (lq rfl) O3 rfl rfl) ?_
  refine sqa (a_neq (lq rfl) rfl rfl) ?_
  obtain ⟨b22, hb22, h⟩ := bE h'; clear h'
  refine sqa ((a_move_d (lq rfl) rfl).bool (Option.some.inj hb22)) ?_
  refine sq_g (x := .ip (eElement.cells a0) (0 + 1)) rfl rfl rfl (lq rfl) (lq rfl) rfl (fun hb => by obtain rfl : b22 = true := hb; exact m_fieldPt (lq rfl) L63_1 rfl) ?_
  refine sq_g (x := .d (di a0.Secondary)) rfl rfl rfl (lq rfl) (lq rfl) rfl (fun hb => by obtain rfl : b22 = true := hb; exact a_load_ip (lq rfl) O3 rfl rfl) ?_
  refine sq_g (x := .d (db (decide (a0.Secondary = 0)))) rfl rfl rfl (lq rfl) (lq rfl) rfl (fun hb => by obtain rfl : b22 = true := hb; exact a_eql (lq rfl) rfl rfl) ?_
  obtain ⟨b26, hb26, h'⟩ := bE h; clear h
  refine sq_g (x := .d (db b26)) rfl rfl rfl (lq rfl) (lq rfl) rfl (fun hb => by obtain rfl : b22 = true := hb; exact (a_move_d (lq rfl) rfl).bool (Option.some.inj hb26)) ?_
  refine sq_g2 (x := .ip (eElement.cells a0) (0 + 2)) rfl rfl rfl (lq rfl) (lq rfl) rfl (fun hb => by obtain ⟨hb, hb1⟩ := and_split hb; obtain rfl : b22 = true := hb; obtain rfl := gF hb1; exact m_fieldPt (lq rfl) L63_2 rfl) ?_
  refine sq_g2 (x := .d (di a0.Tertiary)) rfl rfl rfl (lq rfl) (lq rfl) rfl (fun hb => by obtain ⟨hb, hb1⟩ := and_split hb; obtain rfl : b22 = true := hb; obtain rfl := gF hb1; exact a_load_ip (lq rfl) O3 rfl rfl) ?_
  refine sq_g2 (x := .d (db (decide (a0.Tertiary = 0)))) rfl rfl rfl (lq rfl) (lq rfl) rfl (fun hb => by obtain ⟨hb, hb1⟩ := and_split hb; obtain rfl : b22 = true := hb; obtain rfl := gF hb1; exact a_eql (lq rfl) rfl rfl) ?_
  refine sq_g (x := .d (db (b26 || (decide (a0.Tertiary = 0))))) rfl rfl rfl (lq rfl) (lq rfl) rfl (fun hb => by obtain rfl : b22 = true := hb; exact a_pick_or (lq rfl) rfl rfl) ?_
  refine sqa (a_pick_and (lq rfl) rfl rfl) ?_
  obtain ⟨b32, hb32, h⟩ := bE h'; clear h'
  refine sqa ((a_move_d (lq rfl) rfl).bool (Option.some.inj hb32)) ?_
  refine sq_g (x := .ip (eElement.cells a0) (0 + 1)) rfl rfl rfl (lq rfl) (lq rfl) rfl (fun hb => by obtain rfl := gF hb; exact m_fieldPt (lq rfl) L63_1 rfl) ?_
  refine sq_g (x := .d (di a0.Secondary)) rfl rfl rfl (lq rfl) (lq rfl) rfl (fun hb => by obtain rfl := gF hb; exact a_load_ip (lq rfl) O3 rfl rfl) ?_
  refine sq_g (x := .d (db (!decide (a0.Secondary = 0)))) rfl rfl rfl (lq rfl) (lq rfl) rfl (fun hb => by obtain rfl := gF hb; exact a_neq (lq rfl) rfl rfl) ?_
  obtain ⟨b36, hb36, h'⟩ := bE h; clear h
  refine sq_g (x := .d (db b36)) rfl rfl rfl (lq rfl) (lq rfl) rfl (fun hb => by obtain rfl := gF hb; exact (a_move_d (lq rfl) rfl).bool (Option.some.inj hb36)) ?_
  refine sq_g2 (x := .ip (eElement.cells a0) (0 + 2)) rfl rfl rfl (lq rfl) (lq rfl) rfl (fun hb => by obtain ⟨hb, hb1⟩ := and_split hb; obtain rfl := gF hb; obtain rfl : b36 = true := hb1; exact m_fieldPt (lq rfl) L63_2 rfl) ?_
  refine sq_g2 (x := .d (di a0.Tertiary)) rfl rfl rfl (lq rfl) (lq rfl) rfl (fun hb => by obtain ⟨hb, hb1⟩ := and_split hb; obtain rfl := gF hb; obtain rfl : b36 = true := hb1; exact a_load_ip (lq rfl) O3 rfl rfl) ?_
  refine sq_g2 (x := .d (db (decide (a0.Tertiary = 0)))) rfl rfl rfl (lq rfl) (lq rfl) rfl (fun hb => by obtain ⟨hb, hb1⟩ := and_split hb; obtain rfl := gF hb; obtain rfl : b36 = true := hb1; exact a_eql (lq rfl) rfl rfl) ?_
  refine sq_g (x := .d (db (b36 && (decide (a0.Tertiary = 0))))) rfl rfl rfl (lq rfl) (lq rfl) rfl (fun hb => by obtain rfl := gF hb; exact a_pick_and (lq rfl) rfl rfl) ?_
  refine sqa (a_pick_or (lq rfl) rfl rfl) ?_
  obtain ⟨b42, hb42, h⟩ := bE h'; clear h'
  refine sqa ((a_move_d (lq rfl) rfl).bool (Option.some.inj hb42)) ?_
  refine sq_g (x := .ip (eElement.cells a0) (0 + 3)) rfl rfl rfl (lq rfl) (lq rfl) rfl (fun hb => by obtain rfl := gF hb; exact m_fieldPt (lq rfl) L63_3 rfl) ?_
  refine sq_g (x := .d (db a0.Variable)) rfl rfl rfl (lq rfl) (lq rfl) rfl (fun hb => by obtain rfl := gF hb; exact a_load_ip (lq rfl) O4 rfl rfl) ?_
  obtain ⟨b45, hb45, h'⟩ := bE h; clear h
  refine sq_g (x := .d (db b45)) rfl rfl rfl (lq rfl) (lq rfl) rfl (fun hb => by obtain rfl := gF hb; exact (a_move_d (lq rfl) rfl).bool (Option.some.inj hb45)) ?_
  refine sq_g2 (x := .ip (eElement.cells a0) (0 + 0)) rfl rfl rfl (lq rfl) (lq rfl) rfl (fun hb => by obtain ⟨hb, hb1⟩ := and_split hb; obtain rfl := gF hb; obtain rfl : b45 = true := hb1; exact m_fieldPt (lq rfl) L63_0 rfl) ?_
  refine sq_g2 (x := .d (di a0.Primary)) rfl rfl rfl (lq rfl) (lq rfl) rfl (fun hb => by obtain ⟨hb, hb1⟩ := and_split hb; obtain rfl := gF hb; obtain rfl : b45 = true := hb1; exact a_load_ip (lq rfl) O3 rfl rfl) ?_
  refine sq_g2 (x := .d (db (decide (a0.Primary = 0)))) rfl rfl rfl (lq rfl) (lq rfl) rfl (fun hb => by obtain ⟨hb, hb1⟩ := and_split hb; obtain rfl := gF hb; obtain rfl : b45 = true := hb1; exact a_eql (lq rfl) rfl rfl) ?_
  refine sq_g (x := .d (db (b45 && (decide (a0.Primary = 0))))) rfl rfl rfl (lq rfl) (lq rfl) rfl (fun hb => by obtain rfl := gF hb; exact a_pick_and (lq rfl) rfl rfl) ?_
  refine sqa (a_pick_or (lq rfl) rfl rfl) ?_
  refine sq_nil ?_
  refine avc_if rfl ⟨fun c2 => ?_, fun c2 => ?_⟩
  ·
   replace h' := cT c2 h'
   refine avc_sq2 <| avc_sq ?_
   refine sqa (a_assign_d (lq rfl) rfl) ?_
   refine sq_nil ?_
   cases h'
   refine avc_ret ?_
   exact ret_1 rfl
  ·
   replace h' := cF c2 h'
   refine avc_skip <| avc_sq2 <| avc_sq ?_
   refine sqa (a_assign_d (lq rfl) rfl) ?_
   refine sq_nil ?_
   cases h'
   refine avc_ret ?_
   exact ret_1 rfl

theorem ref01_Compare_c  {a0 : (List Int)} {a1 : (List Int)}  {r : Int} (h : ref01_Compare a0 a1 = some r) : Contract Tryd.prog 41 [(dsl eI a0), (dsl eI a1)] [(di r)] := by
 refine contract_of Tryd.func41 (by kernel_rfl) rfl (lq rfl) (lq rfl) fun w0 I0 hI0 hG0 => ?_
 unfold ref01_Compare at h
 refine avc_sq2 <| avc_sq ?_
 refine sqa (a_assign_d (lq rfl) rfl) ?_
 refine sq_nil <| avc_sq2 <| avc_sq2 <| avc_sq ?_
 refine sqa (a_assign_d (lq rfl) rfl) ?_
 refine sq_nil <| avc_block ?_
 obtain ⟨y1, hy1, h'⟩ := bE h; clear h
 rcases y1 with y1 | y1
 ·
  replace h' := eL h'
  refine avc_tail (e := .exit 0) (S2 := ⟨[(0, .d (dsl eI a0)), (1, .d (dsl eI a1))], []⟩) ?_ ?_
  ·
   refine avc_loopM (fun x => ⟨[(0, .d (dsl eI a0)), (1, .d (dsl eI a1)), (5, .d (di x))], []⟩) hy1 (weak_cov ⟨rfl, rfl, rfl, trivial⟩ trivial) ?_
   rintro v5 sy1 hsy1
   replace hsy1 : ref01_Compare_L0 a0 a1 v5 = some sy1 := hsy1
   unfold ref01_Compare_L0 at hsy1
   refine avc_sq2 <| avc_sq2 <| avc_sq ?_
   refine sqa (a_move_d (lq rfl) rfl) ?_
   refine sqa (a_move_d (lq rfl) rfl) ?_
   refine sqa (m_len (en := eI) (l := a0) (lq rfl) S30 rfl) ?_
   refine sqa (a_lss (lq rfl) rfl rfl) ?_
   obtain ⟨b10, hb10, hsy1'⟩ := bE hsy1; clear hsy1
   refine sqa ((a_move_d (lq rfl) rfl).bool (Option.some.inj hb10)) ?_
   refine sq_g (x := .d (di v5)) rfl rfl rfl (lq rfl) (lq rfl) rfl (fun hb => by obtain rfl : b10 = true := hb; exact a_move_d (lq rfl) rfl) ?_
   refine sq_g (x := .d (dsl eI a1)) rfl rfl rfl (lq rfl) (lq rfl) rfl (fun hb => by obtain rfl : b10 = true := hb; exact a_move_d (lq rfl) rfl) ?_
   refine sq_g (x := .d (di (a1.length : Int))) rfl rfl rfl (lq rfl) (lq rfl) rfl (fun hb => by obtain rfl : b10 = true := hb; exact m_len (en := eI) (l := a1) (lq rfl) S30 rfl) ?_
   refine sq_g (x := .d (db (decide (v5 < (a1.length : Int))))) rfl rfl rfl (lq rfl) (lq rfl) rfl (fun hb => by obtain rfl : b10 = true := hb; exact a_lss (lq rfl) rfl rfl) ?_
   refine sqa (a_pick_and (lq rfl) rfl rfl) ?_
   refine sq_nil ?_
   refine avc_if rfl ⟨fun c1 => ?_, fun c1 => ?_⟩
   ·
    replace hsy1' := cT c1 hsy1'
    refine avc_skip <| avc_sq2 <| avc_block <| avc_sq2 <| avc_sq2 ?_
    refine avc_drawA MX rfl ?_
    refine daa (a_move_d (lq rfl) rfl) ?_
    refine daa (a_move_d (lq rfl) rfl) ?_
    obtain ⟨t20, ht20, hsy1⟩ := bE hsy1'; clear hsy1'
    refine daa (m_index (en := eI) (lq rfl) S30 rfl rfl ht20) ?_
    refine daa (m_loadE (en := eI) (l := a0) (i := v5) (v := t20) (off := 0) (lq rfl) O3 rfl ht20 rfl) ?_
    refine daa (a_move_d (lq rfl) rfl) ?_
    refine daa (a_move_d (lq rfl) rfl) ?_
    obtain ⟨t24, ht24, hsy1'⟩ := bE hsy1; clear hsy1
    refine daa (m_index (en := eI) (lq rfl) S30 rfl rfl ht24) ?_
    refine daa (m_loadE (en := eI) (l := a1) (i := v5) (v := t24) (off := 0) (lq rfl) O3 rfl ht24 rfl) ?_
    refine daa (a_lss (lq rfl) rfl rfl) ?_
    refine da_nil ?_
    refine avc_if rfl ⟨fun c2 => ?_, fun c2 => ?_⟩
    ·
     replace hsy1' := cT c2 hsy1'
     refine avc_sq2 <| avc_sq ?_
     refine sqa (a_assign_d (lq rfl) rfl) ?_
     refine sq_nil ?_
     refine avc_ret ?_
     cases hsy1'
     intro q; cases q
    ·
     replace hsy1' := cF c2 hsy1'
     refine avc_skip <| avc_sq2 ?_
     refine avc_drawA MX rfl ?_
     refine daa (a_move_d (lq rfl) rfl) ?_
     refine daa (a_move_d (lq rfl) rfl) ?_
     obtain ⟨t29, ht29, hsy1⟩ := bE hsy1'; clear hsy1'
     refine daa (m_index (en := eI) (lq rfl) S30 rfl rfl ht29) ?_
     refine daa (m_loadE (en := eI) (l := a0) (i := v5) (v := t29) (off := 0) (lq rfl) O3 rfl ht29 rfl) ?_
     refine daa (a_move_d (lq rfl) rfl) ?_
     refine daa (a_move_d (lq rfl) rfl) ?_
     obtain ⟨t33, ht33, hsy1'⟩ := bE hsy1; clear hsy1
     refine daa (m_index (en := eI) (lq rfl) S30 rfl rfl ht33) ?_
     refine daa (m_loadE (en := eI) (l := a1) (i := v5) (v := t33) (off := 0) (lq rfl) O3 rfl ht33 rfl) ?_
     refine daa (a_gtr (lq rfl) rfl rfl) ?_
     refine da_nil ?_
     refine avc_if rfl ⟨fun c3 => ?_, fun c3 => ?_⟩
     ·
      replace hsy1' := cT c3 hsy1'
      refine avc_sq2 <| avc_sq ?_
      refine sqa (a_assign_d (lq rfl) rfl) ?_
      refine sq_nil ?_
      refine avc_ret ?_
      cases hsy1'
      intro q; cases q
     ·
      replace hsy1' := cF c3 hsy1'
      refine avc_skip <| avc_sq ?_
      refine sqa (a_move_d (lq rfl) rfl) ?_
      refine sqa (m_add (lq rfl) rfl rfl) ?_
      refine sqa (a_assign_d (lq rfl) rfl) ?_
      refine sq_nil ?_
      cases hsy1'
      exact weak_cov ⟨rfl, rfl, rfl, trivial⟩ trivial
   ·
    replace hsy1' := cF c1 hsy1'
    refine avc_exit ?_
    cases hsy1'
    intro q; cases q
    exact out_mk (weak_cov ⟨rfl, rfl, trivial⟩ trivial)
  ·
   refine avc_sq2 <| avc_sq2 <| avc_sq ?_
   refine sqa (a_move_d (lq rfl) rfl) ?_
   refine sqa (m_len (en := eI) (l := a0) (lq rfl) S30 rfl) ?_
   refine sqa (a_move_d (lq rfl) rfl) ?_
   refine sqa (m_len (en := eI) (l := a1) (lq rfl) S30 rfl) ?_
   refine sqa (a_lss (lq rfl) rfl rfl) ?_
   refine sq_nil ?_
   refine avc_if rfl ⟨fun c4 => ?_, fun c4 => ?_⟩
   ·
    replace h' := cT c4 h'
    refine avc_sq2 <| avc_sq ?_
    refine sqa (a_assign_d (lq rfl) rfl) ?_
    refine sq_nil ?_
    cases h'
    refine avc_ret ?_
    exact ret_1 rfl
   ·
    replace h' := cF c4 h'
    refine avc_skip <| avc_sq2 <| avc_sq2 <| avc_sq ?_
    refine sqa (a_move_d (lq rfl) rfl) ?_
    refine sqa (m_len (en := eI) (l := a0) (lq rfl) S30 rfl) ?_
    refine sqa (a_move_d (lq rfl) rfl) ?_
    refine sqa (m_len (en := eI) (l := a1) (lq rfl) S30 rfl) ?_
    refine sqa (a_gtr (lq rfl) rfl rfl) ?_
    refine sq_nil ?_
    refine avc_if rfl ⟨fun c5 => ?_, fun c5 => ?_⟩
    ·
     replace h' := cT c5 h'
     refine avc_sq2 <| avc_sq ?_
     refine sqa (a_assign_d (lq rfl) rfl) ?_
     refine sq_nil ?_
     cases h'
     refine avc_ret ?_
     exact ret_1 rfl
    ·
     replace h' := cF c5 h'
     refine avc_skip <| avc_sq2 <| avc_sq ?_
     refine sqa (a_assign_d (lq rfl) rfl) ?_
     refine sq_nil ?_
     cases h'
     refine avc_ret ?_
     exact ret_1 rfl
 ·
  replace h' := eR h'
  refine avc_tail (e := .ret) (S2 := ⟨[(4, .d (di y1))], []⟩) ?_ ?_
  ·
   refine avc_loopM (fun x => ⟨[(0, .d (dsl eI a0)), (1, .d (dsl eI a1)), (5, .d (di x))], []⟩) hy1 (weak_cov ⟨rfl, rfl, rfl, trivial⟩ trivial) ?_
   rintro v5 sy1 hsy1
   replace hsy1 : ref01_Compare_L0 a0 a1 v5 = some sy1 := hsy1
   unfold ref01_Compare_L0 at hsy1
   refine avc_sq2 <| avc_sq2 <| avc_sq ?_
   refine sqa (a_move_d (lq rfl) rfl) ?_
   refine sqa (a_move_d (lq rfl) rfl) ?_
   refine sqa (m_len (en := eI) (l := a0) (lq rfl) S30 rfl) ?_
   refine sqa (a_lss (lq rfl) rfl rfl) ?_
   obtain ⟨b10, hb10, hsy1'⟩ := bE hsy1; clear hsy1
   refine sqa ((a_move_d (lq rfl) rfl).bool (Option.some.inj hb10)) ?_
   refine sq_g (x := .d (di v5)) rfl rfl rfl (lq rfl) (lq rfl) rfl (fun hb => by obtain rfl : b10 = true := hb; exact a_move_d (lq rfl) rfl) ?_
   refine sq_g (x := .d (dsl eI a1)) rfl rfl rfl (lq rfl) (lq rfl) rfl (fun hb => by obtain rfl : b10 = true := hb; exact a_move_d (lq rfl) rfl) ?_
   refine sq_g (x := .d (di (a1.length : Int))) rfl rfl rfl (lq rfl) (lq rfl) rfl (fun hb => by obtain rfl : b10 = true := hb; exact m_len (en := eI) (l := a1) (lq rfl) S30 rfl) ?_
   refine sq_g (x := .d (db (decide (v5 < (a1.length : Int))))) rfl rfl rfl (lq rfl) (lq rfl) rfl (fun hb => by obtain rfl : b10 = true := hb; exact a_lss (lq rfl) rfl rfl) ?_
   refine sqa (a_pick_and (lq rfl) rfl rfl) ?_
   refine sq_nil ?_
   refine avc_if rfl ⟨fun c1 => ?_, fun c1 => ?_⟩
   ·
    replace hsy1' := cT c1 hsy1'
    refine avc_skip <| avc_sq2 <| avc_block <| avc_sq2 <| avc_sq2 ?_
    refine avc_drawA MX rfl ?_
    refine daa (a_move_d (lq rfl) rfl) ?_
    refine daa (a_move_d (lq rfl) rfl) ?_
    obtain ⟨t20, ht20, hsy1⟩ := bE hsy1'; clear hsy1'
    refine daa (m_index (en := eI) (lq rfl) S30 rfl rfl ht20) ?_
    refine daa (m_loadE (en := eI) (l := a0) (i := v5) (v := t20) (off := 0) (lq rfl) O3 rfl ht20 rfl) ?_
    refine daa (a_move_d (lq rfl) rfl) ?_
    refine daa (a_move_d (lq rfl) rfl) ?_
    obtain ⟨t24, ht24, hsy1'⟩ := bE hsy1; clear hsy1
    refine daa (m_index (en := eI) (lq rfl) S30 rfl rfl ht24) ?_
    refine daa (m_loadE (en := eI) (l := a1) (i := v5) (v := t24) (off := 0) (lq rfl) O3 rfl ht24 rfl) ?_
    refine daa (a_lss (lq rfl) rfl rfl) ?_
    refine da_nil ?_
    refine avc_if rfl ⟨fun c2 => ?_, fun c2 => ?_⟩
    ·
     replace hsy1' := cT c2 hsy1'
     refine avc_sq2 <| avc_sq ?_
     refine sqa (a_assign_d (lq rfl) rfl) ?_
     refine sq_nil ?_
     refine avc_ret ?_
     cases hsy1'
     intro q; cases q
     exact out_mk (weak_cov ⟨rfl, trivial⟩ trivial)
    ·
     replace hsy1' := cF c2 hsy1'
     refine avc_skip <| avc_sq2 ?_
     refine avc_drawA MX rfl ?_
     refine daa (a_move_d (lq rfl) rfl) ?_
     refine daa (a_move_d (lq rfl) rfl) ?_
     obtain ⟨t29, ht29, hsy1⟩ := bE hsy1'; clear hsy1'
     refine daa (m_index (en := eI) (lq rfl) S30 rfl rfl ht29) ?_
     refine daa (m_loadE (en := eI) (l := a0) (i := v5) (v := t29) (off := 0) (lq rfl) O3 rfl ht29 rfl) ?_
     refine daa (a_move_d (lq rfl) rfl) ?_
     refine daa (a_move_d (lq rfl) rfl) ?_
     obtain ⟨t33, ht33, hsy1'⟩ := bE hsy1; clear hsy1
     refine daa (m_index (en := eI) (lq rfl) S30 rfl rfl ht33) ?_
     refine daa (m_loadE (en := eI) (l := a1) (i := v5) (v := t33) (off := 0) (lq rfl) O3 rfl ht33 rfl) ?_
     refine daa (a_gtr (lq rfl) rfl rfl) ?_
     refine da_nil ?_
     refine avc_if rfl ⟨fun c3 => ?_, fun c3 => ?_⟩
     ·
      replace hsy1' := cT c3 hsy1'
      refine avc_sq2 <| avc_sq ?_
      refine sqa (a_assign_d (lq rfl) rfl) ?_
      refine sq_nil ?_
      refine avc_ret ?_
      cases hsy1'
      intro q; cases q
      exact out_mk (weak_cov ⟨rfl, trivial⟩ trivial)
     ·
      replace hsy1' := cF c3 hsy1'
      refine avc_skip <| avc_sq ?_
      refine sqa (a_move_d (lq rfl) rfl) ?_
      refine sqa (m_add (lq rfl) rfl rfl) ?_
      refine sqa (a_assign_d (lq rfl) rfl) ?_
      refine sq_nil ?_
      cases hsy1'
      exact weak_cov ⟨rfl, rfl, rfl, trivial⟩ trivial
   ·
    replace hsy1' := cF c1 hsy1'
    refine avc_exit ?_
    cases hsy1'
    intro q; cases q
  ·
   cases h'
   exact ret_1 rfl

theorem ref43_entry_c  {a0 : Collation} {a1 : Int}  {r : Int} (h : ref43_entry a0 a1 = some r) : Contract Tryd.prog 29 [(eCollation.dv a0), (di a1)] [(di r)] := by
 refine contract_of Tryd.func29 (by kernel_rfl) rfl (lq rfl) (lq rfl) fun w0 I0 hI0 hG0 => ?_
 unfold ref43_entry at h
 refine avc_sq2 <| avc_sq ?_
 refine sqa (m_box (size := 5) (lq rfl) rfl rfl) ?_
 refine sqa (a_assign_d (lq rfl) rfl) ?_
 refine sq_nil <| avc_sq2 <| avc_sq ?_
 refine sqa (m_fieldPt (lq rfl) L25_0 rfl) ?_
 refine sqa (a_load_ip (lq rfl) O22 rfl rfl) ?_
 refine sqa (a_move_d (lq rfl) rfl) ?_
 obtain ⟨t13, ht13, h'⟩ := bE h; clear h
 refine sqa (m_index (en := eEntry) (lq rfl) S22 rfl rfl ht13) ?_
 refine sqa (m_loadEA (en := eEntry) (l := a0.Entries) (i := a1) (v := t13) (off := 0) (lq rfl) G55 rfl ht13 rfl rfl (by decide)) ?_
 refine sq_b rfl (step_alloc (zs := [(.slice none 0 0), (.slice none 0 0)]) (lq rfl) (by kernel_rfl) rfl rfl) ?_
 refine sq_b rfl (s_store_boxA G55 rfl rfl rfl rfl rfl rfl) ?_
 refine sq_nil ?_
 refine avc_weak (weak_freeze (t := 5) (lq rfl) rfl rfl rfl) ?_
 refine avc_sq2 <| avc_sq2 <| avc_sq ?_
 refine sqa (m_fieldPt (lq rfl) L55_0 rfl) ?_
 refine sqa (a_load_ip (lq rfl) O30 rfl rfl) ?_
 refine sqa (m_len (en := eI) (l := t13.Codes) (lq rfl) S30 rfl) ?_
 refine sqa (a_lss (lq rfl) rfl rfl) ?_
 obtain ⟨b19, hb19, h⟩ := bE h'; clear h'
 refine sqa ((a_move_d (lq rfl) rfl).bool (Option.some.inj hb19)) ?_
 refine sq_g (x := .ip (eEntry.cells t13) (0 + 0)) rfl rfl rfl (lq rfl) (lq rfl) rfl (fun hb => by obtain rfl := gF hb; exact m_fieldPt (lq rfl) L55_0 rfl) ?_
 refine sq_g (x := .d (dsl eI t13.Codes)) rfl rfl rfl (lq rfl) (lq rfl) rfl (fun hb => by obtain rfl := gF hb; exact a_load_ip (lq rfl) O30 rfl rfl) ?_
 refine sq_g (x := .d (di (t13.Codes.length : Int))) rfl rfl rfl (lq rfl) (lq rfl) rfl (fun hb => by obtain rfl := gF hb; exact m_len (en := eI) (l := t13.Codes) (lq rfl) S30 rfl) ?_
 refine sq_g (x := .d (db (decide (8 < (t13.Codes.length : Int))))) rfl rfl rfl (lq rfl) (lq rfl) rfl (fun hb => by obtain rfl := gF hb; exact a_gtr (lq rfl) rfl rfl) ?_
 refine sqa (a_pick_or (lq rfl) rfl rfl) ?_
 obtain ⟨b25, hb25, h'⟩ := bE h; clear h
 refine sqa ((a_move_d (lq rfl) rfl).bool (Option.some.inj hb25)) ?_
 refine sq_g (x := .ip (eEntry.cells t13) (0 + 1)) rfl rfl rfl (lq rfl) (lq rfl) rfl (fun hb => by obtain rfl := gF hb; exact m_fieldPt (lq rfl) L55_1 rfl) ?_
 refine sq_g (x := .d (dsl eElement t13.Elements)) rfl rfl rfl (lq rfl) (lq rfl) rfl (fun hb => by obtain rfl := gF hb; exact a_load_ip (lq rfl) O31 rfl rfl) ?_
 refine sq_g (x := .d (di (t13.Elements.length : Int))) rfl rfl rfl (lq rfl) (lq rfl) rfl (fun hb => by obtain rfl := gF hb; exact m_len (en := eElement) (l := t13.Elements) (lq rfl) S31 rfl) ?_
 refine sq_g (x := .d (db (decide (16 < (t13.Elements.length : Int))))) rfl rfl rfl (lq rfl) (lq rfl) rfl (fun hb => by obtain rfl := gF hb; exact a_gtr (lq rfl) rfl rfl) ?_
 refine sqa (a_pick_or (lq rfl) rfl rfl) ?_
 refine sq_nil ?_
 refine avc_if rfl ⟨fun c1 => ?_, fun c1 => ?_⟩
 ·
  replace h' := cT c1 h'
  refine avc_sq2 <| avc_sq ?_
  refine sqa (a_assign_d (lq rfl) rfl) ?_
  refine sq_nil ?_
  cases h'
  refine avc_ret ?_
  exact ret_1 rfl
 ·
  replace h' := cF c1 h'
  refine avc_skip <| avc_sq2 <| avc_sq2 <| avc_sq ?_
  refine sqa (a_assign_d (lq rfl) rfl) ?_
  refine sq_nil <| avc_block ?_
  obtain ⟨y1, hy1, h⟩ := bE h'; clear h'
  rcases y1 with y1 | y1
  ·
   replace h := eL h
   refine avc_tail (e := .exit 0) (S2 := ⟨[(1, .d (di a1)), (2, .d (.pt (eCollation.cells a0))), (5, .d (.pt (eEntry.cells t13)))], []⟩) ?_ ?_
   ·
    refine avc_loopM (fun x => ⟨[(1, .d (di a1)), (2, .d (.pt (eCollation.cells a0))), (5, .d (.pt (eEntry.cells t13))), (6, .d (di x))], []⟩) hy1 (weak_cov ⟨rfl, rfl, rfl, rfl, trivial⟩ trivial) ?_
    rintro v6 sy1 hsy1
    replace hsy1 : ref43_entry_L0 t13 v6 = some sy1 := hsy1
    unfold ref43_entry_L0 at hsy1
    refine avc_sq2 <| avc_sq2 <| avc_sq ?_
    refine sqa (a_move_d (lq rfl) rfl) ?_
    refine sqa (m_fieldPt (lq rfl) L55_0 rfl) ?_
    refine sqa (a_load_ip (lq rfl) O30 rfl rfl) ?_
    refine sqa (m_len (en := eI) (l := t13.Codes) (lq rfl) S30 rfl) ?_
    refine sqa (a_lss (lq rfl) rfl rfl) ?_
    refine sq_nil ?_
    refine avc_if rfl ⟨fun c2 => ?_, fun c2 => ?_⟩
    ·
     replace hsy1 := cT c2 hsy1
     refine avc_skip <| avc_sq2 <| avc_block <| avc_sq2 <| avc_sq ?_
     refine sqa (m_fieldPt (lq rfl) L55_0 rfl) ?_
     refine sqa (a_load_ip (lq rfl) O30 rfl rfl) ?_
     refine sqa (a_move_d (lq rfl) rfl) ?_
     obtain ⟨t41, ht41, hsy1'⟩ := bE hsy1; clear hsy1
     refine sqa (m_index (en := eI) (lq rfl) S30 rfl rfl ht41) ?_
     refine sqa (m_loadE (en := eI) (l := t13.Codes) (i := v6) (v := t41) (off := 0) (lq rfl) O3 rfl ht41 rfl) ?_
     obtain ⟨t43, ht43, hsy1⟩ := bE hsy1'; clear hsy1'
     refine sqa (a_call (lq rfl) rfl (ref01_Valid_c ht43)) ?_
     refine sqa (a_not (lq rfl) rfl) ?_
     refine sq_nil ?_
     refine avc_if rfl ⟨fun c3 => ?_, fun c3 => ?_⟩
     ·
      replace hsy1 := cT c3 hsy1
      refine avc_sq2 <| avc_sq ?_
      refine sqa (a_assign_d (lq rfl) rfl) ?_
      refine sq_nil ?_
      refine avc_ret ?_
      cases hsy1
      intro q; cases q
     ·
      replace hsy1 := cF c3 hsy1
      refine avc_skip <| avc_sq ?_
      refine sqa (a_move_d (lq rfl) rfl) ?_
      refine sqa (m_add (lq rfl) rfl rfl) ?_
      refine sqa (a_assign_d (lq rfl) rfl) ?_
      refine sq_nil ?_
      cases hsy1
      exact weak_cov ⟨rfl, rfl, rfl, rfl, trivial⟩ trivial
    ·
     replace hsy1 := cF c2 hsy1
     refine avc_exit ?_
     cases hsy1
     intro q; cases q
     exact out_mk (weak_cov ⟨rfl, rfl, rfl, trivial⟩ trivial)
   ·
    refine avc_sq2 <| avc_sq2 <| avc_sq ?_
    refine sqa (a_assign_d (lq rfl) rfl) ?_
    refine sq_nil <| avc_block ?_
    obtain ⟨y2, hy2, h'⟩ := bE h; clear h
    rcases y2 with y2 | y2
    ·
     replace h' := eL h'
     refine avc_tail (e := .exit 2) (S2 := ⟨[(1, .d (di a1)), (2, .d (.pt (eCollation.cells a0))), (5, .d (.pt (eEntry.cells t13)))], []⟩) ?_ ?_
     ·
      refine avc_loopM (fun x => ⟨[(1, .d (di a1)), (2, .d (.pt (eCollation.cells a0))), (5, .d (.pt (eEntry.cells t13))), (7, .d (di x))], []⟩) hy2 (weak_cov ⟨rfl, rfl, rfl, rfl, trivial⟩ trivial) ?_
      rintro v7 sy2 hsy2
      replace hsy2 : ref43_entry_L1 t13 v7 = some sy2 := hsy2
      unfold ref43_entry_L1 at hsy2
      refine avc_sq2 <| avc_sq2 <| avc_sq ?_
      refine sqa (a_move_d (lq rfl) rfl) ?_
      refine sqa (m_fieldPt (lq rfl) L55_1 rfl) ?_
      refine sqa (a_load_ip (lq rfl) O31 rfl rfl) ?_
      refine sqa (m_len (en := eElement) (l := t13.Elements) (lq rfl) S31 rfl) ?_
      refine sqa (a_lss (lq rfl) rfl rfl) ?_
      refine sq_nil ?_
      refine avc_if rfl ⟨fun c4 => ?_, fun c4 => ?_⟩
      ·
       replace hsy2 := cT c4 hsy2
       refine avc_skip <| avc_sq2 <| avc_block <| avc_sq2 <| avc_sq ?_
       refine sqa (m_fieldPt (lq rfl) L55_1 rfl) ?_
       refine sqa (a_load_ip (lq rfl) O31 rfl rfl) ?_
       refine sqa (a_move_d (lq rfl) rfl) ?_
       obtain ⟨t55, ht55, hsy2'⟩ := bE hsy2; clear hsy2
       refine sqa (m_index (en := eElement) (lq rfl) S31 rfl rfl ht55) ?_
       refine sqa (m_loadEA (en := eElement) (l := t13.Elements) (i := v7) (v := t55) (off := 0) (lq rfl) G63 rfl ht55 rfl rfl (by decide)) ?_
       obtain ⟨t57, ht57, hsy2⟩ := bE hsy2'; clear hsy2'
       refine sqa (a_call (lq rfl) rfl (ref42_Check_c ht57)) ?_
       refine sqa (a_assign_d (lq rfl) rfl) ?_
       refine sq_nil <| avc_sq2 <| avc_sq ?_
       refine sqa (a_move_d (lq rfl) rfl) ?_
       refine sqa (a_neq (lq rfl) rfl rfl) ?_
       refine sq_nil ?_
       refine avc_if rfl ⟨fun c5 => ?_, fun c5 => ?_⟩
       ·
        replace hsy2 := cT c5 hsy2
        refine avc_sq2 <| avc_sq ?_
        refine sqa (a_move_d (lq rfl) rfl) ?_
        refine sqa (a_assign_d (lq rfl) rfl) ?_
        refine sq_nil ?_
        refine avc_ret ?_
        cases hsy2
        intro q; cases q
       ·
        replace hsy2 := cF c5 hsy2
        refine avc_skip <| avc_sq ?_
        refine sqa (a_move_d (lq rfl) rfl) ?_
        refine sqa (m_add (lq rfl) rfl rfl) ?_
        refine sqa (a_assign_d (lq rfl) rfl) ?_
        refine sq_nil ?_
        cases hsy2
        exact weak_cov ⟨rfl, rfl, rfl, rfl, trivial⟩ trivial
      ·
       replace hsy2 := cF c4 hsy2
       refine avc_exit ?_
       cases hsy2
       intro q; cases q
       exact out_mk (weak_cov ⟨rfl, rfl, rfl, trivial⟩ trivial)
     ·
      refine avc_sq2 <| avc_sq2 <| avc_sq ?_
      refine sqa (a_assign_d (lq rfl) rfl) ?_
      refine sq_nil <| avc_block ?_
      obtain ⟨y3, hy3, h⟩ := bE h'; clear h'
      rcases y3 with y3 | y3
      ·
       replace h := eL h
       refine avc_tail (e := .exit 4) (S2 := ⟨[(1, .d (di a1)), (2, .d (.pt (eCollation.cells a0))), (5, .d (.pt (eEntry.cells t13)))], []⟩) ?_ ?_
       ·
        refine avc_loopM (fun x => ⟨[(1, .d (di a1)), (2, .d (.pt (eCollation.cells a0))), (5, .d (.pt (eEntry.cells t13))), (9, .d (di x))], []⟩) hy3 (weak_cov ⟨rfl, rfl, rfl, rfl, trivial⟩ trivial) ?_
        rintro v9 sy3 hsy3
        replace hsy3 : ref43_entry_L2 t13 a0 v9 = some sy3 := hsy3
        unfold ref43_entry_L2 at hsy3
        refine avc_sq2 <| avc_sq2 <| avc_sq ?_
        refine sqa (a_move_d (lq rfl) rfl) ?_
        refine sqa (m_fieldPt (lq rfl) L55_1 rfl) ?_
        refine sqa (a_load_ip (lq rfl) O31 rfl rfl) ?_
        refine sqa (m_len (en := eElement) (l := t13.Elements) (lq rfl) S31 rfl) ?_
        refine sqa (a_lss (lq rfl) rfl rfl) ?_
        refine sq_nil ?_
        refine avc_if rfl ⟨fun c6 => ?_, fun c6 => ?_⟩
        ·
         replace hsy3 := cT c6 hsy3
         refine avc_skip <| avc_sq2 <| avc_block <| avc_sq2 ?_
         refine avc_drawA MX rfl ?_
         refine daa (m_fieldPt (lq rfl) L55_1 rfl) ?_
         refine daa (a_load_ip (lq rfl) O31 rfl rfl) ?_
         refine daa (a_move_d (lq rfl) rfl) ?_
         obtain ⟨t71, ht71, hsy3'⟩ := bE hsy3; clear hsy3
         refine daa (m_index (en := eElement) (lq rfl) S31 rfl rfl ht71) ?_
         refine daa (a_fieldAddr_ip (lq rfl) L63_0 rfl) ?_
         refine daa (m_loadE (en := eElement) (l := t13.Elements) (i := v9) (v := t71) (off := 0) (lq rfl) O3 rfl ht71 rfl) ?_
         refine daa (m_fieldPt (lq rfl) L25_2 rfl) ?_
         refine daa (a_load_ip (lq rfl) O3 rfl rfl) ?_
         refine daa (a_geq (lq rfl) rfl rfl) ?_
         refine da_nil ?_
         refine avc_if rfl ⟨fun c7 => ?_, fun c7 => ?_⟩
         ·
          replace hsy3' := cT c7 hsy3'
          refine avc_sq2 <| avc_sq ?_
          refine sqa (a_assign_d (lq rfl) rfl) ?_
          refine sq_nil ?_
          refine avc_ret ?_
          cases hsy3'
          intro q; cases q
         ·
          replace hsy3' := cF c7 hsy3'
          refine avc_skip <| avc_sq ?_
          refine sqa (a_move_d (lq rfl) rfl) ?_
          refine sqa (m_add (lq rfl) rfl rfl) ?_
          refine sqa (a_assign_d (lq rfl) rfl) ?_
          refine sq_nil ?_
          cases hsy3'
          exact weak_cov ⟨rfl, rfl, rfl, rfl, trivial⟩ trivial
        ·
         replace hsy3 := cF c6 hsy3
         refine avc_exit ?_
         cases hsy3
         intro q; cases q
         exact out_mk (weak_cov ⟨rfl, rfl, rfl, trivial⟩ trivial)
       ·
        refine avc_sq2 <| avc_sq2 ?_
        refine avc_drawA MX rfl ?_
        refine daa (a_move_d (lq rfl) rfl) ?_
        refine daa (a_gtr (lq rfl) rfl rfl) ?_
        obtain ⟨b79, hb79, h'⟩ := bE h; clear h
        refine daa ((a_move_d (lq rfl) rfl).bool (Option.some.inj hb79)) ?_
        refine da_g (x := .ip (eCollation.cells a0) (0 + 0)) rfl rfl rfl (lq rfl) (lq rfl) rfl (fun hb => by obtain rfl : b79 = true := hb; exact m_fieldPt (lq rfl) L25_0 rfl) ?_
        refine da_g (x := .d (dsl eEntry a0.Entries)) rfl rfl rfl (lq rfl) (lq rfl) rfl (fun hb => by obtain rfl : b79 = true := hb; exact a_load_ip (lq rfl) O22 rfl rfl) ?_
        refine da_g (x := .d (di a1)) rfl rfl rfl (lq rfl) (lq rfl) rfl (fun hb => by obtain rfl : b79 = true := hb; exact a_move_d (lq rfl) rfl) ?_
        refine da_g (x := .d (di (wi (a1 - 1)))) rfl rfl rfl (lq rfl) (lq rfl) rfl (fun hb => by obtain rfl : b79 = true := hb; exact m_sub (lq rfl) rfl rfl) ?_
        obtain ⟨t84, ht84, h⟩ := bE h'; clear h'
        refine da_g (x := .ip (eEntry.all a0.Entries) ((wi (a1 - 1)).toNat * eEntry.size)) rfl rfl rfl (lq rfl) (lq rfl) rfl (fun hb => by obtain rfl : b79 = true := hb; exact m_index (en := eEntry) (lq rfl) S22 rfl rfl ht84) ?_
        refine da_g (x := .ip (eEntry.all a0.Entries) ((wi (a1 - 1)).toNat * eEntry.size + 0)) rfl rfl rfl (lq rfl) (lq rfl) rfl (fun hb => by obtain rfl : b79 = true := hb; exact a_fieldAddr_ip (lq rfl) L55_0 rfl) ?_
        refine da_g (x := .d (dsl eI t84.Codes)) rfl rfl rfl (lq rfl) (lq rfl) rfl (fun hb => by obtain rfl : b79 = true := hb; exact m_loadE (en := eEntry) (l := a0.Entries) (i := (wi (a1 - 1))) (v := t84) (off := 0) (lq rfl) O30 rfl ht84 rfl) ?_
        refine da_g (x := .ip (eEntry.cells t13) (0 + 0)) rfl rfl rfl (lq rfl) (lq rfl) rfl (fun hb => by obtain rfl : b79 = true := hb; exact m_fieldPt (lq rfl) L55_0 rfl) ?_
        refine da_g (x := .d (dsl eI t13.Codes)) rfl rfl rfl (lq rfl) (lq rfl) rfl (fun hb => by obtain rfl : b79 = true := hb; exact a_load_ip (lq rfl) O30 rfl rfl) ?_
        obtain ⟨t89, ht89, h'⟩ := bE h; clear h
        refine da_g (x := .d (di t89)) rfl rfl rfl (lq rfl) (lq rfl) rfl (fun hb => by obtain rfl : b79 = true := hb; exact a_call (lq rfl) rfl (ref01_Compare_c ht89)) ?_
        refine da_g (x := .d (db (decide (0 ≤ t89)))) rfl rfl rfl (lq rfl) (lq rfl) rfl (fun hb => by obtain rfl : b79 = true := hb; exact a_geq (lq rfl) rfl rfl) ?_
        refine daa (a_pick_and (lq rfl) rfl rfl) ?_
        refine da_nil ?_
        refine avc_if rfl ⟨fun c8 => ?_, fun c8 => ?_⟩
        ·
         replace h' := cT c8 h'
         refine avc_sq2 <| avc_sq ?_
         refine sqa (a_assign_d (lq rfl) rfl) ?_
         refine sq_nil ?_
         cases h'
         refine avc_ret ?_
         exact ret_1 rfl
        ·
         replace h' := cF c8 h'
         refine avc_skip <| avc_sq2 <| avc_sq ?_
         refine sqa (a_assign_d (lq rfl) rfl) ?_
         refine sq_nil ?_
         cases h'
         refine avc_ret ?_
         exact ret_1 rfl
      ·
       replace h := eR h
       refine avc_tail (e := .ret) (S2 := ⟨[(4, .d (di y3))], []⟩) ?_ ?_
       ·
        refine avc_loopM (fun x => ⟨[(1, .d (di a1)), (2, .d (.pt (eCollation.cells a0))), (5, .d (.pt (eEntry.cells t13))), (9, .d (di x))], []⟩) hy3 (weak_cov ⟨rfl, rfl, rfl, rfl, trivial⟩ trivial) ?_
        rintro v9 sy3 hsy3
        replace hsy3 : ref43_entry_L2 t13 a0 v9 = some sy3 := hsy3
        unfold ref43_entry_L2 at hsy3
        refine avc_sq2 <| avc_sq2 <| avc_sq ?_
        refine sqa (a_move_d (lq rfl) rfl) ?_
        refine sqa (m_fieldPt (lq rfl) L55_1 rfl) ?_
        refine sqa (a_load_ip (lq rfl) O31 rfl rfl) ?_
        refine sqa (m_len (en := eElement) (l := t13.Elements) (lq rfl) S31 rfl) ?_
        refine sqa (a_lss (lq rfl) rfl rfl) ?_
        refine sq_nil ?_
        refine avc_if rfl ⟨fun c6 => ?_, fun c6 => ?_⟩
        ·
         replace hsy3 := cT c6 hsy3
         refine avc_skip <| avc_sq2 <| avc_block <| avc_sq2 ?_
         refine avc_drawA MX rfl ?_
         refine daa (m_fieldPt (lq rfl) L55_1 rfl) ?_
         refine daa (a_load_ip (lq rfl) O31 rfl rfl) ?_
         refine daa (a_move_d (lq rfl) rfl) ?_
         obtain ⟨t71, ht71, hsy3'⟩ := bE hsy3; clear hsy3
         refine daa (m_index (en := eElement) (lq rfl) S31 rfl rfl ht71) ?_
         refine daa (a_fieldAddr_ip (lq rfl) L63_0 rfl) ?_
         refine daa (m_loadE (en := eElement) (l := t13.Elements) (i := v9) (v := t71) (off := 0) (lq rfl) O3 rfl ht71 rfl) ?_
         refine daa (m_fieldPt (lq rfl) L25_2 rfl) ?_
         refine daa (a_load_ip (lq rfl) O3 rfl rfl) ?_
         refine daa (a_geq (lq rfl) rfl rfl) ?_
         refine da_nil ?_
         refine avc_if rfl ⟨fun c7 => ?_, fun c7 => ?_⟩
         ·
          replace hsy3' := cT c7 hsy3'
          refine avc_sq2 <| avc_sq ?_
          refine sqa (a_assign_d (lq rfl) rfl) ?_
          refine sq_nil ?_
          refine avc_ret ?_
          cases hsy3'
          intro q; cases q
          exact out_mk (weak_cov ⟨rfl, trivial⟩ trivial)
         ·
          replace hsy3' := cF c7 hsy3'
          refine avc_skip <| avc_sq ?_
          refine sqa (a_move_d (lq rfl) rfl) ?_
          refine sqa (m_add (lq rfl) rfl rfl) ?_
          refine sqa (a_assign_d (lq rfl) rfl) ?_
          refine sq_nil ?_
          cases hsy3'
          exact weak_cov ⟨rfl, rfl, rfl, rfl, trivial⟩ trivial
        ·
         replace hsy3 := cF c6 hsy3
         refine avc_exit ?_
         cases hsy3
         intro q; cases q
       ·
        cases h
        exact ret_1 rfl
    ·
     replace h' := eR h'
     refine avc_tail (e := .ret) (S2 := ⟨[(4, .d (di y2))], []⟩) ?_ ?_
     ·
      refine avc_loopM (fun x => ⟨[(1, .d (di a1)), (2, .d (.pt (eCollation.cells a0))), (5, .d (.pt (eEntry.cells t13))), (7, .d (di x))], []⟩) hy2 (weak_cov ⟨rfl, rfl, rfl, rfl, trivial⟩ trivial) ?_
      rintro v7 sy2 hsy2
      replace hsy2 : ref43_entry_L1 t13 v7 = some sy2 := hsy2
      unfold ref43_entry_L1 at hsy2
      refine avc_sq2 <| avc_sq2 <| avc_sq ?_
      refine sqa (a_move_d (lq rfl) rfl) ?_
      refine sqa (m_fieldPt (lq rfl) L55_1 rfl) ?_
      refine sqa (a_load_ip (lq rfl) O31 rfl rfl) ?_
      refine sqa (m_len (en := eElement) (l := t13.Elements) (lq rfl) S31 rfl) ?_
      refine sqa (a_lss (lq rfl) rfl rfl) ?_
      refine sq_nil ?_
      refine avc_if rfl ⟨fun c4 => ?_, fun c4 => ?_⟩
      ·
       replace hsy2 := cT c4 hsy2
       refine avc_skip <| avc_sq2 <| avc_block <| avc_sq2 <| avc_sq ?_
       refine sqa (m_fieldPt (lq rfl) L55_1 rfl) ?_
       refine sqa (a_load_ip (lq rfl) O31 rfl rfl) ?_
       refine sqa (a_move_d (lq rfl) rfl) ?_
       obtain ⟨t55, ht55, hsy2'⟩ := bE hsy2; clear hsy2
       refine sqa (m_index (en := eElement) (lq rfl) S31 rfl rfl ht55) ?_
       refine sqa (m_loadEA (en := eElement) (l := t13.Elements) (i := v7) (v := t55) (off := 0) (lq rfl) G63 rfl ht55 rfl rfl (by decide)) ?_
       obtain ⟨t57, ht57, hsy2⟩ := bE hsy2'; clear hsy2'
       refine sqa (a_call (lq rfl) rfl (ref42_Check_c ht57)) ?_
       refine sqa (a_assign_d (lq rfl) rfl) ?_
       refine sq_nil <| avc_sq2 <| avc_sq ?_
       refine sqa (a_move_d (lq rfl) rfl) ?_
       refine sqa (a_neq (lq rfl) rfl rfl) ?_
       refine sq_nil ?_
       refine avc_if rfl ⟨fun c5 => ?_, fun c5 => ?_⟩
       ·
        replace hsy2 := cT c5 hsy2
        refine avc_sq2 <| avc_sq ?_
        refine sqa (a_move_d (lq rfl) rfl) ?_
        refine sqa (a_assign_d (lq rfl) rfl) ?_
        refine sq_nil ?_
        refine avc_ret ?_
        cases hsy2
        intro q; cases q
        exact out_mk (weak_cov ⟨rfl, trivial⟩ trivial)
       ·
        replace hsy2 := cF c5 hsy2
        refine avc_skip <| avc_sq ?_
        refine sqa (a_move_d (lq rfl) rfl) ?_
        refine sqa (m_add (lq rfl) rfl rfl) ?_
        refine sqa (a_assign_d (lq rfl) rfl) ?_
        refine sq_nil ?_
        cases hsy2
        exact weak_cov ⟨rfl, rfl, rfl, rfl, trivial⟩ trivial
      ·
       replace hsy2 := cF c4 hsy2
       refine avc_exit ?_
       cases hsy2
       intro q; cases q
     ·
      cases h'
      exact ret_1 rfl
  ·
   replace h := eR h
   refine avc_tail (e := .ret) (S2 := ⟨[(4, .d (di y1))], []⟩) ?_ ?_
   ·
    refine avc_loopM (fun x => ⟨[(1, .d (di a1)), (2, .d (.pt (eCollation.cells a0))), (5, .d (.pt (eEntry.cells t13))), (6, .d (di x))], []⟩) hy1 (weak_cov ⟨rfl, rfl, rfl, rfl, trivial⟩ trivial) ?_
    rintro v6 sy1 hsy1
    replace hsy1 : ref43_entry_L0 t13 v6 = some sy1 := hsy1
    unfold ref43_entry_L0 at hsy1
    refine avc_sq2 <| avc_sq2 <| avc_sq ?_
    refine sqa (a_move_d (lq rfl) rfl) ?_
    refine sqa (m_fieldPt (lq rfl) L55_0 rfl) ?_
    refine sqa (a_load_ip (lq rfl) O30 rfl rfl) ?_
    refine sqa (m_len (en := eI) (l := t13.Codes) (lq rfl) S30 rfl) ?_
    refine sqa (a_lss (lq rfl) rfl rfl) ?_
    refine sq_nil ?_
    refine avc_if rfl ⟨fun c2 => ?_, fun c2 => ?_⟩
    ·
     replace hsy1 := cT c2 hsy1
     refine avc_skip <| avc_sq2 <| avc_block <| avc_sq2 <| avc_sq ?_
     refine sqa (m_fieldPt (lq rfl) L55_0 rfl) ?_
     refine sqa (a_load_ip (lq rfl) O30 rfl rfl) ?_
     refine sqa (a_move_d (lq rfl) rfl) ?_
     obtain ⟨t41, ht41, hsy1'⟩ := bE hsy1; clear hsy1
     refine sqa (m_index (en := eI) (lq rfl) S30 rfl rfl ht41) ?_
     refine sqa (m_loadE (en := eI) (l := t13.Codes) (i := v6) (v := t41) (off := 0) (lq rfl) O3 rfl ht41 rfl) ?_
     obtain ⟨t43, ht43, hsy1⟩ := bE hsy1'; clear hsy1'
     refine sqa (a_call (lq rfl) rfl (ref01_Valid_c ht43)) ?_
     refine sqa (a_not (lq rfl) rfl) ?_
     refine sq_nil ?_
     refine avc_if rfl ⟨fun c3 => ?_, fun c3 => ?_⟩
     ·
      replace hsy1 := cT c3 hsy1
      refine avc_sq2 <| avc_sq ?_
      refine sqa (a_assign_d (lq rfl) rfl) ?_
      refine sq_nil ?_
      refine avc_ret ?_
      cases hsy1
      intro q; cases q
      exact out_mk (weak_cov ⟨rfl, trivial⟩ trivial)
     ·
      replace hsy1 := cF c3 hsy1
      refine avc_skip <| avc_sq ?_
      refine sqa (a_move_d (lq rfl) rfl) ?_
      refine sqa (m_add (lq rfl) rfl rfl) ?_
      refine sqa (a_assign_d (lq rfl) rfl) ?_
      refine sq_nil ?_
      cases hsy1
      exact weak_cov ⟨rfl, rfl, rfl, rfl, trivial⟩ trivial
    ·
     replace hsy1 := cF c2 hsy1
     refine avc_exit ?_
     cases hsy1
     intro q; cases q
   ·
    cases h
    exact ret_1 rfl

end Go.Proofs.YtgeaoceiacdadaaDoor.Walk
